/- Contracts of functions of the program, or a row of the seat, proved out of them. No condition beyond those that stand in each statement. -/
import Derived.Test.YtcnijhilkemplaaS07h7I
namespace Go.Proofs.S07.E7
open Go Go.SE
open Go.Proofs.S07.O6 (Opt optT okOpt putS putE takeO takeE zeroO)
open Go.Proofs.S07.I2 (Hd hdT okHd putL parseE parseS zeroHd)
set_option maxRecDepth 100000
set_option maxHeartbeats 4000000
attribute [local irreducible] specI okOpt putL parseE parseS takeE takeO putS




attribute [local irreducible] wrB okTake takeW takeD



theorem only_con {l : List Int} (hl : Bytes l) :
    CallCon Try.prog 5 [.one (.sl 0 0 l.length)] [.row (ints .u8 l) 1 5 false] (.t (.one (.v (.bool true)))) [] := by
  by_cases hc : l.length ≤ 3000
  · have T1 := take_con hl (by omega)
    by_cases hk : okTake l
    · have hk' := hk
      unfold okTake at hk'
      obtain ⟨k1, k2, k3, k4, k5⟩ := hk'
      have hcw := cand_wf hl (by omega)
      have hco := cand_ok hl (by omega) k2 k3 k4
      have hcl : (cand l).inner.length ≤ 4000 := (parse_len hl (by omega)).1
      have P1 := put_yes hcw hcl hco
      obtain ⟨q1, q2⟩ := wr_parse hcw hcl hco
      have H1 := I2.refparse_con hl (by omega)
      have R1 := O6.refright_con hcw.opt
      rw [hco.2.2] at R1
      replace R1 := con_known R1
      have L2 := con_yes (lsame_con hcw.inner hcw.inner) rfl
      have L1 := con_yes (lsame_con hl hl) rfl
      rw [k5] at P1 q1 q2
      rw [q1, q2] at H1
      replace H1 := con_num2 H1
      replace P1 := con_num2 P1
      rw [show takeW l = cand l by unfold takeW; rw [if_pos hk], show takeD l = 0 by unfold takeD; rw [if_pos hk]] at T1
      replace T1 := con_num2 T1
      generalize cand l = w at *
      refine con_of_call2 rfl ?_
      refine call_inline Try.func5 rfl rfl ?_
      intro _
      repeat' (first | (refine is_split ?_; (first | refine sp_yes (by rfl) ?_ | refine sp_no (by exact dec_f (by omega)) ?_) <;> (intro u; clear u)) | (refine is_call ?_; (first | refine call_auto (wakes_con) (lets_rfl rfl) (by exact trivial) rfl ?_ | refine call_auto (T1) (lets_rfl rfl) (by exact ⟨⟨_, rfl, rfl, rfl⟩, trivial⟩) rfl ?_ | refine call_auto (P1) (lets_rfl rfl) (by exact ⟨⟨_, rfl, rfl, rfl⟩, trivial⟩) rfl ?_ | refine call_auto (H1) (lets_rfl rfl) (by exact ⟨⟨_, rfl, rfl, rfl⟩, trivial⟩) rfl ?_ | refine call_auto (L1) (lets_rfl rfl) (by exact ⟨⟨_, rfl, rfl, rfl⟩, ⟨_, rfl, rfl, rfl⟩, trivial⟩) rfl ?_ | refine call_auto (L2) (lets_rfl rfl) (by exact ⟨⟨_, rfl, rfl, rfl⟩, ⟨_, rfl, rfl, rfl⟩, trivial⟩) rfl ?_ | refine call_auto (R1) (lets_rfl rfl) (by exact trivial) rfl ?_); intro u; clear u))
      all_goals first
        | ((refine con_end ?_ rfl; intro u; clear u; refine ⟨rfl, rfl, EntGoal.mk ?_ ?_⟩ <;> (repeat' (first | exact trivial | (with_reducible rfl) | apply And.intro | rfl))); done)
    · rw [(take_no hk).1, (take_no hk).2] at T1
      replace T1 := con_num2 T1
      have Z1 := con_yes (refsameN (a := zeroWr) ⟨⟨by decide, by decide⟩, ⟨by decide, by decide⟩, ⟨by decide, by decide, by decide, by decide⟩, by simp [zeroWr]⟩) rfl
      refine con_of_call2 rfl ?_
      refine call_inline Try.func5 rfl rfl ?_
      intro _
      repeat' (first | (refine is_split ?_; refine sp_no (by exact dec_f (by omega)) ?_ <;> (intro u; clear u)) | (refine is_call ?_; (first | refine call_auto (wakes_con) (lets_rfl rfl) (by exact trivial) rfl ?_ | refine call_auto (T1) (lets_rfl rfl) (by exact ⟨⟨_, rfl, rfl, rfl⟩, trivial⟩) rfl ?_ | refine call_le (by (repeat' (first | exact trivial | apply And.intro | exact rfl)); (first | done | fail)) (Z1) (by exact ⟨⟨_, rfl, rfl, rfl⟩, trivial⟩) rfl ?_); intro u; clear u))
      all_goals first
        | ((refine con_end ?_ rfl; intro u; clear u; refine ⟨rfl, rfl, EntGoal.mk ?_ ?_⟩ <;> (repeat' (first | exact trivial | (with_reducible rfl) | apply And.intro | rfl))); done)
  · refine con_of_call2 rfl ?_
    refine call_inline Try.func5 rfl rfl ?_
    intro _
    repeat' (first | (refine is_split ?_; refine sp_yes (by exact dec_t (by omega)) ?_ <;> (intro u; clear u)) | (refine is_call ?_; refine call_auto (wakes_con) (lets_rfl rfl) (by exact trivial) rfl ?_; intro u; clear u))
    all_goals first
      | (exfalso; omega)
      | (refine con_end ?_ rfl; intro u; clear u; refine ⟨rfl, rfl, EntGoal.mk ?_ ?_⟩ <;> (repeat' (first | exact trivial | (with_reducible rfl) | apply And.intro | rfl)))

theorem own_law_con {w : Wr} {at_ : Int} (hw : w.Wf) (hat : -9223372036854775808 ≤ at_ ∧ at_ ≤ 9223372036854775807) :
    CallCon Try.prog 7 [wrT w 0, .one (.v (.int .i64 at_))] [.row (ints .u8 w.inner) 1 5 false] (.t (.one (.v (.bool true)))) [] := by
  by_cases hc : 0 < w.inner.length ∧ w.inner.length ≤ 3000
  · obtain ⟨m, hm⟩ : ∃ m : Int, m = (w.inner.length : Int) := ⟨_, rfl⟩
    obtain ⟨j1, hj1⟩ : ∃ j : Int, at_.tmod m = j := ⟨_, rfl⟩
    obtain ⟨j, hj⟩ : ∃ j2 : Int, (j1 + m).tmod m = j2 := ⟨_, rfl⟩
    have b1 : -m < j1 ∧ j1 < m := by rw [← hj1]; exact I2.tmod_bd (by omega)
    have b2 : 0 ≤ j ∧ j < m := by rw [← hj]; exact I2.tmod_nn (by omega) (by omega)
    have hidx : j.toNat < w.inner.length := by omega
    have hg := I2.getD_bd hw.inner (by decide) j.toNat
    have P1 := put_con hw (by omega)
    have O1 := own_con (a := w) (by omega)
    by_cases hk : okWr w
    · have hlen := wrB_len hw hk
      have hbb := wrB_bytes hw (by omega)
      obtain ⟨t1, t2⟩ := wr_back hw (by omega) hk
      have X1 := take_con hbb (by omega)
      rw [t1, t2] at X1
      replace X1 := con_num2 X1
      rw [show wrD w = 0 from if_pos hk] at P1
      replace P1 := con_num2 P1
      have hd : (wrB w).drop 36 = w.inner := by
        have e : (putS w.opt).length = 16 := (O6.take_put hw.opt hk.2.2).2.2
        rw [wrB_is hk]
        unfold putL
        rw [if_pos (putHd_ok hw hk.2.2)]
        have : (I2.headL (putHd w) (I2.putK (putHd w))).length = 36 := by rw [I2.head_len]; show 20 + (putS w.opt).length = 36; omega
        rw [← this, List.drop_left]; rfl
      have hat2 : (wrB w).getD (36 + j.toNat) 0 = w.inner.getD j.toNat 0 := by
        rw [← hd]; simp [List.getD_eq_getElem?_getD, List.getElem?_drop]
      generalize wrB w = L at *
      have hset := I2.setVals_set .u8 w.inner j.toNat ((w.inner.getD j.toNat 0 + 1) % 256) hidx
      have hx2 : (ints .u8 L)[(0 + (36 + j).toNat) * 1]? = some (.int .u8 (w.inner.getD j.toNat 0)) := by
        rw [← hat2]
        exact ix_eq (36 + j.toNat) (by omega) (by omega)
      refine con_of_call2 rfl ?_
      refine call_inline Try.func7 rfl rfl ?_
      intro _
      repeat' (first | (refine is_split ?_; (first | refine sp_yes (by exact dec_t (by omega)) ?_ | refine sp_no (by (first | exact dec_f (by omega) | exact ndec_f (by omega))) ?_) <;> (intro u; clear u)) | (refine is_asked ?_; (first | (refine is_spec ?_; (first | (refine asked j1 (by rw [← hj1, hm]; exact sp_rem' (by omega)) ?_) | (refine asked j (by rw [← hj, hm]; exact sp_rem' (by omega)) ?_) | (refine asked _ I2.sp_addw8 ?_) | (with_reducible refine asked _ (sp_add (by simp only [lo, hi]; omega) (by simp only [lo, hi]; omega)) ?_))) | (refine asked _ (ix_eq j.toNat (by show (0 + j.toNat) * 1 = _; omega) hidx) ?_) | (refine asked _ hx2 ?_) | (refine asked (ints .u8 (w.inner.set j.toNat ((w.inner.getD j.toNat 0 + 1) % 256))) ⟨by show setVals _ ((0 + j.toNat) * 1) _ = _; rw [Nat.zero_add, Nat.mul_one]; exact hset, by rw [ints_length]; show (0 + j.toNat) * 1 + 1 ≤ _; omega⟩ ?_) | refine asked () ⟨by omega, by omega⟩ ?_); intro u; clear u) | (refine is_draw ?_; refine draw_step mixed (by kernel_rfl) ?_; intro u; clear u) | (refine is_call ?_; (first | refine call_auto (wakes_con) (lets_rfl rfl) (by exact trivial) rfl ?_ | refine call_auto (P1) (lets_rfl rfl) (by exact ⟨⟨_, rfl, rfl, rfl⟩, trivial⟩) rfl ?_ | refine call_auto (O1) (lets_rfl rfl) (by exact ⟨⟨_, rfl, rfl, rfl⟩, trivial⟩) rfl ?_ | refine call_auto (X1) (lets_rfl rfl) (by exact ⟨⟨_, rfl, rfl, rfl⟩, trivial⟩) rfl ?_); intro u; clear u))
      all_goals first
        | ((refine con_end ?_ rfl; intro u; clear u; refine ⟨rfl, rfl, EntGoal.mk ?_ ?_⟩ <;> (repeat' (first | exact trivial | (with_reducible rfl) | apply And.intro | rfl))); done)
    · rw [show wrD w = 13 from if_neg hk, wrB_no hk] at P1
      replace P1 := con_num2 P1
      have hset := I2.setVals_set .u8 w.inner j.toNat ((w.inner.getD j.toNat 0 + 1) % 256) hidx
      refine con_of_call2 rfl ?_
      refine call_inline Try.func7 rfl rfl ?_
      intro _
      repeat' (first | (refine is_split ?_; refine sp_no (by (first | exact dec_f (by omega) | exact ndec_f (by omega))) ?_ <;> (intro u; clear u)) | (refine is_asked ?_; (first | (refine is_spec ?_; (first | (refine asked j1 (by rw [← hj1, hm]; exact sp_rem' (by omega)) ?_) | (refine asked j (by rw [← hj, hm]; exact sp_rem' (by omega)) ?_) | (refine asked _ I2.sp_addw8 ?_) | (with_reducible refine asked _ (sp_add (by simp only [lo, hi]; omega) (by simp only [lo, hi]; omega)) ?_))) | (refine asked _ (ix_eq j.toNat (by show (0 + j.toNat) * 1 = _; omega) hidx) ?_) | (refine asked (ints .u8 (w.inner.set j.toNat ((w.inner.getD j.toNat 0 + 1) % 256))) ⟨by show setVals _ ((0 + j.toNat) * 1) _ = _; rw [Nat.zero_add, Nat.mul_one]; exact hset, by rw [ints_length]; show (0 + j.toNat) * 1 + 1 ≤ _; omega⟩ ?_) | refine asked () ⟨by omega, by omega⟩ ?_); intro u; clear u) | (refine is_draw ?_; refine draw_step mixed (by kernel_rfl) ?_; intro u; clear u) | (refine is_call ?_; (first | refine call_auto (wakes_con) (lets_rfl rfl) (by exact trivial) rfl ?_ | refine call_auto (P1) (lets_rfl rfl) (by exact ⟨⟨_, rfl, rfl, rfl⟩, trivial⟩) rfl ?_ | refine call_auto (O1) (lets_rfl rfl) (by exact ⟨⟨_, rfl, rfl, rfl⟩, trivial⟩) rfl ?_); intro u; clear u))
      all_goals first
        | ((refine con_end ?_ rfl; intro u; clear u; refine ⟨rfl, rfl, EntGoal.mk ?_ ?_⟩ <;> (repeat' (first | exact trivial | (with_reducible rfl) | apply And.intro | rfl))); done)
  · refine con_of_call2 rfl ?_
    refine call_inline Try.func7 rfl rfl ?_
    intro _
    repeat' (first | (refine is_split ?_; (first | refine sp_yes (by exact dec_t (by omega)) ?_ | refine sp_dec (fun g => ?_) (fun g => ?_)) <;> (intro u; clear u)) | (refine is_call ?_; refine call_auto (wakes_con) (lets_rfl rfl) (by exact trivial) rfl ?_; intro u; clear u))
    all_goals first
      | ((refine con_end ?_ rfl; intro u; clear u; refine ⟨rfl, rfl, EntGoal.mk ?_ ?_⟩ <;> (repeat' (first | exact trivial | (with_reducible rfl) | apply And.intro | rfl))); done)
      | (exfalso; omega)
