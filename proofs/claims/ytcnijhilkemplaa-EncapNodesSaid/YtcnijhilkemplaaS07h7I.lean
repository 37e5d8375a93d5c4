/- Contracts of functions of the program, or a row of the seat, proved out of them. No condition beyond those that stand in each statement. -/
import Derived.Test.YtcnijhilkemplaaS07h7H
import Derived.Test.YtcnijhilkemplaaS07h2R
namespace Go.Proofs.S07.E7
open Go Go.SE
open Go.Proofs.S07.O6 (Opt optT okOpt putS putE takeO takeE zeroO)
open Go.Proofs.S07.I2 (Hd hdT okHd putL parseE parseS zeroHd)
set_option maxRecDepth 100000
set_option maxHeartbeats 4000000
def bitV (s : Int) : Int := if s = 0 then 1 else if s = 1 then 2 else if s = 2 then 4 else if s = 3 then 8 else if s = 4 then 16 else if s = 5 then 32 else if s = 6 then 64 else 128
theorem sp_bit {s : Int} (h0 : 0 ≤ s) (h1 : s < 8) : specI .shl .u8 1 s (bitV s) := by
  have : s = 0 ∨ s = 1 ∨ s = 2 ∨ s = 3 ∨ s = 4 ∨ s = 5 ∨ s = 6 ∨ s = 7 := by omega
  unfold specI
  rcases this with h | h | h | h | h | h | h | h <;> subst h <;> exact ⟨by decide, by decide⟩
attribute [local irreducible] specI okOpt putL parseE parseS takeE takeO putS




attribute [local irreducible] wrB okTake takeW takeD


/-! ### a bit that is turned -/
theorem wrB_0 {w : Wr} (h : w.Wf) (hk : okWr w) : (wrB w).getD 0 0 = 73 := by
  have e : (putS w.opt).length = 16 := (O6.take_put h.opt hk.2.2).2.2
  rw [wrB_is hk]
  unfold putL
  rw [if_pos (putHd_ok h hk.2.2)]
  show 69 + (((putS w.opt).length : Nat) : Int) / 4 = 73
  rw [e]; rfl
theorem bit_bad {w : Wr} (h : w.Wf) (hl : w.inner.length ≤ 3000) (hk : okWr w) {i : Nat} {x : Int} (hi : i < 36) (hx : 0 ≤ x ∧ x ≤ 255) (hne : x ≠ (wrB w).getD i 0) : takeW ((wrB w).set i x) = zeroWr ∧ takeD ((wrB w).set i x) = 13 := by
  have hb := wrB_bytes h (by omega)
  have hlen := wrB_len h hk
  refine take_no fun hok => ?_
  unfold okTake at hok
  have hbc : ∀ y ∈ (wrB w).set i x, 0 ≤ y ∧ y ≤ 255 := by
    intro y hy
    rcases List.mem_or_eq_of_mem_set hy with q | q
    · exact hb y q
    · rw [q]; exact hx
  have hcl : ((wrB w).set i x).length ≤ 4000 := by rw [List.length_set]; omega
  by_cases h0 : i = 0
  · subst h0
    have := wrB_0 (cand_wf hbc hcl) (cand_ok hbc hcl hok.2.1 hok.2.2.1 hok.2.2.2.1)
    rw [hok.2.2.2.2, I2.getD_set_eq (by omega)] at this
    exact hne (by rw [this, wrB_0 h hk])
  · refine I2.byte_bad hb (I2.good_iff.1 (wr_parse h (by omega) hk).1) ⟨by omega, ?_⟩ hx hne hok.1
    unfold I2.hN
    rw [wrB_0 h hk]; omega

theorem bitV_bd (s : Int) : 1 ≤ bitV s ∧ bitV s ≤ 255 := by
  unfold bitV
  repeat' split
  all_goals decide
theorem lsame36 {l r : List Int} (n m : Nat) (h : l.drop 36 = r) (hn : r.length = n) (hm : r.length = m) : CallCon Try.prog 17 [.one (.sl 0 36 n), .one (.sl 1 0 m)] [.row (ints .u8 l) 1 5 false, .row (ints .u8 r) 1 5 false] (.t (.one (.v (.bool true)))) [] := by
  subst hm; subst hn
  have e : List.take (r.length * (0 + 1)) (List.drop (36 * (0 + 1)) (ints .u8 l)) = ints .u8 r := by
    rw [I2.ints_view, h, List.take_length]
  have : CallCon Try.prog 17 [.one (.sl 0 36 r.length), .one (.sl 1 0 r.length)] [.row (ints .u8 l) 1 5 false, .row (ints .u8 r) 1 5 false] (.t (.one (.b true))) [] := by
    refine con_of_call2 rfl ?_
    refine call_inline Try.func17 rfl rfl ?_
    intro _
    repeat' (refine is_asked ?_; (first | (refine asked _ (tostr_ask (l := r) e rfl) ?_) | refine asked _ (tostr_ask (take_ints _ _) rfl) ?_); intro u; clear u)
    simp only [beq_self_eq_true]
    (refine con_end ?_ rfl; intro u; clear u; refine ⟨rfl, rfl, EntGoal.mk ?_ ?_⟩ <;> (repeat' (first | exact trivial | (with_reducible rfl) | apply And.intro | rfl)))
  exact con_known this
theorem refsameN {a : Wr} (ha : a.Wf) : CallCon Try.prog 18 [wrT a 0, .agg [.v (.int .u8 0), .v (.int .i64 0), .v (.int .u8 0), .v (.int .i64 0), .v (.int .u8 0), .v (.int .u8 0), .v (.int .i64 0), .v (.int .i64 0), .v (.int .i64 0), .v (.int .i64 0), .v (.slice none 0 0)]]
    [.row (ints .u8 a.inner) 1 5 false] (.t (.one (.b (a = zeroWr)))) [] := by
  have hz : zeroWr.Wf := ⟨⟨by decide, by decide⟩, ⟨by decide, by decide⟩, ⟨by decide, by decide, by decide, by decide⟩, by simp [zeroWr]⟩
  exact con_nil (sz := 1) (e := 5) _ [.row (ints .u8 a.inner) 1 5 false] rfl (refsame_con ha hz) (by repeat' (first | exact trivial | exact rfl | exact Or.inl rfl | apply And.intro)) rfl

theorem back_con {w : Wr} {bit : Int} (hw : w.Wf) (hbit : -9223372036854775808 ≤ bit ∧ bit ≤ 9223372036854775807) :
    CallCon Try.prog 4 [wrT w 0, .one (.v (.int .i64 bit))] [.row (ints .u8 w.inner) 1 5 false] (.t (.one (.v (.bool true)))) [] := by
  by_cases hc : w.inner.length ≤ 3000
  · have A1 := addr_con w.frm
    have A2 := addr_con w.to
    have P1 := put_con hw (by omega)
    have R1 := O6.refright_con hw.opt
    by_cases hk : okWr w
    · have hlen := wrB_len hw hk
      have hbb := wrB_bytes hw (by omega)
      obtain ⟨t1, t2⟩ := wr_back hw (by omega) hk
      have X1 := take_con hbb (by omega)
      rw [t1, t2] at X1
      replace X1 := con_num2 X1
      rw [show wrD w = 0 from if_pos hk] at P1
      replace P1 := con_num2 P1
      rw [decide_eq_true hk.1] at A1
      rw [decide_eq_true hk.2.1] at A2
      replace A1 := con_known2 A1
      replace A2 := con_known2 A2
      rw [hk.2.2] at R1
      replace R1 := con_known R1
      have S1 := con_yes (refsame_con hw hw) rfl
      have hd : (wrB w).drop 36 = w.inner := by
        have e : (putS w.opt).length = 16 := (O6.take_put hw.opt hk.2.2).2.2
        rw [wrB_is hk]
        unfold putL
        rw [if_pos (putHd_ok hw hk.2.2)]
        have : (I2.headL (putHd w) (I2.putK (putHd w))).length = 36 := by rw [I2.head_len]; show 20 + (putS w.opt).length = 36; omega
        rw [← this, List.drop_left]; rfl
      have L1 := lsame36 ((wrB w).length - 36) w.inner.length hd (by omega) rfl
      obtain ⟨j1, hj1⟩ : ∃ j : Int, bit.tmod 288 = j := ⟨_, rfl⟩
      obtain ⟨j, hj⟩ : ∃ j2 : Int, (j1 + 288).tmod 288 = j2 := ⟨_, rfl⟩
      have b1 : -288 < j1 ∧ j1 < 288 := by rw [← hj1]; exact I2.tmod_bd (by omega)
      have b2 : 0 ≤ j ∧ j < 288 := by rw [← hj]; exact I2.tmod_nn (by omega) (by omega)
      have hidx : (j / 8).toNat < (wrB w).length := by omega
      have hg := I2.getD_bd hbb (by decide) (j / 8).toNat
      have hv := bitV_bd (j % 8)
      have f1 := I2.flipV_bd hg (y := bitV (j % 8)) (by omega)
      have f2 := I2.flipV_ne hg hv
      obtain ⟨z1, z2⟩ := bit_bad hw hc hk (i := (j / 8).toNat) (by omega) f1 f2
      have hb2 : ∀ y ∈ (wrB w).set (j / 8).toNat (I2.flipV ((wrB w).getD (j / 8).toNat 0) (bitV (j % 8))), 0 ≤ y ∧ y ≤ 255 := by
        intro y hy
        rcases List.mem_or_eq_of_mem_set hy with h | h
        · exact hbb y h
        · rw [h]; exact f1
      have hY := take_con hb2 (by rw [List.length_set]; omega)
      rw [z1, z2, List.length_set, ← Nat.zero_add (wrB w).length] at hY
      replace hY := con_num2 hY
      have Z1 := con_yes (refsameN (a := zeroWr) ⟨⟨by decide, by decide⟩, ⟨by decide, by decide⟩, ⟨by decide, by decide, by decide, by decide⟩, by simp [zeroWr]⟩) rfl
      generalize wrB w = L at *
      have hset := I2.setVals_set .u8 L (j / 8).toNat (I2.flipV (L.getD (j / 8).toNat 0) (bitV (j % 8))) hidx
      have hvw : List.take (L.length * (0 + 1)) (List.drop (0 * (0 + 1)) (ints .u8 L)) = ints .u8 L := by simp [← ints_length .u8 L]
      refine con_of_call2 rfl ?_
      refine call_inline Try.func4 rfl rfl ?_
      intro _
      repeat' (first | (refine is_split ?_; refine sp_no (by (first | exact dec_f (by omega) | exact ndec_f (by omega))) ?_ <;> (intro u; clear u)) | (refine is_asked ?_; (first | (refine is_spec ?_; (first | (refine asked j1 (by rw [← hj1]; exact sp_rem' (by omega)) ?_) | (refine asked j (by rw [← hj]; exact sp_rem' (by omega)) ?_) | (refine asked _ (sp_rem (by omega) (by omega)) ?_) | (refine asked _ (sp_quo (by omega) (by omega) (by simp only [lo, hi]; omega)) ?_) | (refine asked _ (sp_bit (by omega) (by omega)) ?_) | (refine asked (I2.flipV (L.getD (j / 8).toNat 0) (bitV (j % 8))) (sp_xor (by decide) (by omega) (by simp only [lo, hi]; omega) (by omega) (by simp only [lo, hi]; omega)) ?_) | (with_reducible refine asked _ (sp_add (by simp only [lo, hi]; omega) (by simp only [lo, hi]; omega)) ?_))) | (refine is_wrap ?_; refine asked _ (wrap_lohi (by simp only [lo, hi]; omega) (by simp only [lo, hi]; omega)) ?_) | (refine asked (36, L.length) ⟨rfl, rfl, by omega, by simp only; omega⟩ ?_) | (refine asked (ints .u8 L) ⟨by rw [hvw]; rfl, rfl, by rw [hvw, ints_length]; show _ = _ * 1; omega, by unfold maxLen; omega, by show _ * 1 ≤ _; omega⟩ ?_) | (refine asked _ (ix_eq (j / 8).toNat (by show (0 + (j / 8).toNat) * 1 = _; omega) hidx) ?_) | (refine asked (ints .u8 (L.set (j / 8).toNat (I2.flipV (L.getD (j / 8).toNat 0) (bitV (j % 8))))) ⟨by show setVals _ ((0 + (j / 8).toNat) * 1) _ = _; rw [Nat.zero_add, Nat.mul_one]; exact hset, by rw [ints_length]; show (0 + (j / 8).toNat) * 1 + 1 ≤ _; omega⟩ ?_) | refine asked () ⟨by omega, by omega⟩ ?_); intro u; clear u) | (refine is_draw ?_; refine draw_step mixed (by kernel_rfl) ?_; intro u; clear u) | (refine is_call ?_; (first | refine call_auto (wakes_con) (lets_rfl rfl) (by exact trivial) rfl ?_ | refine call_auto (A1) (lets_rfl rfl) (by exact trivial) rfl ?_ | refine call_auto (A2) (lets_rfl rfl) (by exact trivial) rfl ?_ | refine call_auto (P1) (lets_rfl rfl) (by exact ⟨⟨_, rfl, rfl, rfl⟩, trivial⟩) rfl ?_ | refine call_auto (R1) (lets_rfl rfl) (by exact trivial) rfl ?_ | refine call_auto (X1) (lets_rfl rfl) (by exact ⟨⟨_, rfl, rfl, rfl⟩, trivial⟩) rfl ?_ | refine call_auto (hY) (lets_rfl rfl) (by exact ⟨⟨_, rfl, rfl, rfl⟩, trivial⟩) rfl ?_ | refine call_le (by (repeat' (first | exact trivial | apply And.intro | exact rfl)); (first | done | fail)) (Z1) (by exact ⟨⟨_, rfl, rfl, rfl⟩, trivial⟩) rfl ?_); intro u; clear u) | (refine is_dcall ?_; (first | refine dcall_auto (S1) (lets_rfl rfl) (by exact ⟨⟨_, rfl, rfl, rfl⟩, ⟨_, rfl, rfl, rfl⟩, trivial⟩) rfl ?_ | refine dcall_auto (L1) (lets_rfl rfl) (by exact ⟨⟨_, rfl, rfl, rfl⟩, ⟨_, rfl, rfl, rfl⟩, trivial⟩) rfl ?_); intro u; clear u))
      all_goals (refine con_end ?_ rfl; intro u; clear u; refine ⟨rfl, rfl, EntGoal.mk ?_ ?_⟩ <;> (repeat' (first | exact trivial | (with_reducible rfl) | apply And.intro | rfl)))
    · rw [show wrD w = 13 from if_neg hk, wrB_no hk] at P1
      rcases Bool.eq_false_or_eq_true (okOpt w.opt) with h3 | h3 <;> rw [h3] at R1 <;> replace R1 := con_known R1
      all_goals
        refine con_of_call2 rfl ?_
        refine call_inline Try.func4 rfl rfl ?_
        intro _
        repeat' (first | (refine is_split ?_; (first | refine sp_yes (by rfl) ?_ | refine sp_no (by exact dec_f (by omega)) ?_ | refine sp_ndec (fun g => ?_) (fun g => ?_)) <;> (intro u; clear u)) | (refine is_call ?_; (first | refine call_auto (wakes_con) (lets_rfl rfl) (by exact trivial) rfl ?_ | refine call_auto (A1) (lets_rfl rfl) (by exact trivial) rfl ?_ | refine call_auto (A2) (lets_rfl rfl) (by exact trivial) rfl ?_ | refine call_auto (P1) (lets_rfl rfl) (by exact ⟨⟨_, rfl, rfl, rfl⟩, trivial⟩) rfl ?_ | refine call_auto (R1) (lets_rfl rfl) (by exact trivial) rfl ?_); intro u; clear u))
        all_goals first
          | exact (hk ⟨by assumption, by assumption, h3⟩).elim
          | ((refine con_end ?_ rfl; intro u; clear u; refine ⟨rfl, rfl, EntGoal.mk ?_ ?_⟩ <;> (repeat' (first | exact trivial | (with_reducible rfl) | apply And.intro | rfl))); done)
  · refine con_of_call2 rfl ?_
    refine call_inline Try.func4 rfl rfl ?_
    intro _
    repeat' (first | (refine is_split ?_; refine sp_yes (by exact dec_t (by omega)) ?_ <;> (intro u; clear u)) | (refine is_call ?_; refine call_auto (wakes_con) (lets_rfl rfl) (by exact trivial) rfl ?_; intro u; clear u))
    all_goals first
      | (exfalso; omega)
      | (refine con_end ?_ rfl; intro u; clear u; refine ⟨rfl, rfl, EntGoal.mk ?_ ?_⟩ <;> (repeat' (first | exact trivial | (with_reducible rfl) | apply And.intro | rfl)))
