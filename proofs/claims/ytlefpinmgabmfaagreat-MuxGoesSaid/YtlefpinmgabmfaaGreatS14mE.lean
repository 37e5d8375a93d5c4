/- Contracts of functions of the program, or a row of the seat, proved out of them. No condition beyond those that stand in each statement. -/
import Derived.Test.YtlefpinmgabmfaaGreatS14mD
namespace Go.Proofs.S14.M4
open Go Go.SE
set_option maxRecDepth 100000
set_option maxHeartbeats 8000000
attribute [local irreducible] specI

theorem cl_ask (c : Cl) {a i n : Nat} (hi : i < 16) (hn : n = 4 := by exact C1.cells23) (ha : a = 2 := by rfl) : cut (C1.clS c) (a + i * n) n = C1.entS (c.tab.at i) ∧ a + i * n + n ≤ (C1.clS c).length := by
  subst hn ha
  obtain ⟨h1, h2⟩ := C1.tab_ask c.tab (a := 1) (n := 4) hi rfl rfl
  refine ⟨?_, ?_⟩
  · rw [← h1, show 2 + i * 4 = (1 + i * 4) + 1 by omega]; rfl
  · show 2 + i * 4 + 4 ≤ (C1.tabS c.tab).length + 1
    omega
theorem row_at {c : Cl} (h : c.has = true) (l : List Int) : rowAt c l = c.tab.at (bktOf l).toNat := by
  have hb := bkt_bd l
  unfold rowAt C1.clRowE
  rw [if_pos h]
  unfold C1.rowE
  rw [if_pos (by omega)]
def w5 (e : Ent) (s : Int) (l : List Int) : Wr := ⟨⟨1, s⟩, ⟨2, e.cur⟩, ⟨1, bktOf l, e.cur, e.prev, e.gen, e.tick⟩, l⟩

theorem mgoes_con {c : Cl} (hT : c.tab.rows.length = 16) {a : Int} {l : List Int} (hb : ∀ x ∈ l, 0 ≤ x ∧ x ≤ 255) :
    CallCon Tryz.prog 3 [C1.clT c, .one (.v (.int .i64 a)), .one (.sl 0 0 l.length)] [.row (ints .u8 l) 1 5 false] (.t (.one (.v (.bool true)))) [] := by
  have hW := wakes_con
  have hR := C1.refclright_con hT
  by_cases hok : C1.okCl c
  rotate_left
  · replace hR := con_no hR hok
    refine con_of_call2 rfl ?_
    refine call_inline Tryz.func3 rfl rfl ?_
    intro _
    repeat' (first | (refine is_split ?_; refine sp_dec (fun g => ?_) (fun g => ?_) <;> (intro u; clear u)) | (refine is_call ?_; (first | refine call_auto (hW) (lets_rfl rfl) (by exact trivial) rfl ?_ | refine call_auto (hR) (lets_rfl rfl) (by exact trivial) rfl ?_); intro u; clear u))
    all_goals first
      | ((refine con_end ?_ rfl; intro u; clear u; refine ⟨rfl, rfl, EntGoal.mk ?_ ?_⟩ <;> (repeat' (first | exact trivial | (with_reducible rfl) | apply And.intro | rfl))); done)
      | (exfalso; omega)
  replace hR := con_yes hR hok
  by_cases hg : l.length ≤ 200 ∧ (0 ≤ a ∧ a < 3)
  rotate_left
  · refine con_of_call2 rfl ?_
    refine call_inline Tryz.func3 rfl rfl ?_
    intro _
    repeat' (first | (refine is_split ?_; (first | refine sp_yes (by exact dec_t (by omega)) ?_ | refine sp_dec (fun g => ?_) (fun g => ?_)) <;> (intro u; clear u)) | (refine is_call ?_; (first | refine call_auto (hW) (lets_rfl rfl) (by exact trivial) rfl ?_ | refine call_auto (hR) (lets_rfl rfl) (by exact trivial) rfl ?_); intro u; clear u))
    all_goals first
      | ((refine con_end ?_ rfl; intro u; clear u; refine ⟨rfl, rfl, EntGoal.mk ?_ ?_⟩ <;> (repeat' (first | exact trivial | (with_reducible rfl) | apply And.intro | rfl))); done)
      | (exfalso; omega)
  obtain ⟨hl, ha⟩ := hg
  have h1 := Forward_con hT (s := a) ⟨by omega, by omega⟩ hb (by omega)
  have hP := K5.refparse_con hb (by omega)
  have hfw := fw_eq (c := c) ha l
  by_cases hh : c.has = true
  rotate_left
  · have hk : ¬ hasOk c := fun h => hh h.1
    rw [if_pos hk] at hfw
    obtain ⟨e5, e6⟩ := fw_no (by rw [hfw]; decide : ¬ fwE c a l = 0)
    rw [hfw, e5, e6] at h1
    generalize K5.pkE l = q at *
    generalize K5.pkS l = p at *
    obtain ⟨has, tab⟩ := c
    cases has with
    | true => exact absurd rfl hh
    | false =>
      refine con_of_call2 rfl ?_
      refine call_inline Tryz.func3 rfl rfl ?_
      intro _
      repeat' (first | (refine is_split ?_; (first | refine sp_yes (by rfl) ?_ | refine sp_no (by exact dec_f (by omega)) ?_) <;> (intro u; clear u)) | (refine is_call ?_; (first | refine call_auto (hW) (lets_rfl rfl) (by exact trivial) rfl ?_ | refine call_auto (hR) (lets_rfl rfl) (by exact trivial) rfl ?_ | refine call_auto (h1) (lets_rfl rfl) (by exact ⟨⟨_, rfl, rfl, rfl⟩, trivial⟩) rfl ?_ | refine call_auto (hP) (lets_rfl rfl) (by exact ⟨⟨_, rfl, rfl, rfl⟩, trivial⟩) rfl ?_); intro u; clear u))
      all_goals first
        | ((refine con_end ?_ rfl; intro u; clear u; refine ⟨rfl, rfl, EntGoal.mk ?_ ?_⟩ <;> (repeat' (first | exact trivial | (with_reducible rfl) | apply And.intro | rfl))); done)
        | (exfalso; omega)
        | (exfalso; simp at *; omega)
  have hk : hasOk c := ⟨hh, hok⟩
  rw [if_neg (by simpa using hk)] at hfw
  by_cases h3 : K5.pkE l = 0
  rotate_left
  · rw [if_pos h3] at hfw
    obtain ⟨e5, e6⟩ := fw_no (by rw [hfw]; exact h3 : ¬ fwE c a l = 0)
    rw [hfw, e5, e6] at h1
    rw [show K5.pkS l = K5.zeroPk from if_neg h3] at hP
    generalize K5.pkE l = q at *
    obtain ⟨has, tab⟩ := c
    cases hh
    refine con_of_call2 rfl ?_
    refine call_inline Tryz.func3 rfl rfl ?_
    intro _
    repeat' (first | (refine is_split ?_; (first | refine sp_yes (by (first | rfl | exact dec_t (by omega) | exact ndec_t (by omega))) ?_ | refine sp_no (by exact dec_f (by omega)) ?_) <;> (intro u; clear u)) | (refine is_call ?_; (first | refine call_auto (hW) (lets_rfl rfl) (by exact trivial) rfl ?_ | refine call_auto (hR) (lets_rfl rfl) (by exact trivial) rfl ?_ | refine call_auto (h1) (lets_rfl rfl) (by exact ⟨⟨_, rfl, rfl, rfl⟩, trivial⟩) rfl ?_ | refine call_auto (hP) (lets_rfl rfl) (by exact ⟨⟨_, rfl, rfl, rfl⟩, trivial⟩) rfl ?_); intro u; clear u))
    all_goals first
      | ((refine con_end ?_ rfl; intro u; clear u; refine ⟨rfl, rfl, EntGoal.mk ?_ ?_⟩ <;> (repeat' (first | exact trivial | (with_reducible rfl) | apply And.intro | rfl))); done)
      | (exfalso; omega)
      | (exfalso; simp at *; omega)
  rw [if_neg (by simpa using h3)] at hfw
  rw [h3, show K5.pkS l = K5.pkR l from if_pos h3] at hP
  replace hP := con_num2 hP
  have hO : CallCon Tryz.prog 12 [H8.tuT (tuOf l)] [] (.t (.one (.v (.int .i64 (bktOf l))))) [] := H8.refof_con (tuOf_wf hb (by omega))
  have hbk := bkt_bd l
  have hra := row_at hh l
  have hrow := row_ok hk l
  by_cases h4 : (rowAt c l).cur < 0
  · rw [if_pos h4] at hfw
    obtain ⟨e5, e6⟩ := fw_no (by rw [hfw]; decide : ¬ fwE c a l = 0)
    rw [hfw, e5, e6] at h1
    rw [hra] at h4
    generalize bktOf l = k at *
    have hask := cl_ask c (i := k.toNat) (a := 2) (n := Tryz.prog.cellsOf 23) (by omega)
    obtain ⟨has, tab⟩ := c
    cases hh
    refine con_of_call2 rfl ?_
    refine call_inline Tryz.func3 rfl rfl ?_
    intro _
    repeat' (first | (refine is_split ?_; (first | refine sp_yes (by (first | rfl | exact dec_t (by omega))) ?_ | refine sp_no (by exact dec_f (by omega)) ?_) <;> (intro u; clear u)) | (refine is_asked ?_; (first | (refine asked _ hask ?_) | refine asked () ⟨by omega, by omega⟩ ?_); intro u; clear u) | (refine is_call ?_; (first | refine call_auto (hW) (lets_rfl rfl) (by exact trivial) rfl ?_ | refine call_auto (hR) (lets_rfl rfl) (by exact trivial) rfl ?_ | refine call_auto (h1) (lets_rfl rfl) (by exact ⟨⟨_, rfl, rfl, rfl⟩, trivial⟩) rfl ?_ | refine call_auto (hP) (lets_rfl rfl) (by exact ⟨⟨_, rfl, rfl, rfl⟩, trivial⟩) rfl ?_ | refine call_auto (hO) (lets_rfl rfl) (by exact trivial) rfl ?_); intro u; clear u))
    all_goals first
      | ((refine con_end ?_ rfl; intro u; clear u; refine ⟨rfl, rfl, EntGoal.mk ?_ ?_⟩ <;> (repeat' (first | exact trivial | (with_reducible rfl) | apply And.intro | rfl))); done)
      | (exfalso; omega)
      | (exfalso; simp at *; omega)
  rw [if_neg h4] at hfw
  have e1 : wrAt (rowAt c l) a l = w5 (rowAt c l) a l := by
    unfold wrAt w5
    rw [opt_is hrow h4 l]
  have hw : E7.okWr (w5 (rowAt c l) a l) := by rw [← e1]; exact (wr_ok hrow h4 a l).2 ha
  have hwf : (w5 (rowAt c l) a l).Wf := by rw [← e1]; exact wrAt_wf hb ⟨by omega, by omega⟩ (okE_isI hrow)
  have hlen := E7.wrB_len hwf hw
  have hbk2 := E7.wrB_bytes hwf (by show l.length ≤ 4000; omega)
  obtain ⟨e7, e8⟩ := E7.wr_back hwf (by show l.length ≤ 4000; omega) hw
  have hT7 := E7.reftake_con hbk2 (by rw [hlen]; show 36 + l.length ≤ 4000; omega)
  rw [e7, e8] at hT7
  replace hT7 := con_num2 hT7
  rw [hfw, show fwB c a l = E7.wrB (w5 (rowAt c l) a l) by rw [← e1]; exact if_pos hfw, show fwN c a l = (rowAt c l).cur from if_pos hfw] at h1
  replace hlen : (E7.wrB (w5 (rowAt c l) a l)).length = 36 + l.length := hlen
  have hin : (w5 (rowAt c l) a l).inner = l := rfl
  unfold E7.wrT E7.wrS at hT7
  rw [hin] at hT7
  change CallCon _ _ _ _ (.tup [.agg [.v (.int .u8 1), .v (.int .i64 a), .v (.int .u8 2), .v (.int .i64 (rowAt c l).cur), .v (.int .u8 1), .v (.int .u8 (bktOf l)), .v (.int .i64 (rowAt c l).cur), .v (.int .i64 (rowAt c l).prev), .v (.int .i64 (rowAt c l).gen), .v (.int .i64 (rowAt c l).tick), .sl 0 0 l.length], .one (.n .u8 0)]) _ at hT7
  generalize E7.wrB (w5 (rowAt c l) a l) = W at *
  rw [hra] at h1 hT7 h4
  have hask := cl_ask c (i := (bktOf l).toNat) (a := 2) (n := Tryz.prog.cellsOf 23) (by omega)
  generalize bktOf l = k at *
  generalize c.tab.at k.toNat = e at *
  obtain ⟨has, tab⟩ := c
  cases hh
  refine con_of_call2 rfl ?_
  refine call_inline Tryz.func3 rfl rfl ?_
  intro _
  repeat' (first | (refine is_split ?_; (first | refine sp_yes (by (first | rfl | exact dec_t (by omega))) ?_ | refine sp_no (by (first | rfl | exact dec_f (by omega) | exact ndec_f (by omega))) ?_ | (refine sp_yes ?_ ?_; focus (simp only [beq_self_eq_true, Bool.and_self, Bool.and_true, Bool.true_and, Bool.not_false, Bool.not_true]; done))) <;> (intro u; clear u)) | (refine is_asked ?_; (first | (refine is_spec ?_; (with_reducible refine asked _ (sp_add (by simp only [lo, hi]; omega) (by simp only [lo, hi]; omega)) ?_)) | (refine is_wrap ?_; refine asked _ (wrap_lohi (by simp only [lo, hi]; omega) (by simp only [lo, hi]; omega)) ?_) | (refine asked _ hask ?_) | refine asked () ⟨by omega, by omega⟩ ?_ | refine asked _ (tostr_ask (take_ints _ _) rfl) ?_ | refine asked () (by show heldFree Tryz.prog _ _ = true; decide +kernel) ?_); intro u; clear u) | (refine is_call ?_; (first | refine call_auto (hW) (lets_rfl rfl) (by exact trivial) rfl ?_ | refine call_auto (hR) (lets_rfl rfl) (by exact trivial) rfl ?_ | refine call_auto (h1) (lets_rfl rfl) (by exact ⟨⟨_, rfl, rfl, rfl⟩, trivial⟩) rfl ?_ | refine call_auto (hP) (lets_rfl rfl) (by exact ⟨⟨_, rfl, rfl, rfl⟩, trivial⟩) rfl ?_ | refine call_auto (hO) (lets_rfl rfl) (by exact trivial) rfl ?_ | refine call_auto (hT7) (lets_rfl rfl) (by exact ⟨⟨_, rfl, rfl, rfl⟩, trivial⟩) rfl ?_); intro u; clear u))
  all_goals first
    | ((refine con_end ?_ rfl; intro u; clear u; refine ⟨rfl, rfl, EntGoal.mk ?_ ?_⟩ <;> (repeat' (first | exact trivial | (with_reducible rfl) | apply And.intro | rfl))); done)
    | (exfalso; omega)
    | (exfalso; simp at *; omega)
end Go.Proofs.S14.M4
