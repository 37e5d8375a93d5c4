/- Contracts of functions of the program, or a row of the seat, proved out of them. No condition beyond those that stand in each statement. -/
import Derived.Test.YtlefpinmgabmfaaGreatS14mC
namespace Go.Proofs.S14.M4
open Go Go.SE
set_option maxRecDepth 100000
set_option maxHeartbeats 4000000
attribute [local irreducible] specI

theorem fw_eq {c : Cl} {s : Int} (hs : 0 ≤ s ∧ s < 3) (l : List Int) : fwE c s l = if ¬ hasOk c then 10 else if ¬ K5.pkE l = 0 then K5.pkE l else if (rowAt c l).cur < 0 then 11 else 0 := by
  unfold fwE
  by_cases h1 : hasOk c
  · by_cases h2 : K5.pkE l = 0
    · by_cases h3 : (rowAt c l).cur < 0
      · simp [h1, h2, h3]
      · simp only [h1, h2, h3, not_true_eq_false, if_false]
        exact if_pos ((wr_ok (row_ok h1 l) h3 s l).2 hs)
    · simp [h1, h2]
  · simp [h1]
theorem fw_same {c : Cl} {a b : Int} (ha : 0 ≤ a ∧ a < 3) (hb : 0 ≤ b ∧ b < 3) (l : List Int) : fwE c b l = fwE c a l ∧ fwN c b l = fwN c a l := by
  have e : fwE c b l = fwE c a l := by rw [fw_eq ha l, fw_eq hb l]
  exact ⟨e, by unfold fwN; rw [e]⟩
theorem fw_cur {c : Cl} {a : Int} (ha : 0 ≤ a ∧ a < 3) {l : List Int} (h : fwE c a l = 0) : 0 ≤ fwN c a l := by
  have h2 := h
  rw [fw_eq ha l] at h2
  rw [show fwN c a l = (rowAt c l).cur from if_pos h]
  split at h2
  · cases h2
  · split at h2
    · rename_i h3; exact absurd h2 h3
    · split at h2
      · cases h2
      · omega
theorem msame_con {c : Cl} (hT : c.tab.rows.length = 16) {a b : Int} {l : List Int} (hb : ∀ x ∈ l, 0 ≤ x ∧ x ≤ 255) :
    CallCon Tryz.prog 4 [C1.clT c, .one (.v (.int .i64 a)), .one (.v (.int .i64 b)), .one (.sl 0 0 l.length)] [.row (ints .u8 l) 1 5 false] (.t (.one (.v (.bool true)))) [] := by
  have hW := wakes_con
  by_cases hg : l.length ≤ 200 ∧ (0 ≤ a ∧ a < 3) ∧ (0 ≤ b ∧ b < 3)
  · obtain ⟨hl, ha, hbb⟩ := hg
    have h1 := Forward_con hT (s := a) ⟨by omega, by omega⟩ hb (by omega)
    have h2 := Forward_con hT (s := b) ⟨by omega, by omega⟩ hb (by omega)
    obtain ⟨e1, e2⟩ := fw_same (c := c) ha hbb l
    rw [e1, e2] at h2
    by_cases hE : fwE c a l = 0
    · have hN := fw_cur ha hE
      rw [hE] at h1 h2
      generalize fwN c a l = q at *
      refine con_of_call2 rfl ?_
      refine call_inline Tryz.func4 rfl rfl ?_
      intro _
      repeat' (first | (refine is_split ?_; (first | refine sp_yes (by (first | rfl | exact dec_t (by omega))) ?_ | refine sp_no (by exact dec_f (by omega)) ?_ | refine sp_dec (fun g => ?_) (fun g => ?_)) <;> (intro u; clear u)) | (refine is_call ?_; (first | refine call_auto (hW) (lets_rfl rfl) (by exact trivial) rfl ?_ | refine call_auto (h1) (lets_rfl rfl) (by exact ⟨⟨_, rfl, rfl, rfl⟩, trivial⟩) rfl ?_ | refine call_auto (h2) (lets_rfl rfl) (by exact ⟨⟨_, rfl, rfl, rfl⟩, trivial⟩) rfl ?_); intro u; clear u))
      all_goals first
        | ((refine con_end ?_ rfl; intro u; clear u; refine ⟨rfl, rfl, EntGoal.mk ?_ ?_⟩ <;> (repeat' (first | exact trivial | (with_reducible rfl) | apply And.intro | rfl))); done)
        | (exfalso; omega)
        | (exfalso; simp at *; omega)
    · obtain ⟨_, e4⟩ := fw_no hE
      rw [e4] at h1 h2
      generalize fwE c a l = q at *
      refine con_of_call2 rfl ?_
      refine call_inline Tryz.func4 rfl rfl ?_
      intro _
      repeat' (first | (refine is_split ?_; (first | refine sp_yes (by (first | rfl | exact dec_t (by omega))) ?_ | refine sp_no (by exact dec_f (by omega)) ?_ | refine sp_dec (fun g => ?_) (fun g => ?_)) <;> (intro u; clear u)) | (refine is_call ?_; (first | refine call_auto (hW) (lets_rfl rfl) (by exact trivial) rfl ?_ | refine call_auto (h1) (lets_rfl rfl) (by exact ⟨⟨_, rfl, rfl, rfl⟩, trivial⟩) rfl ?_ | refine call_auto (h2) (lets_rfl rfl) (by exact ⟨⟨_, rfl, rfl, rfl⟩, trivial⟩) rfl ?_); intro u; clear u))
      all_goals first
        | ((refine con_end ?_ rfl; intro u; clear u; refine ⟨rfl, rfl, EntGoal.mk ?_ ?_⟩ <;> (repeat' (first | exact trivial | (with_reducible rfl) | apply And.intro | rfl))); done)
        | (exfalso; omega)
        | (exfalso; simp at *; omega)
  · refine con_of_call2 rfl ?_
    refine call_inline Tryz.func4 rfl rfl ?_
    intro _
    repeat' (first | (refine is_split ?_; (first | refine sp_yes (by exact dec_t (by omega)) ?_ | refine sp_dec (fun g => ?_) (fun g => ?_)) <;> (intro u; clear u)) | (refine is_call ?_; refine call_auto (hW) (lets_rfl rfl) (by exact trivial) rfl ?_; intro u; clear u))
    all_goals first
      | ((refine con_end ?_ rfl; intro u; clear u; refine ⟨rfl, rfl, EntGoal.mk ?_ ?_⟩ <;> (repeat' (first | exact trivial | (with_reducible rfl) | apply And.intro | rfl))); done)
      | (exfalso; omega)
end Go.Proofs.S14.M4
