/- Contracts of functions of the program, or a row of the seat, proved out of them. No condition beyond those that stand in each statement. -/
import Derived.Test.YtddagjjnojlojaaSeD
import Derived.Test.YtddagjjnojlojaaS11gT
namespace Go.Proofs.S11
open Go Go.SE
set_option maxRecDepth 100000
set_option maxHeartbeats 4000000
attribute [local irreducible] specI

def okTab (t : Tab) : Prop := (0 ≤ t.ver ∧ t.ver ≤ 1099511627776) ∧ ∀ i, i < 16 → okE (t.at i)
instance (t : Tab) : Decidable (okTab t) := by unfold okTab; infer_instance
theorem agg23 : isAggT Try.prog 23 = some true := by kernel_rfl
theorem rows_part (t : Tab) {j : Int} {n : Nat} (i : Nat) (hj : j = i) (hi : i < 16) (hn : n = 4 := by exact cells23) : (0 ≤ j ∧ j < (16 : Nat)) ∧ partT Try.prog 23 (rowsS t) (j.toNat * n) = some (entT (t.at i)) := by
  subst hn hj
  refine ⟨⟨by omega, by omega⟩, ?_⟩
  unfold partT
  rw [agg23, cells23]
  simp only [Int.toNat_natCast]
  rw [rows_cut t i hi]
  rfl
theorem tabright_con (t : Tab) : CallCon Try.prog 48 [tabT t] [] (.t (.one (.b (okTab t)))) [] := by
  by_cases hv : 0 ≤ t.ver ∧ t.ver ≤ 1099511627776
  rotate_left
  · rw [decide_eq_false (show ¬ okTab t from fun h => hv h.1)]
    refine con_of_call2 rfl ?_
    refine call_inline Try.func48 rfl rfl ?_
    intro _
    repeat' (first | (refine is_split ?_; (first | refine sp_yes (by exact dec_t (by omega)) ?_ | refine sp_dec (fun g => ?_) (fun g => ?_)) <;> (intro u; clear u)) | (refine is_scope ?_; refine scope_step ?_; intro u; clear u))
    all_goals (refine con_end ?_ rfl; intro u; clear u; refine ⟨rfl, rfl, EntGoal.mk ?_ ?_⟩ <;> (repeat' (first | exact trivial | (with_reducible rfl) | apply And.intro | rfl)))
  refine con_of_call2 rfl ?_
  refine call_inline Try.func48 rfl rfl ?_
  intro _
  repeat' (first | (refine is_split ?_; refine sp_no (by exact dec_f (by omega)) ?_ <;> (intro u; clear u)) | (refine is_scope ?_; refine scope_step ?_; intro u; clear u))
  refine loop_keep (fun k : Nat => 16 - k) (fun k => k ≤ 16 ∧ ∀ i, i < k → okE (t.at i)) [14] (fun k => [(15, .t (.one (.v (.int .i64 k))))]) (fun _ => []) (fun _ => []) [] 0 0 ⟨by omega, fun i hi => by omega⟩ ?_ ?_
  · (intro u; clear u; refine ⟨rfl, rfl, EntGoal.mk ?_ ?_⟩ <;> (repeat' (first | exact trivial | (with_reducible rfl) | apply And.intro | rfl)))
  intro k hk u
  clear u
  repeat' (first | (refine is_split ?_; (first | refine sp_dec (fun g => ?_) (fun g => ?_) | refine sp_ndec (fun g => ?_) (fun g => ?_)) <;> (intro u; clear u)) | (refine is_asked ?_; (first | (refine is_spec ?_; (with_reducible refine asked _ (sp_add (by simp only [lo, hi]; omega) (by simp only [lo, hi]; omega)) ?_)) | (refine asked _ (rows_part t k rfl (by omega)) ?_)); intro u; clear u) | (refine is_scope ?_; refine scope_step ?_; intro u; clear u) | (refine is_call ?_; refine call_auto (right_con (t.at k)) (lets_rfl rfl) (by exact trivial) rfl ?_; intro u; clear u))
  · rw [decide_eq_false (show ¬ okTab t from fun h => by exact absurd (h.2 k (by omega)) (by assumption))]
    (refine con_end ?_ rfl; intro u; clear u; refine ⟨rfl, rfl, EntGoal.mk ?_ ?_⟩ <;> (repeat' (first | exact trivial | (with_reducible rfl) | apply And.intro | rfl)))
  · refine again (k + 1) ⟨by omega, fun i hi => ?_⟩ (by omega) ?_
    · by_cases hik : i < k
      · exact hk.2 i hik
      · rw [show i = k by omega]; assumption
    · (intro u; clear u; refine ⟨rfl, rfl, EntGoal.mk ?_ ?_⟩ <;> (repeat' (first | exact trivial | (with_reducible rfl) | apply And.intro | rfl)))
  · rw [decide_eq_true (show okTab t from ⟨hv, fun i hi => hk.2 i (by omega)⟩)]
    (refine con_end ?_ rfl; intro u; clear u; refine ⟨rfl, rfl, EntGoal.mk ?_ ?_⟩ <;> (repeat' (first | exact trivial | (with_reducible rfl) | apply And.intro | rfl)))
theorem reftabright_con (t : Tab) : CallCon Try.prog 29 [tabT t] [] (.t (.one (.b (okTab t)))) [] := by
  by_cases hv : 0 ≤ t.ver ∧ t.ver ≤ 1099511627776
  rotate_left
  · rw [decide_eq_false (show ¬ okTab t from fun h => hv h.1)]
    refine con_of_call2 rfl ?_
    refine call_inline Try.func29 rfl rfl ?_
    intro _
    repeat' (refine is_split ?_; (first | refine sp_yes (by exact dec_t (by omega)) ?_ | refine sp_dec (fun g => ?_) (fun g => ?_)) <;> (intro u; clear u))
    all_goals (refine con_end ?_ rfl; intro u; clear u; refine ⟨rfl, rfl, EntGoal.mk ?_ ?_⟩ <;> (repeat' (first | exact trivial | (with_reducible rfl) | apply And.intro | rfl)))
  refine con_of_call2 rfl ?_
  refine call_inline Try.func29 rfl rfl ?_
  intro _
  repeat' (refine is_split ?_; refine sp_no (by exact dec_f (by omega)) ?_ <;> (intro u; clear u))
  refine loop_keep (fun k : Nat => 16 - k) (fun k => k ≤ 16 ∧ ∀ i, i < k → okE (t.at i)) [1] (fun k => [(3, .t (.one (.v (.int .i64 k))))]) (fun _ => []) (fun _ => []) [] 0 0 ⟨by omega, fun i hi => by omega⟩ ?_ ?_
  · (intro u; clear u; refine ⟨rfl, rfl, EntGoal.mk ?_ ?_⟩ <;> (repeat' (first | exact trivial | (with_reducible rfl) | apply And.intro | rfl)))
  intro k hk u
  clear u
  repeat' (first | (refine is_split ?_; (first | refine sp_dec (fun g => ?_) (fun g => ?_) | refine sp_ndec (fun g => ?_) (fun g => ?_)) <;> (intro u; clear u)) | (refine is_asked ?_; (first | (refine is_spec ?_; (with_reducible refine asked _ (sp_add (by simp only [lo, hi]; omega) (by simp only [lo, hi]; omega)) ?_)) | (refine asked _ (tab_ask t (i := k) (by omega)) ?_) | refine asked () ⟨by omega, by omega⟩ ?_); intro u; clear u) | (refine is_call ?_; refine call_auto (refright_con (t.at k)) (lets_rfl rfl) (by exact trivial) rfl ?_; intro u; clear u))
  · rw [decide_eq_false (show ¬ okTab t from fun h => by exact absurd (h.2 k (by omega)) (by assumption))]
    (refine con_end ?_ rfl; intro u; clear u; refine ⟨rfl, rfl, EntGoal.mk ?_ ?_⟩ <;> (repeat' (first | exact trivial | (with_reducible rfl) | apply And.intro | rfl)))
  · refine again (k + 1) ⟨by omega, fun i hi => ?_⟩ (by omega) ?_
    · by_cases hik : i < k
      · exact hk.2 i hik
      · rw [show i = k by omega]; assumption
    · (intro u; clear u; refine ⟨rfl, rfl, EntGoal.mk ?_ ?_⟩ <;> (repeat' (first | exact trivial | (with_reducible rfl) | apply And.intro | rfl)))
  · rw [decide_eq_true (show okTab t from ⟨hv, fun i hi => hk.2 i (by omega)⟩)]
    (refine con_end ?_ rfl; intro u; clear u; refine ⟨rfl, rfl, EntGoal.mk ?_ ?_⟩ <;> (repeat' (first | exact trivial | (with_reducible rfl) | apply And.intro | rfl)))

def newK : Nat → Tab
  | 0 => zeroTab
  | k + 1 => (newK k).set k noneE
theorem newK_len : ∀ k, (newK k).rows.length = 16
  | 0 => rfl
  | k + 1 => by simp only [newK, Tab.set, List.length_set]; exact newK_len k
def newTab : Tab := ⟨0, List.replicate 16 noneE⟩
theorem newK_16 : newK 16 = newTab := rfl
theorem new_con : CallCon Try.prog 60 [] [] (.t (tabT newTab)) [] := by
  refine con_of_call2 rfl ?_
  refine call_inline Try.func60 rfl rfl ?_
  intro _
  repeat' fail
  refine loop_keep (fun k : Nat => 16 - k) (fun k => k ≤ 16) [0] (fun k => [(2, .t (.one (.v (.int .i64 k))))]) (fun k => [(0, .box (tabS (newK k)) 1 26)]) (fun _ => []) [] 0 0 (by omega) ?_ ?_
  · (intro u; clear u; refine ⟨rfl, rfl, EntGoal.mk ?_ ?_⟩ <;> (repeat' (first | exact trivial | (with_reducible rfl) | apply And.intro | rfl)))
  intro k hk u
  clear u
  repeat' (first | (refine is_split ?_; refine sp_dec (fun g => ?_) (fun g => ?_) <;> (intro u; clear u)) | (refine is_asked ?_; (first | (refine is_spec ?_; (with_reducible refine asked _ (sp_add (by simp only [lo, hi]; omega) (by simp only [lo, hi]; omega)) ?_)) | (refine asked _ (tab_put (newK_len k) (i := k) noneE (by omega)) ?_) | refine asked () ⟨by omega, by omega⟩ ?_); intro u; clear u) | (refine is_call ?_; refine call_auto (none_con) (lets_rfl rfl) (by exact trivial) rfl ?_; intro u; clear u))
  · refine again (k + 1) (by omega) (by omega) ?_
    (intro u; clear u; refine ⟨rfl, rfl, EntGoal.mk ?_ ?_⟩ <;> (repeat' (first | exact trivial | (with_reducible rfl) | apply And.intro | rfl)))
  · obtain rfl : k = 16 := by omega
    (refine con_end ?_ rfl; intro u; clear u; refine ⟨rfl, rfl, EntGoal.mk ?_ ?_⟩ <;> (repeat' (first | exact trivial | (with_reducible rfl) | apply And.intro | rfl)))
