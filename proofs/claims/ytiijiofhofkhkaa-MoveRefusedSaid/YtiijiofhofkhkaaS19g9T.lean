/- Contracts of functions of the program, or a row of the seat, proved out of them. No condition beyond those that stand in each statement. -/
import Derived.Test.YtiijiofhofkhkaaS19g9R
namespace Go.Proofs.S19
open Go Go.SE
set_option maxRecDepth 100000
set_option maxHeartbeats 4000000
attribute [local irreducible] specI

theorem bg_facts (m : Mv) (to least : Int) (hk : okMv m) :
    (bgE m to least = 0 ∨ bgE m to least = 2 ∨ bgE m to least = 150 ∨ bgE m to least = 220 ∨ bgE m to least = 221) ∧
    (bgE m to least ≠ 0 → bgM m to least = m) ∧ (bgE m to least = 2 ↔ ¬ ((0 ≤ to ∧ to ≤ 5) ∧ m.cur ≠ to)) ∧
    ((0 ≤ to ∧ to ≤ 5) ∧ m.cur ≠ to → (bgE m to least = 220 ↔ m.ph ≠ 1)) ∧ ((0 ≤ to ∧ to ≤ 5) ∧ m.cur ≠ to → m.ph = 1 → (bgE m to least = 221 ↔ least < m.ver)) := by
  unfold bgE bgM
  rw [if_pos hk, if_pos hk]
  by_cases c1 : (0 ≤ to ∧ to ≤ 5)
  · rw [if_pos c1, if_pos c1]
    by_cases c2 : m.cur ≠ to
    · rw [if_pos c2, if_pos c2]
      by_cases c3 : m.ph = 1
      · rw [if_pos c3, if_pos c3]
        by_cases c4 : m.ver ≤ least
        · rw [if_pos c4, if_pos c4]
          by_cases c5 : m.gen ≤ 2147483639
          · rw [if_pos c5, if_pos c5]; omega
          · rw [if_neg c5, if_neg c5]; refine ⟨by omega, fun _ => rfl, by omega, by omega, by omega⟩
        · rw [if_neg c4, if_neg c4]; refine ⟨by omega, fun _ => rfl, by omega, by omega, by omega⟩
      · rw [if_neg c3, if_neg c3]; refine ⟨by omega, fun _ => rfl, by omega, by omega, by omega⟩
    · rw [if_neg c2, if_neg c2]; refine ⟨by omega, fun _ => rfl, by omega, by omega, by omega⟩
  · rw [if_neg c1, if_neg c1]; refine ⟨by omega, fun _ => rfl, by omega, by omega, by omega⟩
theorem re_facts (m : Mv) (now window : Int) (hk : okMv m) :
    (reE m now window = 0 ∨ reE m now window = 2 ∨ reE m now window = 222 ∨ reE m now window = 223) ∧
    (reE m now window ≠ 0 → reM m now window = m) ∧ (reE m now window = 2 ↔ ¬ ((0 ≤ now ∧ now ≤ 1099511627776) ∧ (0 ≤ window ∧ window ≤ 1099511627776))) ∧
    ((0 ≤ now ∧ now ≤ 1099511627776) ∧ (0 ≤ window ∧ window ≤ 1099511627776) → (reE m now window = 223 ↔ m.ph ≠ 4)) ∧
    ((0 ≤ now ∧ now ≤ 1099511627776) ∧ (0 ≤ window ∧ window ≤ 1099511627776) → m.ph = 4 → (reE m now window = 222 ↔ now < m.tick + window)) := by
  unfold reE reM
  rw [if_pos hk, if_pos hk]
  by_cases c1 : (0 ≤ now ∧ now ≤ 1099511627776)
  · rw [if_pos c1, if_pos c1]
    by_cases c2 : (0 ≤ window ∧ window ≤ 1099511627776)
    · rw [if_pos c2, if_pos c2]
      by_cases c3 : m.ph = 4
      · rw [if_pos c3, if_pos c3]
        by_cases c4 : window ≤ now - m.tick
        · rw [if_pos c4, if_pos c4]; omega
        · rw [if_neg c4, if_neg c4]; refine ⟨by omega, fun _ => rfl, by omega, by omega, by omega⟩
      · rw [if_neg c3, if_neg c3]; refine ⟨by omega, fun _ => rfl, by omega, by omega, by omega⟩
    · rw [if_neg c2, if_neg c2]; refine ⟨by omega, fun _ => rfl, by omega, by omega, by omega⟩
  · rw [if_neg c1, if_neg c1]; refine ⟨by omega, fun _ => rfl, by omega, by omega, by omega⟩
def may (m : Mv) (to : Int) : Prop := (0 ≤ to ∧ to ≤ 5) ∧ m.cur ≠ to
theorem refused_e0 {m o r : Mv} {to least now window f : Int} (hR : CallCon Try.prog 28 [mvT m] [] (.t (.one (.v (.bool true)))) []) (hb2 : 0 ≤ m.tick ∧ m.tick ≤ 1099511627776) (hB : CallCon Try.prog 30 [mvT m, .one (.v (.int .i64 to)), .one (.v (.int .i64 least))] [] (.tup [mvT o, .one (.v (.int .i64 0))]) []) (hT : CallCon Try.prog 32 [mvT m, .one (.v (.int .i64 now)), .one (.v (.int .i64 window))] [] (.tup [mvT r, .one (.v (.int .i64 f))]) []) (he : (0 ≤ to ∧ to ≤ 5 ∧ m.cur ≠ to ∧ m.ph = 1 ∧ m.ver ≤ least))
    (hf : (f = 0 ∧ (0 ≤ now ∧ now ≤ 1099511627776 ∧ 0 ≤ window ∧ window ≤ 1099511627776 ∧ m.ph = 4 ∧ m.tick + window ≤ now)) ∨ (f = 2 ∧ r = m ∧ now < 0) ∨ (f = 2 ∧ r = m ∧ 1099511627776 < now) ∨ (f = 2 ∧ r = m ∧ (0 ≤ now ∧ now ≤ 1099511627776 ∧ window < 0)) ∨ (f = 2 ∧ r = m ∧ (0 ≤ now ∧ now ≤ 1099511627776 ∧ 1099511627776 < window)) ∨ (f = 222 ∧ r = m ∧ (0 ≤ now ∧ now ≤ 1099511627776 ∧ 0 ≤ window ∧ window ≤ 1099511627776 ∧ m.ph = 4 ∧ now < m.tick + window)) ∨ (f = 223 ∧ r = m ∧ (0 ≤ now ∧ now ≤ 1099511627776 ∧ 0 ≤ window ∧ window ≤ 1099511627776 ∧ m.ph ≠ 4))) : CallCon Try.prog 10 [mvT m, .one (.v (.int .i64 to)), .one (.v (.int .i64 least)), .one (.v (.int .i64 now)), .one (.v (.int .i64 window))] [] (.t (.one (.v (.bool true)))) [] := by
  rcases hf with ⟨rfl, hf⟩ | ⟨rfl, rfl, hf⟩ | ⟨rfl, rfl, hf⟩ | ⟨rfl, rfl, hf⟩ | ⟨rfl, rfl, hf⟩ | ⟨rfl, rfl, hf⟩ | ⟨rfl, rfl, hf⟩
  · omega
  · skip
    refine con_of_call2 rfl ?_
    refine call_inline Try.func10 rfl rfl ?_
    intro _
    repeat' (first | (refine is_asked ?_; refine asked () (by show heldFree Try.prog _ _ = true; decide +kernel) ?_; intro u; clear u) | (refine is_split ?_; (first | ((refine sp_yes ?_ ?_; focus (simp; omega))) | ((refine sp_no ?_ ?_; focus (simp; omega))) | refine sp_yes (by rfl) ?_ | refine sp_no (by rfl) ?_ | (refine sp_no ?_ ?_; focus (first | (simp; done) | (simp; omega)))) <;> (intro u; clear u)) | (refine is_call ?_; (first | refine call_auto (hR) (lets_rfl rfl) (by exact trivial) rfl ?_ | refine call_auto (hB) (lets_rfl rfl) (by exact trivial) rfl ?_ | refine call_auto (hT) (lets_rfl rfl) (by exact trivial) rfl ?_ | refine call_auto (wakes22_con) (lets_rfl rfl) (by exact trivial) rfl ?_); intro u; clear u))
    all_goals (refine con_end ?_ rfl; intro u; clear u; refine ⟨rfl, rfl, EntGoal.mk ?_ ?_⟩ <;> (repeat' (first | exact trivial | (with_reducible rfl) | apply And.intro | rfl)))
  · skip
    refine con_of_call2 rfl ?_
    refine call_inline Try.func10 rfl rfl ?_
    intro _
    repeat' (first | (refine is_asked ?_; refine asked () (by show heldFree Try.prog _ _ = true; decide +kernel) ?_; intro u; clear u) | (refine is_split ?_; (first | ((refine sp_yes ?_ ?_; focus (simp; omega))) | ((refine sp_no ?_ ?_; focus (simp; omega))) | refine sp_yes (by rfl) ?_ | refine sp_no (by rfl) ?_ | (refine sp_no ?_ ?_; focus (first | (simp; done) | (simp; omega)))) <;> (intro u; clear u)) | (refine is_call ?_; (first | refine call_auto (hR) (lets_rfl rfl) (by exact trivial) rfl ?_ | refine call_auto (hB) (lets_rfl rfl) (by exact trivial) rfl ?_ | refine call_auto (hT) (lets_rfl rfl) (by exact trivial) rfl ?_ | refine call_auto (wakes22_con) (lets_rfl rfl) (by exact trivial) rfl ?_); intro u; clear u))
    all_goals (refine con_end ?_ rfl; intro u; clear u; refine ⟨rfl, rfl, EntGoal.mk ?_ ?_⟩ <;> (repeat' (first | exact trivial | (with_reducible rfl) | apply And.intro | rfl)))
  · skip
    refine con_of_call2 rfl ?_
    refine call_inline Try.func10 rfl rfl ?_
    intro _
    repeat' (first | (refine is_asked ?_; refine asked () (by show heldFree Try.prog _ _ = true; decide +kernel) ?_; intro u; clear u) | (refine is_split ?_; (first | ((refine sp_yes ?_ ?_; focus (simp; omega))) | ((refine sp_no ?_ ?_; focus (simp; omega))) | refine sp_yes (by rfl) ?_ | refine sp_no (by rfl) ?_ | (refine sp_no ?_ ?_; focus (first | (simp; done) | (simp; omega)))) <;> (intro u; clear u)) | (refine is_call ?_; (first | refine call_auto (hR) (lets_rfl rfl) (by exact trivial) rfl ?_ | refine call_auto (hB) (lets_rfl rfl) (by exact trivial) rfl ?_ | refine call_auto (hT) (lets_rfl rfl) (by exact trivial) rfl ?_ | refine call_auto (wakes22_con) (lets_rfl rfl) (by exact trivial) rfl ?_); intro u; clear u))
    all_goals (refine con_end ?_ rfl; intro u; clear u; refine ⟨rfl, rfl, EntGoal.mk ?_ ?_⟩ <;> (repeat' (first | exact trivial | (with_reducible rfl) | apply And.intro | rfl)))
  · skip
    refine con_of_call2 rfl ?_
    refine call_inline Try.func10 rfl rfl ?_
    intro _
    repeat' (first | (refine is_asked ?_; refine asked () (by show heldFree Try.prog _ _ = true; decide +kernel) ?_; intro u; clear u) | (refine is_split ?_; (first | ((refine sp_yes ?_ ?_; focus (simp; omega))) | ((refine sp_no ?_ ?_; focus (simp; omega))) | refine sp_yes (by rfl) ?_ | refine sp_no (by rfl) ?_ | (refine sp_no ?_ ?_; focus (first | (simp; done) | (simp; omega)))) <;> (intro u; clear u)) | (refine is_call ?_; (first | refine call_auto (hR) (lets_rfl rfl) (by exact trivial) rfl ?_ | refine call_auto (hB) (lets_rfl rfl) (by exact trivial) rfl ?_ | refine call_auto (hT) (lets_rfl rfl) (by exact trivial) rfl ?_ | refine call_auto (wakes22_con) (lets_rfl rfl) (by exact trivial) rfl ?_); intro u; clear u))
    all_goals (refine con_end ?_ rfl; intro u; clear u; refine ⟨rfl, rfl, EntGoal.mk ?_ ?_⟩ <;> (repeat' (first | exact trivial | (with_reducible rfl) | apply And.intro | rfl)))
  · omega
  · skip
    refine con_of_call2 rfl ?_
    refine call_inline Try.func10 rfl rfl ?_
    intro _
    repeat' (first | (refine is_asked ?_; refine asked () (by show heldFree Try.prog _ _ = true; decide +kernel) ?_; intro u; clear u) | (refine is_split ?_; (first | ((refine sp_yes ?_ ?_; focus (simp; omega))) | ((refine sp_no ?_ ?_; focus (simp; omega))) | refine sp_yes (by rfl) ?_ | refine sp_no (by rfl) ?_ | (refine sp_no ?_ ?_; focus (first | (simp; done) | (simp; omega)))) <;> (intro u; clear u)) | (refine is_call ?_; (first | refine call_auto (hR) (lets_rfl rfl) (by exact trivial) rfl ?_ | refine call_auto (hB) (lets_rfl rfl) (by exact trivial) rfl ?_ | refine call_auto (hT) (lets_rfl rfl) (by exact trivial) rfl ?_ | refine call_auto (wakes22_con) (lets_rfl rfl) (by exact trivial) rfl ?_); intro u; clear u))
    all_goals (refine con_end ?_ rfl; intro u; clear u; refine ⟨rfl, rfl, EntGoal.mk ?_ ?_⟩ <;> (repeat' (first | exact trivial | (with_reducible rfl) | apply And.intro | rfl)))
theorem refused_e2a {m o r : Mv} {to least now window f : Int} (hR : CallCon Try.prog 28 [mvT m] [] (.t (.one (.v (.bool true)))) []) (hb2 : 0 ≤ m.tick ∧ m.tick ≤ 1099511627776) (hB : CallCon Try.prog 30 [mvT m, .one (.v (.int .i64 to)), .one (.v (.int .i64 least))] [] (.tup [mvT m, .one (.v (.int .i64 2))]) []) (hT : CallCon Try.prog 32 [mvT m, .one (.v (.int .i64 now)), .one (.v (.int .i64 window))] [] (.tup [mvT r, .one (.v (.int .i64 f))]) []) (he : to < 0)
    (hf : (f = 0 ∧ (0 ≤ now ∧ now ≤ 1099511627776 ∧ 0 ≤ window ∧ window ≤ 1099511627776 ∧ m.ph = 4 ∧ m.tick + window ≤ now)) ∨ (f = 2 ∧ r = m ∧ now < 0) ∨ (f = 2 ∧ r = m ∧ 1099511627776 < now) ∨ (f = 2 ∧ r = m ∧ (0 ≤ now ∧ now ≤ 1099511627776 ∧ window < 0)) ∨ (f = 2 ∧ r = m ∧ (0 ≤ now ∧ now ≤ 1099511627776 ∧ 1099511627776 < window)) ∨ (f = 222 ∧ r = m ∧ (0 ≤ now ∧ now ≤ 1099511627776 ∧ 0 ≤ window ∧ window ≤ 1099511627776 ∧ m.ph = 4 ∧ now < m.tick + window)) ∨ (f = 223 ∧ r = m ∧ (0 ≤ now ∧ now ≤ 1099511627776 ∧ 0 ≤ window ∧ window ≤ 1099511627776 ∧ m.ph ≠ 4))) : CallCon Try.prog 10 [mvT m, .one (.v (.int .i64 to)), .one (.v (.int .i64 least)), .one (.v (.int .i64 now)), .one (.v (.int .i64 window))] [] (.t (.one (.v (.bool true)))) [] := by
  rcases hf with ⟨rfl, hf⟩ | ⟨rfl, rfl, hf⟩ | ⟨rfl, rfl, hf⟩ | ⟨rfl, rfl, hf⟩ | ⟨rfl, rfl, hf⟩ | ⟨rfl, rfl, hf⟩ | ⟨rfl, rfl, hf⟩
  · skip
    refine con_of_call2 rfl ?_
    refine call_inline Try.func10 rfl rfl ?_
    intro _
    repeat' (first | (refine is_asked ?_; refine asked () (by show heldFree Try.prog _ _ = true; decide +kernel) ?_; intro u; clear u) | (refine is_split ?_; (first | ((refine sp_yes ?_ ?_; focus (simp; omega))) | ((refine sp_no ?_ ?_; focus (simp; omega))) | refine sp_yes (by rfl) ?_ | refine sp_no (by rfl) ?_ | (refine sp_no ?_ ?_; focus (first | (simp; done) | (simp; omega)))) <;> (intro u; clear u)) | (refine is_asked ?_; (refine is_spec ?_; (with_reducible refine asked _ (sp_add (by simp only [lo, hi]; omega) (by simp only [lo, hi]; omega)) ?_)); intro u; clear u) | (refine is_call ?_; (first | refine call_auto (hR) (lets_rfl rfl) (by exact trivial) rfl ?_ | refine call_auto (hB) (lets_rfl rfl) (by exact trivial) rfl ?_ | refine call_auto (hT) (lets_rfl rfl) (by exact trivial) rfl ?_ | refine call_auto (wakes22_con) (lets_rfl rfl) (by exact trivial) rfl ?_); intro u; clear u))
    all_goals (refine con_end ?_ rfl; intro u; clear u; refine ⟨rfl, rfl, EntGoal.mk ?_ ?_⟩ <;> (repeat' (first | exact trivial | (with_reducible rfl) | apply And.intro | rfl)))
  · skip
    refine con_of_call2 rfl ?_
    refine call_inline Try.func10 rfl rfl ?_
    intro _
    repeat' (first | (refine is_asked ?_; refine asked () (by show heldFree Try.prog _ _ = true; decide +kernel) ?_; intro u; clear u) | (refine is_split ?_; (first | ((refine sp_no ?_ ?_; focus (simp; omega))) | refine sp_yes (by rfl) ?_ | refine sp_no (by rfl) ?_ | (refine sp_no ?_ ?_; focus (first | (simp; done) | (simp; omega)))) <;> (intro u; clear u)) | (refine is_call ?_; (first | refine call_auto (hR) (lets_rfl rfl) (by exact trivial) rfl ?_ | refine call_auto (hB) (lets_rfl rfl) (by exact trivial) rfl ?_ | refine call_auto (hT) (lets_rfl rfl) (by exact trivial) rfl ?_ | refine call_auto (wakes22_con) (lets_rfl rfl) (by exact trivial) rfl ?_); intro u; clear u))
    all_goals (refine con_end ?_ rfl; intro u; clear u; refine ⟨rfl, rfl, EntGoal.mk ?_ ?_⟩ <;> (repeat' (first | exact trivial | (with_reducible rfl) | apply And.intro | rfl)))
  · skip
    refine con_of_call2 rfl ?_
    refine call_inline Try.func10 rfl rfl ?_
    intro _
    repeat' (first | (refine is_asked ?_; refine asked () (by show heldFree Try.prog _ _ = true; decide +kernel) ?_; intro u; clear u) | (refine is_split ?_; (first | ((refine sp_yes ?_ ?_; focus (simp; omega))) | ((refine sp_no ?_ ?_; focus (simp; omega))) | refine sp_yes (by rfl) ?_ | refine sp_no (by rfl) ?_ | (refine sp_no ?_ ?_; focus (first | (simp; done) | (simp; omega)))) <;> (intro u; clear u)) | (refine is_call ?_; (first | refine call_auto (hR) (lets_rfl rfl) (by exact trivial) rfl ?_ | refine call_auto (hB) (lets_rfl rfl) (by exact trivial) rfl ?_ | refine call_auto (hT) (lets_rfl rfl) (by exact trivial) rfl ?_ | refine call_auto (wakes22_con) (lets_rfl rfl) (by exact trivial) rfl ?_); intro u; clear u))
    all_goals (refine con_end ?_ rfl; intro u; clear u; refine ⟨rfl, rfl, EntGoal.mk ?_ ?_⟩ <;> (repeat' (first | exact trivial | (with_reducible rfl) | apply And.intro | rfl)))
  · skip
    refine con_of_call2 rfl ?_
    refine call_inline Try.func10 rfl rfl ?_
    intro _
    repeat' (first | (refine is_asked ?_; refine asked () (by show heldFree Try.prog _ _ = true; decide +kernel) ?_; intro u; clear u) | (refine is_split ?_; (first | ((refine sp_yes ?_ ?_; focus (simp; omega))) | ((refine sp_no ?_ ?_; focus (simp; omega))) | refine sp_yes (by rfl) ?_ | refine sp_no (by rfl) ?_ | (refine sp_no ?_ ?_; focus (first | (simp; done) | (simp; omega)))) <;> (intro u; clear u)) | (refine is_call ?_; (first | refine call_auto (hR) (lets_rfl rfl) (by exact trivial) rfl ?_ | refine call_auto (hB) (lets_rfl rfl) (by exact trivial) rfl ?_ | refine call_auto (hT) (lets_rfl rfl) (by exact trivial) rfl ?_ | refine call_auto (wakes22_con) (lets_rfl rfl) (by exact trivial) rfl ?_); intro u; clear u))
    all_goals (refine con_end ?_ rfl; intro u; clear u; refine ⟨rfl, rfl, EntGoal.mk ?_ ?_⟩ <;> (repeat' (first | exact trivial | (with_reducible rfl) | apply And.intro | rfl)))
  · skip
    refine con_of_call2 rfl ?_
    refine call_inline Try.func10 rfl rfl ?_
    intro _
    repeat' (first | (refine is_asked ?_; refine asked () (by show heldFree Try.prog _ _ = true; decide +kernel) ?_; intro u; clear u) | (refine is_split ?_; (first | ((refine sp_yes ?_ ?_; focus (simp; omega))) | ((refine sp_no ?_ ?_; focus (simp; omega))) | refine sp_yes (by rfl) ?_ | refine sp_no (by rfl) ?_ | (refine sp_no ?_ ?_; focus (first | (simp; done) | (simp; omega)))) <;> (intro u; clear u)) | (refine is_call ?_; (first | refine call_auto (hR) (lets_rfl rfl) (by exact trivial) rfl ?_ | refine call_auto (hB) (lets_rfl rfl) (by exact trivial) rfl ?_ | refine call_auto (hT) (lets_rfl rfl) (by exact trivial) rfl ?_ | refine call_auto (wakes22_con) (lets_rfl rfl) (by exact trivial) rfl ?_); intro u; clear u))
    all_goals (refine con_end ?_ rfl; intro u; clear u; refine ⟨rfl, rfl, EntGoal.mk ?_ ?_⟩ <;> (repeat' (first | exact trivial | (with_reducible rfl) | apply And.intro | rfl)))
  · skip
    refine con_of_call2 rfl ?_
    refine call_inline Try.func10 rfl rfl ?_
    intro _
    repeat' (first | (refine is_asked ?_; refine asked () (by show heldFree Try.prog _ _ = true; decide +kernel) ?_; intro u; clear u) | (refine is_split ?_; (first | ((refine sp_yes ?_ ?_; focus (simp; omega))) | ((refine sp_no ?_ ?_; focus (simp; omega))) | refine sp_yes (by rfl) ?_ | refine sp_no (by rfl) ?_ | (refine sp_no ?_ ?_; focus (first | (simp; done) | (simp; omega)))) <;> (intro u; clear u)) | (refine is_asked ?_; (refine is_spec ?_; (with_reducible refine asked _ (sp_add (by simp only [lo, hi]; omega) (by simp only [lo, hi]; omega)) ?_)); intro u; clear u) | (refine is_call ?_; (first | refine call_auto (hR) (lets_rfl rfl) (by exact trivial) rfl ?_ | refine call_auto (hB) (lets_rfl rfl) (by exact trivial) rfl ?_ | refine call_auto (hT) (lets_rfl rfl) (by exact trivial) rfl ?_ | refine call_auto (wakes22_con) (lets_rfl rfl) (by exact trivial) rfl ?_); intro u; clear u))
    all_goals (refine con_end ?_ rfl; intro u; clear u; refine ⟨rfl, rfl, EntGoal.mk ?_ ?_⟩ <;> (repeat' (first | exact trivial | (with_reducible rfl) | apply And.intro | rfl)))
  · skip
    refine con_of_call2 rfl ?_
    refine call_inline Try.func10 rfl rfl ?_
    intro _
    repeat' (first | (refine is_asked ?_; refine asked () (by show heldFree Try.prog _ _ = true; decide +kernel) ?_; intro u; clear u) | (refine is_split ?_; (first | ((refine sp_yes ?_ ?_; focus (simp; omega))) | ((refine sp_no ?_ ?_; focus (simp; omega))) | refine sp_yes (by rfl) ?_ | refine sp_no (by rfl) ?_ | (refine sp_no ?_ ?_; focus (first | (simp; done) | (simp; omega)))) <;> (intro u; clear u)) | (refine is_call ?_; (first | refine call_auto (hR) (lets_rfl rfl) (by exact trivial) rfl ?_ | refine call_auto (hB) (lets_rfl rfl) (by exact trivial) rfl ?_ | refine call_auto (hT) (lets_rfl rfl) (by exact trivial) rfl ?_ | refine call_auto (wakes22_con) (lets_rfl rfl) (by exact trivial) rfl ?_); intro u; clear u))
    all_goals (refine con_end ?_ rfl; intro u; clear u; refine ⟨rfl, rfl, EntGoal.mk ?_ ?_⟩ <;> (repeat' (first | exact trivial | (with_reducible rfl) | apply And.intro | rfl)))
theorem refused_e2b {m o r : Mv} {to least now window f : Int} (hR : CallCon Try.prog 28 [mvT m] [] (.t (.one (.v (.bool true)))) []) (hb2 : 0 ≤ m.tick ∧ m.tick ≤ 1099511627776) (hB : CallCon Try.prog 30 [mvT m, .one (.v (.int .i64 to)), .one (.v (.int .i64 least))] [] (.tup [mvT m, .one (.v (.int .i64 2))]) []) (hT : CallCon Try.prog 32 [mvT m, .one (.v (.int .i64 now)), .one (.v (.int .i64 window))] [] (.tup [mvT r, .one (.v (.int .i64 f))]) []) (he : 5 < to)
    (hf : (f = 0 ∧ (0 ≤ now ∧ now ≤ 1099511627776 ∧ 0 ≤ window ∧ window ≤ 1099511627776 ∧ m.ph = 4 ∧ m.tick + window ≤ now)) ∨ (f = 2 ∧ r = m ∧ now < 0) ∨ (f = 2 ∧ r = m ∧ 1099511627776 < now) ∨ (f = 2 ∧ r = m ∧ (0 ≤ now ∧ now ≤ 1099511627776 ∧ window < 0)) ∨ (f = 2 ∧ r = m ∧ (0 ≤ now ∧ now ≤ 1099511627776 ∧ 1099511627776 < window)) ∨ (f = 222 ∧ r = m ∧ (0 ≤ now ∧ now ≤ 1099511627776 ∧ 0 ≤ window ∧ window ≤ 1099511627776 ∧ m.ph = 4 ∧ now < m.tick + window)) ∨ (f = 223 ∧ r = m ∧ (0 ≤ now ∧ now ≤ 1099511627776 ∧ 0 ≤ window ∧ window ≤ 1099511627776 ∧ m.ph ≠ 4))) : CallCon Try.prog 10 [mvT m, .one (.v (.int .i64 to)), .one (.v (.int .i64 least)), .one (.v (.int .i64 now)), .one (.v (.int .i64 window))] [] (.t (.one (.v (.bool true)))) [] := by
  rcases hf with ⟨rfl, hf⟩ | ⟨rfl, rfl, hf⟩ | ⟨rfl, rfl, hf⟩ | ⟨rfl, rfl, hf⟩ | ⟨rfl, rfl, hf⟩ | ⟨rfl, rfl, hf⟩ | ⟨rfl, rfl, hf⟩
  · skip
    refine con_of_call2 rfl ?_
    refine call_inline Try.func10 rfl rfl ?_
    intro _
    repeat' (first | (refine is_asked ?_; refine asked () (by show heldFree Try.prog _ _ = true; decide +kernel) ?_; intro u; clear u) | (refine is_split ?_; (first | ((refine sp_yes ?_ ?_; focus (simp; omega))) | ((refine sp_no ?_ ?_; focus (simp; omega))) | refine sp_yes (by rfl) ?_ | refine sp_no (by rfl) ?_ | (refine sp_no ?_ ?_; focus (first | (simp; done) | (simp; omega)))) <;> (intro u; clear u)) | (refine is_asked ?_; (refine is_spec ?_; (with_reducible refine asked _ (sp_add (by simp only [lo, hi]; omega) (by simp only [lo, hi]; omega)) ?_)); intro u; clear u) | (refine is_call ?_; (first | refine call_auto (hR) (lets_rfl rfl) (by exact trivial) rfl ?_ | refine call_auto (hB) (lets_rfl rfl) (by exact trivial) rfl ?_ | refine call_auto (hT) (lets_rfl rfl) (by exact trivial) rfl ?_ | refine call_auto (wakes22_con) (lets_rfl rfl) (by exact trivial) rfl ?_); intro u; clear u))
    all_goals (refine con_end ?_ rfl; intro u; clear u; refine ⟨rfl, rfl, EntGoal.mk ?_ ?_⟩ <;> (repeat' (first | exact trivial | (with_reducible rfl) | apply And.intro | rfl)))
  · skip
    refine con_of_call2 rfl ?_
    refine call_inline Try.func10 rfl rfl ?_
    intro _
    repeat' (first | (refine is_asked ?_; refine asked () (by show heldFree Try.prog _ _ = true; decide +kernel) ?_; intro u; clear u) | (refine is_split ?_; (first | ((refine sp_yes ?_ ?_; focus (simp; omega))) | ((refine sp_no ?_ ?_; focus (simp; omega))) | refine sp_yes (by rfl) ?_ | refine sp_no (by rfl) ?_ | (refine sp_no ?_ ?_; focus (first | (simp; done) | (simp; omega)))) <;> (intro u; clear u)) | (refine is_call ?_; (first | refine call_auto (hR) (lets_rfl rfl) (by exact trivial) rfl ?_ | refine call_auto (hB) (lets_rfl rfl) (by exact trivial) rfl ?_ | refine call_auto (hT) (lets_rfl rfl) (by exact trivial) rfl ?_ | refine call_auto (wakes22_con) (lets_rfl rfl) (by exact trivial) rfl ?_); intro u; clear u))
    all_goals (refine con_end ?_ rfl; intro u; clear u; refine ⟨rfl, rfl, EntGoal.mk ?_ ?_⟩ <;> (repeat' (first | exact trivial | (with_reducible rfl) | apply And.intro | rfl)))
  · skip
    refine con_of_call2 rfl ?_
    refine call_inline Try.func10 rfl rfl ?_
    intro _
    repeat' (first | (refine is_asked ?_; refine asked () (by show heldFree Try.prog _ _ = true; decide +kernel) ?_; intro u; clear u) | (refine is_split ?_; (first | ((refine sp_yes ?_ ?_; focus (simp; omega))) | ((refine sp_no ?_ ?_; focus (simp; omega))) | refine sp_yes (by rfl) ?_ | refine sp_no (by rfl) ?_ | (refine sp_no ?_ ?_; focus (first | (simp; done) | (simp; omega)))) <;> (intro u; clear u)) | (refine is_call ?_; (first | refine call_auto (hR) (lets_rfl rfl) (by exact trivial) rfl ?_ | refine call_auto (hB) (lets_rfl rfl) (by exact trivial) rfl ?_ | refine call_auto (hT) (lets_rfl rfl) (by exact trivial) rfl ?_ | refine call_auto (wakes22_con) (lets_rfl rfl) (by exact trivial) rfl ?_); intro u; clear u))
    all_goals (refine con_end ?_ rfl; intro u; clear u; refine ⟨rfl, rfl, EntGoal.mk ?_ ?_⟩ <;> (repeat' (first | exact trivial | (with_reducible rfl) | apply And.intro | rfl)))
  · skip
    refine con_of_call2 rfl ?_
    refine call_inline Try.func10 rfl rfl ?_
    intro _
    repeat' (first | (refine is_asked ?_; refine asked () (by show heldFree Try.prog _ _ = true; decide +kernel) ?_; intro u; clear u) | (refine is_split ?_; (first | ((refine sp_yes ?_ ?_; focus (simp; omega))) | ((refine sp_no ?_ ?_; focus (simp; omega))) | refine sp_yes (by rfl) ?_ | refine sp_no (by rfl) ?_ | (refine sp_no ?_ ?_; focus (first | (simp; done) | (simp; omega)))) <;> (intro u; clear u)) | (refine is_call ?_; (first | refine call_auto (hR) (lets_rfl rfl) (by exact trivial) rfl ?_ | refine call_auto (hB) (lets_rfl rfl) (by exact trivial) rfl ?_ | refine call_auto (hT) (lets_rfl rfl) (by exact trivial) rfl ?_ | refine call_auto (wakes22_con) (lets_rfl rfl) (by exact trivial) rfl ?_); intro u; clear u))
    all_goals (refine con_end ?_ rfl; intro u; clear u; refine ⟨rfl, rfl, EntGoal.mk ?_ ?_⟩ <;> (repeat' (first | exact trivial | (with_reducible rfl) | apply And.intro | rfl)))
  · skip
    refine con_of_call2 rfl ?_
    refine call_inline Try.func10 rfl rfl ?_
    intro _
    repeat' (first | (refine is_asked ?_; refine asked () (by show heldFree Try.prog _ _ = true; decide +kernel) ?_; intro u; clear u) | (refine is_split ?_; (first | ((refine sp_yes ?_ ?_; focus (simp; omega))) | ((refine sp_no ?_ ?_; focus (simp; omega))) | refine sp_yes (by rfl) ?_ | refine sp_no (by rfl) ?_ | (refine sp_no ?_ ?_; focus (first | (simp; done) | (simp; omega)))) <;> (intro u; clear u)) | (refine is_call ?_; (first | refine call_auto (hR) (lets_rfl rfl) (by exact trivial) rfl ?_ | refine call_auto (hB) (lets_rfl rfl) (by exact trivial) rfl ?_ | refine call_auto (hT) (lets_rfl rfl) (by exact trivial) rfl ?_ | refine call_auto (wakes22_con) (lets_rfl rfl) (by exact trivial) rfl ?_); intro u; clear u))
    all_goals (refine con_end ?_ rfl; intro u; clear u; refine ⟨rfl, rfl, EntGoal.mk ?_ ?_⟩ <;> (repeat' (first | exact trivial | (with_reducible rfl) | apply And.intro | rfl)))
  · skip
    refine con_of_call2 rfl ?_
    refine call_inline Try.func10 rfl rfl ?_
    intro _
    repeat' (first | (refine is_asked ?_; refine asked () (by show heldFree Try.prog _ _ = true; decide +kernel) ?_; intro u; clear u) | (refine is_split ?_; (first | ((refine sp_yes ?_ ?_; focus (simp; omega))) | ((refine sp_no ?_ ?_; focus (simp; omega))) | refine sp_yes (by rfl) ?_ | refine sp_no (by rfl) ?_ | (refine sp_no ?_ ?_; focus (first | (simp; done) | (simp; omega)))) <;> (intro u; clear u)) | (refine is_asked ?_; (refine is_spec ?_; (with_reducible refine asked _ (sp_add (by simp only [lo, hi]; omega) (by simp only [lo, hi]; omega)) ?_)); intro u; clear u) | (refine is_call ?_; (first | refine call_auto (hR) (lets_rfl rfl) (by exact trivial) rfl ?_ | refine call_auto (hB) (lets_rfl rfl) (by exact trivial) rfl ?_ | refine call_auto (hT) (lets_rfl rfl) (by exact trivial) rfl ?_ | refine call_auto (wakes22_con) (lets_rfl rfl) (by exact trivial) rfl ?_); intro u; clear u))
    all_goals (refine con_end ?_ rfl; intro u; clear u; refine ⟨rfl, rfl, EntGoal.mk ?_ ?_⟩ <;> (repeat' (first | exact trivial | (with_reducible rfl) | apply And.intro | rfl)))
  · skip
    refine con_of_call2 rfl ?_
    refine call_inline Try.func10 rfl rfl ?_
    intro _
    repeat' (first | (refine is_asked ?_; refine asked () (by show heldFree Try.prog _ _ = true; decide +kernel) ?_; intro u; clear u) | (refine is_split ?_; (first | ((refine sp_yes ?_ ?_; focus (simp; omega))) | ((refine sp_no ?_ ?_; focus (simp; omega))) | refine sp_yes (by rfl) ?_ | refine sp_no (by rfl) ?_ | (refine sp_no ?_ ?_; focus (first | (simp; done) | (simp; omega)))) <;> (intro u; clear u)) | (refine is_call ?_; (first | refine call_auto (hR) (lets_rfl rfl) (by exact trivial) rfl ?_ | refine call_auto (hB) (lets_rfl rfl) (by exact trivial) rfl ?_ | refine call_auto (hT) (lets_rfl rfl) (by exact trivial) rfl ?_ | refine call_auto (wakes22_con) (lets_rfl rfl) (by exact trivial) rfl ?_); intro u; clear u))
    all_goals (refine con_end ?_ rfl; intro u; clear u; refine ⟨rfl, rfl, EntGoal.mk ?_ ?_⟩ <;> (repeat' (first | exact trivial | (with_reducible rfl) | apply And.intro | rfl)))
theorem refused_e2c {m o r : Mv} {to least now window f : Int} (hR : CallCon Try.prog 28 [mvT m] [] (.t (.one (.v (.bool true)))) []) (hb2 : 0 ≤ m.tick ∧ m.tick ≤ 1099511627776) (hB : CallCon Try.prog 30 [mvT m, .one (.v (.int .i64 to)), .one (.v (.int .i64 least))] [] (.tup [mvT m, .one (.v (.int .i64 2))]) []) (hT : CallCon Try.prog 32 [mvT m, .one (.v (.int .i64 now)), .one (.v (.int .i64 window))] [] (.tup [mvT r, .one (.v (.int .i64 f))]) []) (he : (0 ≤ to ∧ to ≤ 5 ∧ m.cur = to))
    (hf : (f = 0 ∧ (0 ≤ now ∧ now ≤ 1099511627776 ∧ 0 ≤ window ∧ window ≤ 1099511627776 ∧ m.ph = 4 ∧ m.tick + window ≤ now)) ∨ (f = 2 ∧ r = m ∧ now < 0) ∨ (f = 2 ∧ r = m ∧ 1099511627776 < now) ∨ (f = 2 ∧ r = m ∧ (0 ≤ now ∧ now ≤ 1099511627776 ∧ window < 0)) ∨ (f = 2 ∧ r = m ∧ (0 ≤ now ∧ now ≤ 1099511627776 ∧ 1099511627776 < window)) ∨ (f = 222 ∧ r = m ∧ (0 ≤ now ∧ now ≤ 1099511627776 ∧ 0 ≤ window ∧ window ≤ 1099511627776 ∧ m.ph = 4 ∧ now < m.tick + window)) ∨ (f = 223 ∧ r = m ∧ (0 ≤ now ∧ now ≤ 1099511627776 ∧ 0 ≤ window ∧ window ≤ 1099511627776 ∧ m.ph ≠ 4))) : CallCon Try.prog 10 [mvT m, .one (.v (.int .i64 to)), .one (.v (.int .i64 least)), .one (.v (.int .i64 now)), .one (.v (.int .i64 window))] [] (.t (.one (.v (.bool true)))) [] := by
  rcases hf with ⟨rfl, hf⟩ | ⟨rfl, rfl, hf⟩ | ⟨rfl, rfl, hf⟩ | ⟨rfl, rfl, hf⟩ | ⟨rfl, rfl, hf⟩ | ⟨rfl, rfl, hf⟩ | ⟨rfl, rfl, hf⟩
  · skip
    refine con_of_call2 rfl ?_
    refine call_inline Try.func10 rfl rfl ?_
    intro _
    repeat' (first | (refine is_asked ?_; refine asked () (by show heldFree Try.prog _ _ = true; decide +kernel) ?_; intro u; clear u) | (refine is_split ?_; (first | ((refine sp_yes ?_ ?_; focus (simp; omega))) | ((refine sp_no ?_ ?_; focus (simp; omega))) | refine sp_yes (by rfl) ?_ | refine sp_no (by rfl) ?_ | (refine sp_no ?_ ?_; focus (first | (simp; done) | (simp; omega)))) <;> (intro u; clear u)) | (refine is_asked ?_; (refine is_spec ?_; (with_reducible refine asked _ (sp_add (by simp only [lo, hi]; omega) (by simp only [lo, hi]; omega)) ?_)); intro u; clear u) | (refine is_call ?_; (first | refine call_auto (hR) (lets_rfl rfl) (by exact trivial) rfl ?_ | refine call_auto (hB) (lets_rfl rfl) (by exact trivial) rfl ?_ | refine call_auto (hT) (lets_rfl rfl) (by exact trivial) rfl ?_ | refine call_auto (wakes22_con) (lets_rfl rfl) (by exact trivial) rfl ?_); intro u; clear u))
    all_goals (refine con_end ?_ rfl; intro u; clear u; refine ⟨rfl, rfl, EntGoal.mk ?_ ?_⟩ <;> (repeat' (first | exact trivial | (with_reducible rfl) | apply And.intro | rfl)))
  · skip
    refine con_of_call2 rfl ?_
    refine call_inline Try.func10 rfl rfl ?_
    intro _
    repeat' (first | (refine is_asked ?_; refine asked () (by show heldFree Try.prog _ _ = true; decide +kernel) ?_; intro u; clear u) | (refine is_split ?_; (first | ((refine sp_yes ?_ ?_; focus (simp; omega))) | ((refine sp_no ?_ ?_; focus (simp; omega))) | refine sp_yes (by rfl) ?_ | refine sp_no (by rfl) ?_ | (refine sp_no ?_ ?_; focus (first | (simp; done) | (simp; omega)))) <;> (intro u; clear u)) | (refine is_call ?_; (first | refine call_auto (hR) (lets_rfl rfl) (by exact trivial) rfl ?_ | refine call_auto (hB) (lets_rfl rfl) (by exact trivial) rfl ?_ | refine call_auto (hT) (lets_rfl rfl) (by exact trivial) rfl ?_ | refine call_auto (wakes22_con) (lets_rfl rfl) (by exact trivial) rfl ?_); intro u; clear u))
    all_goals (refine con_end ?_ rfl; intro u; clear u; refine ⟨rfl, rfl, EntGoal.mk ?_ ?_⟩ <;> (repeat' (first | exact trivial | (with_reducible rfl) | apply And.intro | rfl)))
  · skip
    refine con_of_call2 rfl ?_
    refine call_inline Try.func10 rfl rfl ?_
    intro _
    repeat' (first | (refine is_asked ?_; refine asked () (by show heldFree Try.prog _ _ = true; decide +kernel) ?_; intro u; clear u) | (refine is_split ?_; (first | ((refine sp_yes ?_ ?_; focus (simp; omega))) | ((refine sp_no ?_ ?_; focus (simp; omega))) | refine sp_yes (by rfl) ?_ | refine sp_no (by rfl) ?_ | (refine sp_no ?_ ?_; focus (first | (simp; done) | (simp; omega)))) <;> (intro u; clear u)) | (refine is_call ?_; (first | refine call_auto (hR) (lets_rfl rfl) (by exact trivial) rfl ?_ | refine call_auto (hB) (lets_rfl rfl) (by exact trivial) rfl ?_ | refine call_auto (hT) (lets_rfl rfl) (by exact trivial) rfl ?_ | refine call_auto (wakes22_con) (lets_rfl rfl) (by exact trivial) rfl ?_); intro u; clear u))
    all_goals (refine con_end ?_ rfl; intro u; clear u; refine ⟨rfl, rfl, EntGoal.mk ?_ ?_⟩ <;> (repeat' (first | exact trivial | (with_reducible rfl) | apply And.intro | rfl)))
  · skip
    refine con_of_call2 rfl ?_
    refine call_inline Try.func10 rfl rfl ?_
    intro _
    repeat' (first | (refine is_asked ?_; refine asked () (by show heldFree Try.prog _ _ = true; decide +kernel) ?_; intro u; clear u) | (refine is_split ?_; (first | ((refine sp_yes ?_ ?_; focus (simp; omega))) | ((refine sp_no ?_ ?_; focus (simp; omega))) | refine sp_yes (by rfl) ?_ | refine sp_no (by rfl) ?_ | (refine sp_no ?_ ?_; focus (first | (simp; done) | (simp; omega)))) <;> (intro u; clear u)) | (refine is_call ?_; (first | refine call_auto (hR) (lets_rfl rfl) (by exact trivial) rfl ?_ | refine call_auto (hB) (lets_rfl rfl) (by exact trivial) rfl ?_ | refine call_auto (hT) (lets_rfl rfl) (by exact trivial) rfl ?_ | refine call_auto (wakes22_con) (lets_rfl rfl) (by exact trivial) rfl ?_); intro u; clear u))
    all_goals (refine con_end ?_ rfl; intro u; clear u; refine ⟨rfl, rfl, EntGoal.mk ?_ ?_⟩ <;> (repeat' (first | exact trivial | (with_reducible rfl) | apply And.intro | rfl)))
  · skip
    refine con_of_call2 rfl ?_
    refine call_inline Try.func10 rfl rfl ?_
    intro _
    repeat' (first | (refine is_asked ?_; refine asked () (by show heldFree Try.prog _ _ = true; decide +kernel) ?_; intro u; clear u) | (refine is_split ?_; (first | ((refine sp_yes ?_ ?_; focus (simp; omega))) | ((refine sp_no ?_ ?_; focus (simp; omega))) | refine sp_yes (by rfl) ?_ | (refine sp_no ?_ ?_; focus (first | (simp; done) | (simp; omega)))) <;> (intro u; clear u)) | (refine is_call ?_; (first | refine call_auto (hR) (lets_rfl rfl) (by exact trivial) rfl ?_ | refine call_auto (hB) (lets_rfl rfl) (by exact trivial) rfl ?_ | refine call_auto (hT) (lets_rfl rfl) (by exact trivial) rfl ?_ | refine call_auto (wakes22_con) (lets_rfl rfl) (by exact trivial) rfl ?_); intro u; clear u))
    all_goals (refine con_end ?_ rfl; intro u; clear u; refine ⟨rfl, rfl, EntGoal.mk ?_ ?_⟩ <;> (repeat' (first | exact trivial | (with_reducible rfl) | apply And.intro | rfl)))
  · skip
    refine con_of_call2 rfl ?_
    refine call_inline Try.func10 rfl rfl ?_
    intro _
    repeat' (first | (refine is_asked ?_; refine asked () (by show heldFree Try.prog _ _ = true; decide +kernel) ?_; intro u; clear u) | (refine is_split ?_; (first | ((refine sp_yes ?_ ?_; focus (simp; omega))) | ((refine sp_no ?_ ?_; focus (simp; omega))) | refine sp_yes (by rfl) ?_ | (refine sp_no ?_ ?_; focus (first | (simp; done) | (simp; omega)))) <;> (intro u; clear u)) | (refine is_asked ?_; (refine is_spec ?_; (with_reducible refine asked _ (sp_add (by simp only [lo, hi]; omega) (by simp only [lo, hi]; omega)) ?_)); intro u; clear u) | (refine is_call ?_; (first | refine call_auto (hR) (lets_rfl rfl) (by exact trivial) rfl ?_ | refine call_auto (hB) (lets_rfl rfl) (by exact trivial) rfl ?_ | refine call_auto (hT) (lets_rfl rfl) (by exact trivial) rfl ?_ | refine call_auto (wakes22_con) (lets_rfl rfl) (by exact trivial) rfl ?_); intro u; clear u))
    all_goals (refine con_end ?_ rfl; intro u; clear u; refine ⟨rfl, rfl, EntGoal.mk ?_ ?_⟩ <;> (repeat' (first | exact trivial | (with_reducible rfl) | apply And.intro | rfl)))
  · skip
    refine con_of_call2 rfl ?_
    refine call_inline Try.func10 rfl rfl ?_
    intro _
    repeat' (first | (refine is_asked ?_; refine asked () (by show heldFree Try.prog _ _ = true; decide +kernel) ?_; intro u; clear u) | (refine is_split ?_; (first | ((refine sp_yes ?_ ?_; focus (simp; omega))) | ((refine sp_no ?_ ?_; focus (simp; omega))) | refine sp_yes (by rfl) ?_ | (refine sp_no ?_ ?_; focus (first | (simp; done) | (simp; omega)))) <;> (intro u; clear u)) | (refine is_call ?_; (first | refine call_auto (hR) (lets_rfl rfl) (by exact trivial) rfl ?_ | refine call_auto (hB) (lets_rfl rfl) (by exact trivial) rfl ?_ | refine call_auto (hT) (lets_rfl rfl) (by exact trivial) rfl ?_ | refine call_auto (wakes22_con) (lets_rfl rfl) (by exact trivial) rfl ?_); intro u; clear u))
    all_goals (refine con_end ?_ rfl; intro u; clear u; refine ⟨rfl, rfl, EntGoal.mk ?_ ?_⟩ <;> (repeat' (first | exact trivial | (with_reducible rfl) | apply And.intro | rfl)))
theorem refused_e150 {m o r : Mv} {to least now window f : Int} (hR : CallCon Try.prog 28 [mvT m] [] (.t (.one (.v (.bool true)))) []) (hb2 : 0 ≤ m.tick ∧ m.tick ≤ 1099511627776) (hB : CallCon Try.prog 30 [mvT m, .one (.v (.int .i64 to)), .one (.v (.int .i64 least))] [] (.tup [mvT m, .one (.v (.int .i64 150))]) []) (hT : CallCon Try.prog 32 [mvT m, .one (.v (.int .i64 now)), .one (.v (.int .i64 window))] [] (.tup [mvT r, .one (.v (.int .i64 f))]) []) (he : (0 ≤ to ∧ to ≤ 5 ∧ m.cur ≠ to ∧ m.ph = 1 ∧ m.ver ≤ least))
    (hf : (f = 0 ∧ (0 ≤ now ∧ now ≤ 1099511627776 ∧ 0 ≤ window ∧ window ≤ 1099511627776 ∧ m.ph = 4 ∧ m.tick + window ≤ now)) ∨ (f = 2 ∧ r = m ∧ now < 0) ∨ (f = 2 ∧ r = m ∧ 1099511627776 < now) ∨ (f = 2 ∧ r = m ∧ (0 ≤ now ∧ now ≤ 1099511627776 ∧ window < 0)) ∨ (f = 2 ∧ r = m ∧ (0 ≤ now ∧ now ≤ 1099511627776 ∧ 1099511627776 < window)) ∨ (f = 222 ∧ r = m ∧ (0 ≤ now ∧ now ≤ 1099511627776 ∧ 0 ≤ window ∧ window ≤ 1099511627776 ∧ m.ph = 4 ∧ now < m.tick + window)) ∨ (f = 223 ∧ r = m ∧ (0 ≤ now ∧ now ≤ 1099511627776 ∧ 0 ≤ window ∧ window ≤ 1099511627776 ∧ m.ph ≠ 4))) : CallCon Try.prog 10 [mvT m, .one (.v (.int .i64 to)), .one (.v (.int .i64 least)), .one (.v (.int .i64 now)), .one (.v (.int .i64 window))] [] (.t (.one (.v (.bool true)))) [] := by
  rcases hf with ⟨rfl, hf⟩ | ⟨rfl, rfl, hf⟩ | ⟨rfl, rfl, hf⟩ | ⟨rfl, rfl, hf⟩ | ⟨rfl, rfl, hf⟩ | ⟨rfl, rfl, hf⟩ | ⟨rfl, rfl, hf⟩
  · omega
  · skip
    refine con_of_call2 rfl ?_
    refine call_inline Try.func10 rfl rfl ?_
    intro _
    repeat' (first | (refine is_asked ?_; refine asked () (by show heldFree Try.prog _ _ = true; decide +kernel) ?_; intro u; clear u) | (refine is_split ?_; (first | ((refine sp_yes ?_ ?_; focus (simp; omega))) | ((refine sp_no ?_ ?_; focus (simp; omega))) | refine sp_yes (by rfl) ?_ | refine sp_no (by rfl) ?_ | (refine sp_no ?_ ?_; focus (first | (simp; done) | (simp; omega)))) <;> (intro u; clear u)) | (refine is_call ?_; (first | refine call_auto (hR) (lets_rfl rfl) (by exact trivial) rfl ?_ | refine call_auto (hB) (lets_rfl rfl) (by exact trivial) rfl ?_ | refine call_auto (hT) (lets_rfl rfl) (by exact trivial) rfl ?_ | refine call_auto (wakes22_con) (lets_rfl rfl) (by exact trivial) rfl ?_); intro u; clear u))
    all_goals (refine con_end ?_ rfl; intro u; clear u; refine ⟨rfl, rfl, EntGoal.mk ?_ ?_⟩ <;> (repeat' (first | exact trivial | (with_reducible rfl) | apply And.intro | rfl)))
  · skip
    refine con_of_call2 rfl ?_
    refine call_inline Try.func10 rfl rfl ?_
    intro _
    repeat' (first | (refine is_asked ?_; refine asked () (by show heldFree Try.prog _ _ = true; decide +kernel) ?_; intro u; clear u) | (refine is_split ?_; (first | ((refine sp_yes ?_ ?_; focus (simp; omega))) | ((refine sp_no ?_ ?_; focus (simp; omega))) | refine sp_yes (by rfl) ?_ | refine sp_no (by rfl) ?_ | (refine sp_no ?_ ?_; focus (first | (simp; done) | (simp; omega)))) <;> (intro u; clear u)) | (refine is_call ?_; (first | refine call_auto (hR) (lets_rfl rfl) (by exact trivial) rfl ?_ | refine call_auto (hB) (lets_rfl rfl) (by exact trivial) rfl ?_ | refine call_auto (hT) (lets_rfl rfl) (by exact trivial) rfl ?_ | refine call_auto (wakes22_con) (lets_rfl rfl) (by exact trivial) rfl ?_); intro u; clear u))
    all_goals (refine con_end ?_ rfl; intro u; clear u; refine ⟨rfl, rfl, EntGoal.mk ?_ ?_⟩ <;> (repeat' (first | exact trivial | (with_reducible rfl) | apply And.intro | rfl)))
  · skip
    refine con_of_call2 rfl ?_
    refine call_inline Try.func10 rfl rfl ?_
    intro _
    repeat' (first | (refine is_asked ?_; refine asked () (by show heldFree Try.prog _ _ = true; decide +kernel) ?_; intro u; clear u) | (refine is_split ?_; (first | ((refine sp_yes ?_ ?_; focus (simp; omega))) | ((refine sp_no ?_ ?_; focus (simp; omega))) | refine sp_yes (by rfl) ?_ | refine sp_no (by rfl) ?_ | (refine sp_no ?_ ?_; focus (first | (simp; done) | (simp; omega)))) <;> (intro u; clear u)) | (refine is_call ?_; (first | refine call_auto (hR) (lets_rfl rfl) (by exact trivial) rfl ?_ | refine call_auto (hB) (lets_rfl rfl) (by exact trivial) rfl ?_ | refine call_auto (hT) (lets_rfl rfl) (by exact trivial) rfl ?_ | refine call_auto (wakes22_con) (lets_rfl rfl) (by exact trivial) rfl ?_); intro u; clear u))
    all_goals (refine con_end ?_ rfl; intro u; clear u; refine ⟨rfl, rfl, EntGoal.mk ?_ ?_⟩ <;> (repeat' (first | exact trivial | (with_reducible rfl) | apply And.intro | rfl)))
  · skip
    refine con_of_call2 rfl ?_
    refine call_inline Try.func10 rfl rfl ?_
    intro _
    repeat' (first | (refine is_asked ?_; refine asked () (by show heldFree Try.prog _ _ = true; decide +kernel) ?_; intro u; clear u) | (refine is_split ?_; (first | ((refine sp_yes ?_ ?_; focus (simp; omega))) | ((refine sp_no ?_ ?_; focus (simp; omega))) | refine sp_yes (by rfl) ?_ | (refine sp_no ?_ ?_; focus (first | (simp; done) | (simp; omega)))) <;> (intro u; clear u)) | (refine is_call ?_; (first | refine call_auto (hR) (lets_rfl rfl) (by exact trivial) rfl ?_ | refine call_auto (hB) (lets_rfl rfl) (by exact trivial) rfl ?_ | refine call_auto (hT) (lets_rfl rfl) (by exact trivial) rfl ?_ | refine call_auto (wakes22_con) (lets_rfl rfl) (by exact trivial) rfl ?_); intro u; clear u))
    all_goals (refine con_end ?_ rfl; intro u; clear u; refine ⟨rfl, rfl, EntGoal.mk ?_ ?_⟩ <;> (repeat' (first | exact trivial | (with_reducible rfl) | apply And.intro | rfl)))
  · omega
  · skip
    refine con_of_call2 rfl ?_
    refine call_inline Try.func10 rfl rfl ?_
    intro _
    repeat' (first | (refine is_asked ?_; refine asked () (by show heldFree Try.prog _ _ = true; decide +kernel) ?_; intro u; clear u) | (refine is_split ?_; (first | ((refine sp_yes ?_ ?_; focus (simp; omega))) | ((refine sp_no ?_ ?_; focus (simp; omega))) | refine sp_yes (by rfl) ?_ | (refine sp_no ?_ ?_; focus (first | (simp; done) | (simp; omega)))) <;> (intro u; clear u)) | (refine is_call ?_; (first | refine call_auto (hR) (lets_rfl rfl) (by exact trivial) rfl ?_ | refine call_auto (hB) (lets_rfl rfl) (by exact trivial) rfl ?_ | refine call_auto (hT) (lets_rfl rfl) (by exact trivial) rfl ?_ | refine call_auto (wakes22_con) (lets_rfl rfl) (by exact trivial) rfl ?_); intro u; clear u))
    all_goals (refine con_end ?_ rfl; intro u; clear u; refine ⟨rfl, rfl, EntGoal.mk ?_ ?_⟩ <;> (repeat' (first | exact trivial | (with_reducible rfl) | apply And.intro | rfl)))
theorem refused_e220 {m o r : Mv} {to least now window f : Int} (hR : CallCon Try.prog 28 [mvT m] [] (.t (.one (.v (.bool true)))) []) (hb2 : 0 ≤ m.tick ∧ m.tick ≤ 1099511627776) (hB : CallCon Try.prog 30 [mvT m, .one (.v (.int .i64 to)), .one (.v (.int .i64 least))] [] (.tup [mvT m, .one (.v (.int .i64 220))]) []) (hT : CallCon Try.prog 32 [mvT m, .one (.v (.int .i64 now)), .one (.v (.int .i64 window))] [] (.tup [mvT r, .one (.v (.int .i64 f))]) []) (he : (0 ≤ to ∧ to ≤ 5 ∧ m.cur ≠ to ∧ m.ph ≠ 1))
    (hf : (f = 0 ∧ (0 ≤ now ∧ now ≤ 1099511627776 ∧ 0 ≤ window ∧ window ≤ 1099511627776 ∧ m.ph = 4 ∧ m.tick + window ≤ now)) ∨ (f = 2 ∧ r = m ∧ now < 0) ∨ (f = 2 ∧ r = m ∧ 1099511627776 < now) ∨ (f = 2 ∧ r = m ∧ (0 ≤ now ∧ now ≤ 1099511627776 ∧ window < 0)) ∨ (f = 2 ∧ r = m ∧ (0 ≤ now ∧ now ≤ 1099511627776 ∧ 1099511627776 < window)) ∨ (f = 222 ∧ r = m ∧ (0 ≤ now ∧ now ≤ 1099511627776 ∧ 0 ≤ window ∧ window ≤ 1099511627776 ∧ m.ph = 4 ∧ now < m.tick + window)) ∨ (f = 223 ∧ r = m ∧ (0 ≤ now ∧ now ≤ 1099511627776 ∧ 0 ≤ window ∧ window ≤ 1099511627776 ∧ m.ph ≠ 4))) : CallCon Try.prog 10 [mvT m, .one (.v (.int .i64 to)), .one (.v (.int .i64 least)), .one (.v (.int .i64 now)), .one (.v (.int .i64 window))] [] (.t (.one (.v (.bool true)))) [] := by
  rcases hf with ⟨rfl, hf⟩ | ⟨rfl, rfl, hf⟩ | ⟨rfl, rfl, hf⟩ | ⟨rfl, rfl, hf⟩ | ⟨rfl, rfl, hf⟩ | ⟨rfl, rfl, hf⟩ | ⟨rfl, rfl, hf⟩
  · skip
    refine con_of_call2 rfl ?_
    refine call_inline Try.func10 rfl rfl ?_
    intro _
    repeat' (first | (refine is_asked ?_; refine asked () (by show heldFree Try.prog _ _ = true; decide +kernel) ?_; intro u; clear u) | (refine is_split ?_; (first | ((refine sp_yes ?_ ?_; focus (simp; omega))) | ((refine sp_no ?_ ?_; focus (simp; omega))) | refine sp_yes (by rfl) ?_ | refine sp_no (by rfl) ?_ | (refine sp_no ?_ ?_; focus (first | (simp; done) | (simp; omega)))) <;> (intro u; clear u)) | (refine is_asked ?_; (refine is_spec ?_; (with_reducible refine asked _ (sp_add (by simp only [lo, hi]; omega) (by simp only [lo, hi]; omega)) ?_)); intro u; clear u) | (refine is_call ?_; (first | refine call_auto (hR) (lets_rfl rfl) (by exact trivial) rfl ?_ | refine call_auto (hB) (lets_rfl rfl) (by exact trivial) rfl ?_ | refine call_auto (hT) (lets_rfl rfl) (by exact trivial) rfl ?_ | refine call_auto (wakes22_con) (lets_rfl rfl) (by exact trivial) rfl ?_); intro u; clear u))
    all_goals (refine con_end ?_ rfl; intro u; clear u; refine ⟨rfl, rfl, EntGoal.mk ?_ ?_⟩ <;> (repeat' (first | exact trivial | (with_reducible rfl) | apply And.intro | rfl)))
  · skip
    refine con_of_call2 rfl ?_
    refine call_inline Try.func10 rfl rfl ?_
    intro _
    repeat' (first | (refine is_asked ?_; refine asked () (by show heldFree Try.prog _ _ = true; decide +kernel) ?_; intro u; clear u) | (refine is_split ?_; (first | ((refine sp_yes ?_ ?_; focus (simp; omega))) | ((refine sp_no ?_ ?_; focus (simp; omega))) | refine sp_yes (by rfl) ?_ | refine sp_no (by rfl) ?_ | (refine sp_no ?_ ?_; focus (first | (simp; done) | (simp; omega)))) <;> (intro u; clear u)) | (refine is_call ?_; (first | refine call_auto (hR) (lets_rfl rfl) (by exact trivial) rfl ?_ | refine call_auto (hB) (lets_rfl rfl) (by exact trivial) rfl ?_ | refine call_auto (hT) (lets_rfl rfl) (by exact trivial) rfl ?_ | refine call_auto (wakes22_con) (lets_rfl rfl) (by exact trivial) rfl ?_); intro u; clear u))
    all_goals (refine con_end ?_ rfl; intro u; clear u; refine ⟨rfl, rfl, EntGoal.mk ?_ ?_⟩ <;> (repeat' (first | exact trivial | (with_reducible rfl) | apply And.intro | rfl)))
  · skip
    refine con_of_call2 rfl ?_
    refine call_inline Try.func10 rfl rfl ?_
    intro _
    repeat' (first | (refine is_asked ?_; refine asked () (by show heldFree Try.prog _ _ = true; decide +kernel) ?_; intro u; clear u) | (refine is_split ?_; (first | ((refine sp_yes ?_ ?_; focus (simp; omega))) | ((refine sp_no ?_ ?_; focus (simp; omega))) | refine sp_yes (by rfl) ?_ | refine sp_no (by rfl) ?_ | (refine sp_no ?_ ?_; focus (first | (simp; done) | (simp; omega)))) <;> (intro u; clear u)) | (refine is_call ?_; (first | refine call_auto (hR) (lets_rfl rfl) (by exact trivial) rfl ?_ | refine call_auto (hB) (lets_rfl rfl) (by exact trivial) rfl ?_ | refine call_auto (hT) (lets_rfl rfl) (by exact trivial) rfl ?_ | refine call_auto (wakes22_con) (lets_rfl rfl) (by exact trivial) rfl ?_); intro u; clear u))
    all_goals (refine con_end ?_ rfl; intro u; clear u; refine ⟨rfl, rfl, EntGoal.mk ?_ ?_⟩ <;> (repeat' (first | exact trivial | (with_reducible rfl) | apply And.intro | rfl)))
  · skip
    refine con_of_call2 rfl ?_
    refine call_inline Try.func10 rfl rfl ?_
    intro _
    repeat' (first | (refine is_asked ?_; refine asked () (by show heldFree Try.prog _ _ = true; decide +kernel) ?_; intro u; clear u) | (refine is_split ?_; (first | ((refine sp_yes ?_ ?_; focus (simp; omega))) | ((refine sp_no ?_ ?_; focus (simp; omega))) | refine sp_yes (by rfl) ?_ | refine sp_no (by rfl) ?_ | (refine sp_no ?_ ?_; focus (first | (simp; done) | (simp; omega)))) <;> (intro u; clear u)) | (refine is_call ?_; (first | refine call_auto (hR) (lets_rfl rfl) (by exact trivial) rfl ?_ | refine call_auto (hB) (lets_rfl rfl) (by exact trivial) rfl ?_ | refine call_auto (hT) (lets_rfl rfl) (by exact trivial) rfl ?_ | refine call_auto (wakes22_con) (lets_rfl rfl) (by exact trivial) rfl ?_); intro u; clear u))
    all_goals (refine con_end ?_ rfl; intro u; clear u; refine ⟨rfl, rfl, EntGoal.mk ?_ ?_⟩ <;> (repeat' (first | exact trivial | (with_reducible rfl) | apply And.intro | rfl)))
  · skip
    refine con_of_call2 rfl ?_
    refine call_inline Try.func10 rfl rfl ?_
    intro _
    repeat' (first | (refine is_asked ?_; refine asked () (by show heldFree Try.prog _ _ = true; decide +kernel) ?_; intro u; clear u) | (refine is_split ?_; (first | ((refine sp_yes ?_ ?_; focus (simp; omega))) | ((refine sp_no ?_ ?_; focus (simp; omega))) | refine sp_yes (by rfl) ?_ | (refine sp_no ?_ ?_; focus (first | (simp; done) | (simp; omega)))) <;> (intro u; clear u)) | (refine is_call ?_; (first | refine call_auto (hR) (lets_rfl rfl) (by exact trivial) rfl ?_ | refine call_auto (hB) (lets_rfl rfl) (by exact trivial) rfl ?_ | refine call_auto (hT) (lets_rfl rfl) (by exact trivial) rfl ?_ | refine call_auto (wakes22_con) (lets_rfl rfl) (by exact trivial) rfl ?_); intro u; clear u))
    all_goals (refine con_end ?_ rfl; intro u; clear u; refine ⟨rfl, rfl, EntGoal.mk ?_ ?_⟩ <;> (repeat' (first | exact trivial | (with_reducible rfl) | apply And.intro | rfl)))
  · skip
    refine con_of_call2 rfl ?_
    refine call_inline Try.func10 rfl rfl ?_
    intro _
    repeat' (first | (refine is_asked ?_; refine asked () (by show heldFree Try.prog _ _ = true; decide +kernel) ?_; intro u; clear u) | (refine is_split ?_; (first | ((refine sp_yes ?_ ?_; focus (simp; omega))) | ((refine sp_no ?_ ?_; focus (simp; omega))) | refine sp_yes (by rfl) ?_ | (refine sp_no ?_ ?_; focus (first | (simp; done) | (simp; omega)))) <;> (intro u; clear u)) | (refine is_asked ?_; (refine is_spec ?_; (with_reducible refine asked _ (sp_add (by simp only [lo, hi]; omega) (by simp only [lo, hi]; omega)) ?_)); intro u; clear u) | (refine is_call ?_; (first | refine call_auto (hR) (lets_rfl rfl) (by exact trivial) rfl ?_ | refine call_auto (hB) (lets_rfl rfl) (by exact trivial) rfl ?_ | refine call_auto (hT) (lets_rfl rfl) (by exact trivial) rfl ?_ | refine call_auto (wakes22_con) (lets_rfl rfl) (by exact trivial) rfl ?_); intro u; clear u))
    all_goals (refine con_end ?_ rfl; intro u; clear u; refine ⟨rfl, rfl, EntGoal.mk ?_ ?_⟩ <;> (repeat' (first | exact trivial | (with_reducible rfl) | apply And.intro | rfl)))
  · skip
    refine con_of_call2 rfl ?_
    refine call_inline Try.func10 rfl rfl ?_
    intro _
    repeat' (first | (refine is_asked ?_; refine asked () (by show heldFree Try.prog _ _ = true; decide +kernel) ?_; intro u; clear u) | (refine is_split ?_; (first | ((refine sp_yes ?_ ?_; focus (simp; omega))) | ((refine sp_no ?_ ?_; focus (simp; omega))) | refine sp_yes (by rfl) ?_ | (refine sp_no ?_ ?_; focus (first | (simp; done) | (simp; omega)))) <;> (intro u; clear u)) | (refine is_call ?_; (first | refine call_auto (hR) (lets_rfl rfl) (by exact trivial) rfl ?_ | refine call_auto (hB) (lets_rfl rfl) (by exact trivial) rfl ?_ | refine call_auto (hT) (lets_rfl rfl) (by exact trivial) rfl ?_ | refine call_auto (wakes22_con) (lets_rfl rfl) (by exact trivial) rfl ?_); intro u; clear u))
    all_goals (refine con_end ?_ rfl; intro u; clear u; refine ⟨rfl, rfl, EntGoal.mk ?_ ?_⟩ <;> (repeat' (first | exact trivial | (with_reducible rfl) | apply And.intro | rfl)))
theorem refused_e221 {m o r : Mv} {to least now window f : Int} (hR : CallCon Try.prog 28 [mvT m] [] (.t (.one (.v (.bool true)))) []) (hb2 : 0 ≤ m.tick ∧ m.tick ≤ 1099511627776) (hB : CallCon Try.prog 30 [mvT m, .one (.v (.int .i64 to)), .one (.v (.int .i64 least))] [] (.tup [mvT m, .one (.v (.int .i64 221))]) []) (hT : CallCon Try.prog 32 [mvT m, .one (.v (.int .i64 now)), .one (.v (.int .i64 window))] [] (.tup [mvT r, .one (.v (.int .i64 f))]) []) (he : (0 ≤ to ∧ to ≤ 5 ∧ m.cur ≠ to ∧ m.ph = 1 ∧ least < m.ver))
    (hf : (f = 0 ∧ (0 ≤ now ∧ now ≤ 1099511627776 ∧ 0 ≤ window ∧ window ≤ 1099511627776 ∧ m.ph = 4 ∧ m.tick + window ≤ now)) ∨ (f = 2 ∧ r = m ∧ now < 0) ∨ (f = 2 ∧ r = m ∧ 1099511627776 < now) ∨ (f = 2 ∧ r = m ∧ (0 ≤ now ∧ now ≤ 1099511627776 ∧ window < 0)) ∨ (f = 2 ∧ r = m ∧ (0 ≤ now ∧ now ≤ 1099511627776 ∧ 1099511627776 < window)) ∨ (f = 222 ∧ r = m ∧ (0 ≤ now ∧ now ≤ 1099511627776 ∧ 0 ≤ window ∧ window ≤ 1099511627776 ∧ m.ph = 4 ∧ now < m.tick + window)) ∨ (f = 223 ∧ r = m ∧ (0 ≤ now ∧ now ≤ 1099511627776 ∧ 0 ≤ window ∧ window ≤ 1099511627776 ∧ m.ph ≠ 4))) : CallCon Try.prog 10 [mvT m, .one (.v (.int .i64 to)), .one (.v (.int .i64 least)), .one (.v (.int .i64 now)), .one (.v (.int .i64 window))] [] (.t (.one (.v (.bool true)))) [] := by
  rcases hf with ⟨rfl, hf⟩ | ⟨rfl, rfl, hf⟩ | ⟨rfl, rfl, hf⟩ | ⟨rfl, rfl, hf⟩ | ⟨rfl, rfl, hf⟩ | ⟨rfl, rfl, hf⟩ | ⟨rfl, rfl, hf⟩
  · omega
  · skip
    refine con_of_call2 rfl ?_
    refine call_inline Try.func10 rfl rfl ?_
    intro _
    repeat' (first | (refine is_asked ?_; refine asked () (by show heldFree Try.prog _ _ = true; decide +kernel) ?_; intro u; clear u) | (refine is_split ?_; (first | ((refine sp_yes ?_ ?_; focus (simp; omega))) | ((refine sp_no ?_ ?_; focus (simp; omega))) | refine sp_yes (by rfl) ?_ | refine sp_no (by rfl) ?_ | (refine sp_no ?_ ?_; focus (first | (simp; done) | (simp; omega)))) <;> (intro u; clear u)) | (refine is_call ?_; (first | refine call_auto (hR) (lets_rfl rfl) (by exact trivial) rfl ?_ | refine call_auto (hB) (lets_rfl rfl) (by exact trivial) rfl ?_ | refine call_auto (hT) (lets_rfl rfl) (by exact trivial) rfl ?_ | refine call_auto (wakes22_con) (lets_rfl rfl) (by exact trivial) rfl ?_); intro u; clear u))
    all_goals (refine con_end ?_ rfl; intro u; clear u; refine ⟨rfl, rfl, EntGoal.mk ?_ ?_⟩ <;> (repeat' (first | exact trivial | (with_reducible rfl) | apply And.intro | rfl)))
  · skip
    refine con_of_call2 rfl ?_
    refine call_inline Try.func10 rfl rfl ?_
    intro _
    repeat' (first | (refine is_asked ?_; refine asked () (by show heldFree Try.prog _ _ = true; decide +kernel) ?_; intro u; clear u) | (refine is_split ?_; (first | ((refine sp_yes ?_ ?_; focus (simp; omega))) | ((refine sp_no ?_ ?_; focus (simp; omega))) | refine sp_yes (by rfl) ?_ | refine sp_no (by rfl) ?_ | (refine sp_no ?_ ?_; focus (first | (simp; done) | (simp; omega)))) <;> (intro u; clear u)) | (refine is_call ?_; (first | refine call_auto (hR) (lets_rfl rfl) (by exact trivial) rfl ?_ | refine call_auto (hB) (lets_rfl rfl) (by exact trivial) rfl ?_ | refine call_auto (hT) (lets_rfl rfl) (by exact trivial) rfl ?_ | refine call_auto (wakes22_con) (lets_rfl rfl) (by exact trivial) rfl ?_); intro u; clear u))
    all_goals (refine con_end ?_ rfl; intro u; clear u; refine ⟨rfl, rfl, EntGoal.mk ?_ ?_⟩ <;> (repeat' (first | exact trivial | (with_reducible rfl) | apply And.intro | rfl)))
  · skip
    refine con_of_call2 rfl ?_
    refine call_inline Try.func10 rfl rfl ?_
    intro _
    repeat' (first | (refine is_asked ?_; refine asked () (by show heldFree Try.prog _ _ = true; decide +kernel) ?_; intro u; clear u) | (refine is_split ?_; (first | ((refine sp_yes ?_ ?_; focus (simp; omega))) | ((refine sp_no ?_ ?_; focus (simp; omega))) | refine sp_yes (by rfl) ?_ | refine sp_no (by rfl) ?_ | (refine sp_no ?_ ?_; focus (first | (simp; done) | (simp; omega)))) <;> (intro u; clear u)) | (refine is_call ?_; (first | refine call_auto (hR) (lets_rfl rfl) (by exact trivial) rfl ?_ | refine call_auto (hB) (lets_rfl rfl) (by exact trivial) rfl ?_ | refine call_auto (hT) (lets_rfl rfl) (by exact trivial) rfl ?_ | refine call_auto (wakes22_con) (lets_rfl rfl) (by exact trivial) rfl ?_); intro u; clear u))
    all_goals (refine con_end ?_ rfl; intro u; clear u; refine ⟨rfl, rfl, EntGoal.mk ?_ ?_⟩ <;> (repeat' (first | exact trivial | (with_reducible rfl) | apply And.intro | rfl)))
  · skip
    refine con_of_call2 rfl ?_
    refine call_inline Try.func10 rfl rfl ?_
    intro _
    repeat' (first | (refine is_asked ?_; refine asked () (by show heldFree Try.prog _ _ = true; decide +kernel) ?_; intro u; clear u) | (refine is_split ?_; (first | ((refine sp_yes ?_ ?_; focus (simp; omega))) | ((refine sp_no ?_ ?_; focus (simp; omega))) | refine sp_yes (by rfl) ?_ | (refine sp_no ?_ ?_; focus (first | (simp; done) | (simp; omega)))) <;> (intro u; clear u)) | (refine is_call ?_; (first | refine call_auto (hR) (lets_rfl rfl) (by exact trivial) rfl ?_ | refine call_auto (hB) (lets_rfl rfl) (by exact trivial) rfl ?_ | refine call_auto (hT) (lets_rfl rfl) (by exact trivial) rfl ?_ | refine call_auto (wakes22_con) (lets_rfl rfl) (by exact trivial) rfl ?_); intro u; clear u))
    all_goals (refine con_end ?_ rfl; intro u; clear u; refine ⟨rfl, rfl, EntGoal.mk ?_ ?_⟩ <;> (repeat' (first | exact trivial | (with_reducible rfl) | apply And.intro | rfl)))
  · omega
  · skip
    refine con_of_call2 rfl ?_
    refine call_inline Try.func10 rfl rfl ?_
    intro _
    repeat' (first | (refine is_asked ?_; refine asked () (by show heldFree Try.prog _ _ = true; decide +kernel) ?_; intro u; clear u) | (refine is_split ?_; (first | ((refine sp_yes ?_ ?_; focus (simp; omega))) | ((refine sp_no ?_ ?_; focus (simp; omega))) | refine sp_yes (by rfl) ?_ | (refine sp_no ?_ ?_; focus (first | (simp; done) | (simp; omega)))) <;> (intro u; clear u)) | (refine is_call ?_; (first | refine call_auto (hR) (lets_rfl rfl) (by exact trivial) rfl ?_ | refine call_auto (hB) (lets_rfl rfl) (by exact trivial) rfl ?_ | refine call_auto (hT) (lets_rfl rfl) (by exact trivial) rfl ?_ | refine call_auto (wakes22_con) (lets_rfl rfl) (by exact trivial) rfl ?_); intro u; clear u))
    all_goals (refine con_end ?_ rfl; intro u; clear u; refine ⟨rfl, rfl, EntGoal.mk ?_ ?_⟩ <;> (repeat' (first | exact trivial | (with_reducible rfl) | apply And.intro | rfl)))
theorem refused_con (m : Mv) (to least now window : Int) (h0 : 0 ≤ m.ph) : CallCon Try.prog 10 [mvT m, .one (.v (.int .i64 to)), .one (.v (.int .i64 least)), .one (.v (.int .i64 now)), .one (.v (.int .i64 window))] [] (.t (.one (.v (.bool true)))) [] := by
  have hR := refmvright_con m h0
  by_cases c0 : okMv m
  · have hR := con_yes hR c0
    have hb2 := c0.2.1
    have hB := bg_con m to least h0
    have hT := re_con m now window h0
    obtain ⟨eC, eO, e2, e3, e4⟩ := bg_facts m to least c0
    obtain ⟨fC, fO, f2, f3, f4⟩ := re_facts m now window c0
    generalize bgM m to least = o at hB eO
    generalize bgE m to least = e at hB eC eO e2 e3 e4
    generalize reM m now window = r at hT fO
    generalize reE m now window = f at hT fC fO f2 f3 f4
    clear c0
    have hf : (f = 0 ∧ (0 ≤ now ∧ now ≤ 1099511627776 ∧ 0 ≤ window ∧ window ≤ 1099511627776 ∧ m.ph = 4 ∧ m.tick + window ≤ now)) ∨ (f = 2 ∧ r = m ∧ now < 0) ∨ (f = 2 ∧ r = m ∧ 1099511627776 < now) ∨ (f = 2 ∧ r = m ∧ (0 ≤ now ∧ now ≤ 1099511627776 ∧ window < 0)) ∨ (f = 2 ∧ r = m ∧ (0 ≤ now ∧ now ≤ 1099511627776 ∧ 1099511627776 < window)) ∨ (f = 222 ∧ r = m ∧ (0 ≤ now ∧ now ≤ 1099511627776 ∧ 0 ≤ window ∧ window ≤ 1099511627776 ∧ m.ph = 4 ∧ now < m.tick + window)) ∨ (f = 223 ∧ r = m ∧ (0 ≤ now ∧ now ≤ 1099511627776 ∧ 0 ≤ window ∧ window ≤ 1099511627776 ∧ m.ph ≠ 4)) := by
      rcases fC with rfl | rfl | rfl | rfl
      · exact .inl ⟨rfl, by omega⟩
      · have q := fO (by decide)
        by_cases q1 : now < 0
        · exact .inr (.inl ⟨rfl, q, q1⟩)
        by_cases q2 : 1099511627776 < now
        · exact .inr (.inr (.inl ⟨rfl, q, q2⟩))
        by_cases q3 : window < 0
        · exact .inr (.inr (.inr (.inl ⟨rfl, q, by omega⟩)))
        · exact .inr (.inr (.inr (.inr (.inl ⟨rfl, q, by omega⟩))))
      · exact .inr (.inr (.inr (.inr (.inr (.inl ⟨rfl, fO (by decide), by omega⟩)))))
      · exact .inr (.inr (.inr (.inr (.inr (.inr ⟨rfl, fO (by decide), by omega⟩)))))
    rcases eC with rfl | rfl | rfl | rfl | rfl
    · exact refused_e0 (o := o) hR hb2 hB hT (by omega) hf
    · have q := eO (by decide)
      subst q
      by_cases q1 : to < 0
      · exact refused_e2a (o := o) hR hb2 hB hT q1 hf
      by_cases q2 : 5 < to
      · exact refused_e2b (o := o) hR hb2 hB hT q2 hf
      · exact refused_e2c (o := o) hR hb2 hB hT (by omega) hf
    · have q := eO (by decide)
      subst q
      exact refused_e150 (o := o) hR hb2 hB hT (by omega) hf
    · have q := eO (by decide)
      subst q
      exact refused_e220 (o := o) hR hb2 hB hT (by omega) hf
    · have q := eO (by decide)
      subst q
      exact refused_e221 (o := o) hR hb2 hB hT (by omega) hf
  · have hR := con_no hR c0
    refine con_of_call2 rfl ?_
    refine call_inline Try.func10 rfl rfl ?_
    intro _
    repeat' (refine is_call ?_; (first | refine call_auto (hR) (lets_rfl rfl) (by exact trivial) rfl ?_ | refine call_auto (wakes22_con) (lets_rfl rfl) (by exact trivial) rfl ?_); intro u; clear u)
    all_goals (refine con_end ?_ rfl; intro u; clear u; refine ⟨rfl, rfl, EntGoal.mk ?_ ?_⟩ <;> (repeat' (first | exact trivial | (with_reducible rfl) | apply And.intro | rfl)))
end Go.Proofs.S19
