/- Contracts of functions of the program, or a row of the seat, proved out of them. No condition beyond those that stand in each statement. -/
import Derived.Test.YtooempepoejmhaaP5E
namespace Go.Proofs.P5
open Go Go.SE
set_option maxRecDepth 100000
set_option maxHeartbeats 4000000
attribute [local irreducible] specI

theorem flags_con {p q : Pk} (hp : p.Wf) (hq : q.Wf) :
    CallCon Try.prog 6 [pkT p 0, pkT q 1] [.row (ints .u8 p.bytes) 1 5 false, .row (ints .u8 q.bytes) 1 5 false] (.t (.one (.v (.bool true)))) [] := by
  have hf := hp.flags
  by_cases h : p.bytes.length ≤ 3000 ∧ q.bytes.length ≤ 3000
  rotate_left
  · refine con_of_call2 rfl ?_
    refine call_inline Try.func6 rfl rfl ?_
    intro _
    repeat' (first | (refine is_split ?_; (first | refine sp_yes (by exact dec_t (by omega)) ?_ | refine sp_dec (fun g => ?_) (fun g => ?_)) <;> (intro u; clear u)) | (refine is_call ?_; refine call_auto (wakes_con) (lets_rfl rfl) (by exact trivial) rfl ?_; intro u; clear u))
    all_goals (refine con_end ?_ rfl; intro u; clear u; refine ⟨rfl, rfl, EntGoal.mk ?_ ?_⟩ <;> (repeat' (first | exact trivial | (with_reducible rfl) | apply And.intro | rfl)))
  obtain ⟨g1, g2⟩ := h
  have ho : Pk.Wf ⟨q.src, q.dst, q.sport, q.dport, p.flags, q.bytes⟩ := ⟨hf, hq.bytes⟩
  have s1 := syn_con hp
  have s2 := syn_con ho
  have c1 := closes_con hp
  have c2 := closes_con ho
  rw [show decide (synP ⟨q.src, q.dst, q.sport, q.dport, p.flags, q.bytes⟩) = decide (synP p) from rfl] at s2
  rw [show decide (closesP ⟨q.src, q.dst, q.sport, q.dport, p.flags, q.bytes⟩) = decide (closesP p) from rfl] at c2
  simp only [pkT] at s2 c2
  have hc : (p.flags % 8 = 0 ∧ ¬ synP p ∧ ¬ closesP p) ∨ (p.flags % 8 = 2 ∧ synP p ∧ ¬ closesP p) ∨ (p.flags % 8 ≠ 0 ∧ p.flags % 8 ≠ 2 ∧ ¬ synP p ∧ closesP p) := by
    unfold synP closesP; omega
  rcases hc with ⟨e, k1, k2⟩ | ⟨e, k1, k2⟩ | ⟨e, e', k1, k2⟩
  · rw [decide_eq_false k1] at s1 s2
    rw [decide_eq_false k2] at c1 c2
    refine con_of_call2 rfl ?_
    refine call_inline Try.func6 rfl rfl ?_
    intro _
    repeat' (first | (refine is_split ?_; (first | refine sp_yes (by (first | rfl | exact dec_t (by omega) | exact ndec_t (by omega))) ?_ | refine sp_no (by (first | rfl | exact dec_f (by omega) | exact ndec_f (by omega))) ?_) <;> (intro u; clear u)) | (refine is_asked ?_; (refine is_spec ?_; (refine asked _ (and7 hf) ?_)); intro u; clear u) | (refine is_draw ?_; refine draw_step mixed (by kernel_rfl) ?_; intro u; clear u) | (refine is_call ?_; (first | refine call_auto (wakes_con) (lets_rfl rfl) (by exact trivial) rfl ?_ | refine call_auto (s1) (lets_rfl rfl) (by exact ⟨⟨_, rfl, rfl, rfl⟩, trivial⟩) rfl ?_ | refine call_auto (c1) (lets_rfl rfl) (by exact ⟨⟨_, rfl, rfl, rfl⟩, trivial⟩) rfl ?_); intro u; clear u) | (refine is_dcall ?_; (first | refine dcall_auto (s1) (lets_rfl rfl) (by exact ⟨⟨_, rfl, rfl, rfl⟩, trivial⟩) rfl ?_ | refine dcall_auto (s2) (lets_rfl rfl) (by exact ⟨⟨_, rfl, rfl, rfl⟩, trivial⟩) rfl ?_ | refine dcall_auto (c1) (lets_rfl rfl) (by exact ⟨⟨_, rfl, rfl, rfl⟩, trivial⟩) rfl ?_ | refine dcall_auto (c2) (lets_rfl rfl) (by exact ⟨⟨_, rfl, rfl, rfl⟩, trivial⟩) rfl ?_); intro u; clear u))
    all_goals (refine con_end ?_ rfl; intro u; clear u; refine ⟨rfl, rfl, EntGoal.mk ?_ ?_⟩ <;> (repeat' (first | exact trivial | (with_reducible rfl) | apply And.intro | rfl)))
  · rw [decide_eq_true k1] at s1 s2
    rw [decide_eq_false k2] at c1 c2
    refine con_of_call2 rfl ?_
    refine call_inline Try.func6 rfl rfl ?_
    intro _
    repeat' (first | (refine is_split ?_; (first | refine sp_yes (by (first | rfl | exact dec_t (by omega) | exact ndec_t (by omega))) ?_ | refine sp_no (by (first | rfl | exact dec_f (by omega) | exact ndec_f (by omega))) ?_) <;> (intro u; clear u)) | (refine is_asked ?_; (refine is_spec ?_; (refine asked _ (and7 hf) ?_)); intro u; clear u) | (refine is_draw ?_; refine draw_step mixed (by kernel_rfl) ?_; intro u; clear u) | (refine is_call ?_; (first | refine call_auto (wakes_con) (lets_rfl rfl) (by exact trivial) rfl ?_ | refine call_auto (s1) (lets_rfl rfl) (by exact ⟨⟨_, rfl, rfl, rfl⟩, trivial⟩) rfl ?_); intro u; clear u) | (refine is_dcall ?_; (first | refine dcall_auto (s1) (lets_rfl rfl) (by exact ⟨⟨_, rfl, rfl, rfl⟩, trivial⟩) rfl ?_ | refine dcall_auto (s2) (lets_rfl rfl) (by exact ⟨⟨_, rfl, rfl, rfl⟩, trivial⟩) rfl ?_ | refine dcall_auto (c1) (lets_rfl rfl) (by exact ⟨⟨_, rfl, rfl, rfl⟩, trivial⟩) rfl ?_ | refine dcall_auto (c2) (lets_rfl rfl) (by exact ⟨⟨_, rfl, rfl, rfl⟩, trivial⟩) rfl ?_); intro u; clear u))
    all_goals (refine con_end ?_ rfl; intro u; clear u; refine ⟨rfl, rfl, EntGoal.mk ?_ ?_⟩ <;> (repeat' (first | exact trivial | (with_reducible rfl) | apply And.intro | rfl)))
  · rw [decide_eq_false k1] at s1 s2
    rw [decide_eq_true k2] at c1 c2
    refine con_of_call2 rfl ?_
    refine call_inline Try.func6 rfl rfl ?_
    intro _
    repeat' (first | (refine is_split ?_; (first | refine sp_yes (by (first | rfl | exact ndec_t (by omega))) ?_ | refine sp_no (by (first | rfl | exact dec_f (by omega))) ?_) <;> (intro u; clear u)) | (refine is_asked ?_; (refine is_spec ?_; (refine asked _ (and7 hf) ?_)); intro u; clear u) | (refine is_draw ?_; refine draw_step mixed (by kernel_rfl) ?_; intro u; clear u) | (refine is_call ?_; (first | refine call_auto (wakes_con) (lets_rfl rfl) (by exact trivial) rfl ?_ | refine call_auto (c1) (lets_rfl rfl) (by exact ⟨⟨_, rfl, rfl, rfl⟩, trivial⟩) rfl ?_); intro u; clear u) | (refine is_dcall ?_; (first | refine dcall_auto (s1) (lets_rfl rfl) (by exact ⟨⟨_, rfl, rfl, rfl⟩, trivial⟩) rfl ?_ | refine dcall_auto (s2) (lets_rfl rfl) (by exact ⟨⟨_, rfl, rfl, rfl⟩, trivial⟩) rfl ?_ | refine dcall_auto (c1) (lets_rfl rfl) (by exact ⟨⟨_, rfl, rfl, rfl⟩, trivial⟩) rfl ?_ | refine dcall_auto (c2) (lets_rfl rfl) (by exact ⟨⟨_, rfl, rfl, rfl⟩, trivial⟩) rfl ?_); intro u; clear u))
    all_goals (refine con_end ?_ rfl; intro u; clear u; refine ⟨rfl, rfl, EntGoal.mk ?_ ?_⟩ <;> (repeat' (first | exact trivial | (with_reducible rfl) | apply And.intro | rfl)))
