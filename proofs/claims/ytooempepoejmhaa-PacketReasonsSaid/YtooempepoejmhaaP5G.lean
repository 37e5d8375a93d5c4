/- Contracts of functions of the program, or a row of the seat, proved out of them. No condition beyond those that stand in each statement. -/
import Derived.Test.YtooempepoejmhaaP5F
namespace Go.Proofs.P5
open Go Go.SE
set_option maxRecDepth 100000
set_option maxHeartbeats 4000000
attribute [local irreducible] specI

theorem reasons_con {l : List Int} (hb : ∀ x ∈ l, 0 ≤ x ∧ x ≤ 255) :
    CallCon Try.prog 5 [.one (.sl 0 0 l.length)] [.row (ints .u8 l) 1 5 false] (.t (.one (.v (.bool true)))) [] := by
  by_cases hl : l.length ≤ 3000
  rotate_left
  · refine con_of_call2 rfl ?_
    refine call_inline Try.func5 rfl rfl ?_
    intro _
    repeat' (first | (refine is_split ?_; refine sp_yes (by exact dec_t (by omega)) ?_ <;> (intro u; clear u)) | (refine is_call ?_; refine call_auto (wakes_con) (lets_rfl rfl) (by exact trivial) rfl ?_; intro u; clear u))
    all_goals (refine con_end ?_ rfl; intro u; clear u; refine ⟨rfl, rfl, EntGoal.mk ?_ ?_⟩ <;> (repeat' (first | exact trivial | (with_reducible rfl) | apply And.intro | rfl)))
  have hI := P2.refparse_con hb (by omega)
  have hw := P2.parse_wf hb (by omega)
  have hT := P3.refparse_con hw.src hw.dst hw.pay hw.plen
  have hP := parse_con hb (by omega)
  have hS := con_yes (P3.same_con hb (by omega) hb (by omega)) rfl
  have hz := refsame0_con
  have hle := tcp_le (P2.parseS l).src (P2.parseS l).dst (P2.parseS l).pay
  change P3.parseE _ _ _ = _ ∨ _ at hle
  rcases pk_cases l with ⟨c1, e1, e2⟩ | ⟨c1, c2, e1, e2⟩ | ⟨c1, c2, c3, e1, e2⟩ | ⟨c1, c2, c3, e1, e2⟩ <;> rw [e1, e2] at hP
  · generalize P2.parseE l = q at *
    generalize P2.parseS l = h at *
    refine con_of_call2 rfl ?_
    refine call_inline Try.func5 rfl rfl ?_
    intro _
    repeat' (first | (refine is_split ?_; (first | refine sp_yes (by (first | exact dec_t (by omega) | exact ndec_t (by omega))) ?_ | refine sp_no (by exact dec_f (by omega)) ?_) <;> (intro u; clear u)) | (refine is_call ?_; (first | refine call_auto (wakes_con) (lets_rfl rfl) (by exact trivial) rfl ?_ | refine call_auto (hI) (lets_rfl rfl) (by exact ⟨⟨_, rfl, rfl, rfl⟩, trivial⟩) rfl ?_ | refine call_auto (hP) (lets_rfl rfl) (by exact ⟨⟨_, rfl, rfl, rfl⟩, trivial⟩) rfl ?_ | refine call_le (by (repeat' (first | exact trivial | apply And.intro | exact rfl)); (first | done | fail)) (hz) (by exact ⟨⟨_, rfl, rfl, rfl⟩, trivial⟩) rfl ?_); intro u; clear u))
    all_goals (refine con_end ?_ rfl; intro u; clear u; refine ⟨rfl, rfl, EntGoal.mk ?_ ?_⟩ <;> (repeat' (first | exact trivial | (with_reducible rfl) | apply And.intro | rfl)))
  · rw [c1] at hI
    generalize P2.parseS l = h at *
    refine con_of_call2 rfl ?_
    refine call_inline Try.func5 rfl rfl ?_
    intro _
    repeat' (first | (refine is_split ?_; (first | refine sp_yes (by (first | rfl | exact ndec_t (by omega))) ?_ | refine sp_no (by (first | rfl | exact dec_f (by omega))) ?_) <;> (intro u; clear u)) | (refine is_call ?_; (first | refine call_auto (wakes_con) (lets_rfl rfl) (by exact trivial) rfl ?_ | refine call_auto (hI) (lets_rfl rfl) (by exact ⟨⟨_, rfl, rfl, rfl⟩, trivial⟩) rfl ?_ | refine call_auto (hP) (lets_rfl rfl) (by exact ⟨⟨_, rfl, rfl, rfl⟩, trivial⟩) rfl ?_ | refine call_le (by (repeat' (first | exact trivial | apply And.intro | exact rfl)); (first | done | fail)) (hz) (by exact ⟨⟨_, rfl, rfl, rfl⟩, trivial⟩) rfl ?_); intro u; clear u))
    all_goals (refine con_end ?_ rfl; intro u; clear u; refine ⟨rfl, rfl, EntGoal.mk ?_ ?_⟩ <;> (repeat' (first | exact trivial | (with_reducible rfl) | apply And.intro | rfl)))
  · rw [c1] at hI
    unfold tcpE at c3 hP
    generalize P2.parseS l = h at *
    generalize P3.parseE h.src h.dst h.pay = q at *
    refine con_of_call2 rfl ?_
    refine call_inline Try.func5 rfl rfl ?_
    intro _
    repeat' (first | (refine is_split ?_; (first | refine sp_yes (by (first | exact dec_t (by omega) | exact ndec_t (by omega))) ?_ | refine sp_no (by (first | rfl | exact dec_f (by omega) | exact ndec_f (by omega))) ?_) <;> (intro u; clear u)) | (refine is_call ?_; (first | refine call_auto (wakes_con) (lets_rfl rfl) (by exact trivial) rfl ?_ | refine call_auto (hI) (lets_rfl rfl) (by exact ⟨⟨_, rfl, rfl, rfl⟩, trivial⟩) rfl ?_ | refine call_auto (hP) (lets_rfl rfl) (by exact ⟨⟨_, rfl, rfl, rfl⟩, trivial⟩) rfl ?_ | refine call_le (by (repeat' (first | exact trivial | apply And.intro | exact rfl)); (first | done | fail)) (hz) (by exact ⟨⟨_, rfl, rfl, rfl⟩, trivial⟩) rfl ?_ | refine call_auto (hT) (lets_rfl rfl) (by exact ⟨⟨_, rfl, rfl, rfl⟩, trivial⟩) rfl ?_); intro u; clear u))
    all_goals (refine con_end ?_ rfl; intro u; clear u; refine ⟨rfl, rfl, EntGoal.mk ?_ ?_⟩ <;> (repeat' (first | exact trivial | (with_reducible rfl) | apply And.intro | rfl)))
  · rw [c1] at hI
    unfold tcpE at c3
    rw [c3] at hT
    unfold pkR tcpS at hP
    simp only [pkT] at hP
    generalize P2.parseS l = h at *
    generalize P3.parseS h.src h.dst h.pay = t at *
    refine con_of_call2 rfl ?_
    refine call_inline Try.func5 rfl rfl ?_
    intro _
    repeat' (first | (refine is_split ?_; (first | refine sp_yes (by (first | rfl | exact dec_t (by omega))) ?_ | refine sp_no (by (first | rfl | exact dec_f (by omega) | exact ndec_f (by omega))) ?_ | (refine sp_yes ?_ ?_; focus (simp only [beq_self_eq_true, Bool.and_self, Bool.and_true, Bool.true_and, Bool.not_false, Bool.not_true]; done))) <;> (intro u; clear u)) | (refine is_asked ?_; refine asked () (by show heldFree Try.prog _ _ = true; decide +kernel) ?_; intro u; clear u) | (refine is_call ?_; (first | refine call_auto (wakes_con) (lets_rfl rfl) (by exact trivial) rfl ?_ | refine call_auto (hI) (lets_rfl rfl) (by exact ⟨⟨_, rfl, rfl, rfl⟩, trivial⟩) rfl ?_ | refine call_auto (hP) (lets_rfl rfl) (by exact ⟨⟨_, rfl, rfl, rfl⟩, trivial⟩) rfl ?_ | refine call_auto (hT) (lets_rfl rfl) (by exact ⟨⟨_, rfl, rfl, rfl⟩, trivial⟩) rfl ?_ | refine call_auto (hS) (lets_rfl rfl) (by exact ⟨⟨_, rfl, rfl, rfl⟩, ⟨_, rfl, rfl, rfl⟩, trivial⟩) rfl ?_); intro u; clear u))
    all_goals (refine con_end ?_ rfl; intro u; clear u; refine ⟨rfl, rfl, EntGoal.mk ?_ ?_⟩ <;> (repeat' (first | exact trivial | (with_reducible rfl) | apply And.intro | rfl)))
