/- Contracts of functions of the program, or a row of the seat, proved out of them. No condition beyond those that stand in each statement. -/
import Derived.Test.YtiijiofhofkhkaaSeD
import Derived.KernelRfl
import Derived.Test.YtiijiofhofkhkaaProg
namespace Go.Proofs.S19
open Go Go.SE
set_option maxRecDepth 100000
set_option maxHeartbeats 4000000
attribute [local irreducible] specI
theorem mixed : Try.prog.follows .mixedOrders = true := by kernel_rfl

structure Ent where
  cur : Int
  prev : Int
  gen : Int
  tick : Int
  deriving DecidableEq
def zeroE : Ent := ⟨0, 0, 0, 0⟩
def noneE : Ent := ⟨-1, -1, 0, 0⟩
def entS (e : Ent) : List S := [.v (.int .i64 e.cur), .v (.int .i64 e.prev), .v (.int .i64 e.gen), .v (.int .i64 e.tick)]
def entT (e : Ent) : T := .agg (entS e)
/-- What an int is. -/
def isI (x : Int) : Prop := -9223372036854775808 ≤ x ∧ x ≤ 9223372036854775807
structure Ent.Wf (e : Ent) : Prop where
  cur : isI e.cur
  prev : isI e.prev
  gen : isI e.gen
  tick : isI e.tick
def okE (e : Ent) : Prop := (0 ≤ e.gen ∧ e.gen < 2147483648 ∧ 0 ≤ e.tick ∧ e.tick ≤ 1099511627776) ∧ ((e.cur = -1 ∧ e.prev = -1) ∨ ((0 ≤ e.cur ∧ e.cur < 6) ∧ (-1 ≤ e.prev ∧ e.prev < 6) ∧ e.prev ≠ e.cur))
instance (e : Ent) : Decidable (okE e) := by unfold okE; infer_instance

theorem none_con : CallCon Try.prog 95 [] [] (.t (entT noneE)) [] := by
  refine con_of_call2 rfl ?_
  refine call_inline Try.func95 rfl rfl ?_
  intro _
  repeat' fail
  (refine con_end ?_ rfl; intro u; clear u; refine ⟨rfl, rfl, EntGoal.mk ?_ ?_⟩ <;> (repeat' (first | exact trivial | (with_reducible rfl) | apply And.intro | rfl)))
theorem within_con (a b c : Int) : CallCon Try.prog 94 [.one (.v (.int .i64 a)), .one (.v (.int .i64 b)), .one (.v (.int .i64 c))] [] (.t (.one (.b (b ≤ a ∧ a < c)))) [] := by
  by_cases h : b ≤ a
  · rw [show decide (b ≤ a ∧ a < c) = decide (a < c) by rw [decide_eq_decide]; omega]
    refine con_of_call2 rfl ?_
    refine call_inline Try.func94 rfl rfl ?_
    intro _
    repeat' (refine is_split ?_; refine sp_yes (by exact dec_t (by omega)) ?_ <;> (intro u; clear u))
    (refine con_end ?_ rfl; intro u; clear u; refine ⟨rfl, rfl, EntGoal.mk ?_ ?_⟩ <;> (repeat' (first | exact trivial | (with_reducible rfl) | apply And.intro | rfl)))
  · rw [show decide (b ≤ a ∧ a < c) = false by rw [decide_eq_false_iff_not]; omega]
    refine con_of_call2 rfl ?_
    refine call_inline Try.func94 rfl rfl ?_
    intro _
    repeat' (refine is_split ?_; refine sp_no (by exact dec_f (by omega)) ?_ <;> (intro u; clear u))
    (refine con_end ?_ rfl; intro u; clear u; refine ⟨rfl, rfl, EntGoal.mk ?_ ?_⟩ <;> (repeat' (first | exact trivial | (with_reducible rfl) | apply And.intro | rfl)))
theorem ent_beq (a b : Ent) : (a.cur == b.cur && (a.prev == b.prev && (a.gen == b.gen && (a.tick == b.tick && true)))) = decide (a = b) := by
  obtain ⟨a1, a2, a3, a4⟩ := a
  obtain ⟨b1, b2, b3, b4⟩ := b
  rw [Bool.eq_iff_iff]
  simp
theorem right_con (e : Ent) : CallCon Try.prog 80 [entT e] [] (.t (.one (.b (okE e)))) [] := by
  by_cases h : okE e
  · rw [decide_eq_true h]
    unfold okE at h
    by_cases hc : e.cur = -1
    · have hp : e.prev = -1 := by omega
      refine con_of_call2 rfl ?_
      refine call_inline Try.func80 rfl rfl ?_
      intro _
      repeat' (first | (refine is_split ?_; (first | refine sp_yes (by exact dec_t (by omega)) ?_ | refine sp_no (by exact ndec_f (by omega)) ?_) <;> (intro u; clear u)) | (refine is_asked ?_; refine asked () (by show heldFree Try.prog _ _ = true; decide +kernel) ?_; intro u; clear u) | (refine is_draw ?_; refine draw_step mixed (by kernel_rfl) ?_; intro u; clear u) | (refine is_scope ?_; refine scope_step ?_; intro u; clear u) | (refine is_call ?_; (first | refine call_inline Try.func94 rfl rfl ?_ | refine call_auto (none_con) (lets_rfl rfl) (by exact trivial) rfl ?_); intro u; clear u))
      all_goals (refine con_end ?_ rfl; intro u; clear u; refine ⟨rfl, rfl, EntGoal.mk ?_ ?_⟩ <;> (repeat' (first | exact trivial | (with_reducible rfl) | apply And.intro | rfl)))
      show (e.cur == -1 && (e.prev == -1 && (e.gen == e.gen && (e.tick == e.tick && true)))) = true
      simp [hc, hp]
    · refine con_of_call2 rfl ?_
      refine call_inline Try.func80 rfl rfl ?_
      intro _
      repeat' (first | (refine is_split ?_; (first | refine sp_yes (by exact dec_t (by omega)) ?_ | refine sp_no (by (first | exact dec_f (by omega) | exact ndec_f (by omega))) ?_) <;> (intro u; clear u)) | (refine is_scope ?_; refine scope_step ?_; intro u; clear u) | (refine is_call ?_; (first | refine call_inline Try.func94 rfl rfl ?_ | refine call_auto (none_con) (lets_rfl rfl) (by exact trivial) rfl ?_); intro u; clear u))
      all_goals (refine con_end ?_ rfl; intro u; clear u; refine ⟨rfl, rfl, EntGoal.mk ?_ ?_⟩ <;> (repeat' (first | exact trivial | (with_reducible rfl) | apply And.intro | rfl)))
      all_goals (show (_ : Bool) = _; simp; omega)
  · rw [decide_eq_false h]
    unfold okE at h
    by_cases hc : e.cur = -1
    · by_cases hp : e.prev = -1
      · refine con_of_call2 rfl ?_
        refine call_inline Try.func80 rfl rfl ?_
        intro _
        repeat' (first | (refine is_split ?_; (first | refine sp_yes (by exact ndec_t (by omega)) ?_ | refine sp_dec (fun g => ?_) (fun g => ?_) | refine sp_ndec (fun g => ?_) (fun g => ?_)) <;> (intro u; clear u)) | (refine is_scope ?_; refine scope_step ?_; intro u; clear u) | (refine is_call ?_; refine call_inline Try.func94 rfl rfl ?_; intro u; clear u))
        all_goals (refine con_end ?_ rfl; intro u; clear u; refine ⟨rfl, rfl, EntGoal.mk ?_ ?_⟩ <;> (repeat' (first | exact trivial | (with_reducible rfl) | apply And.intro | rfl)))
      · refine con_of_call2 rfl ?_
        refine call_inline Try.func80 rfl rfl ?_
        intro _
        repeat' (first | (refine is_split ?_; (first | refine sp_yes (by exact dec_t (by omega)) ?_ | refine sp_no (by exact ndec_f (by omega)) ?_ | refine sp_dec (fun g => ?_) (fun g => ?_) | refine sp_ndec (fun g => ?_) (fun g => ?_)) <;> (intro u; clear u)) | (refine is_asked ?_; refine asked () (by show heldFree Try.prog _ _ = true; decide +kernel) ?_; intro u; clear u) | (refine is_draw ?_; refine draw_step mixed (by kernel_rfl) ?_; intro u; clear u) | (refine is_scope ?_; refine scope_step ?_; intro u; clear u) | (refine is_call ?_; (first | refine call_inline Try.func94 rfl rfl ?_ | refine call_auto (none_con) (lets_rfl rfl) (by exact trivial) rfl ?_); intro u; clear u))
        all_goals (refine con_end ?_ rfl; intro u; clear u; refine ⟨rfl, rfl, EntGoal.mk ?_ ?_⟩ <;> (repeat' (first | exact trivial | (with_reducible rfl) | apply And.intro | rfl)))
        show (e.cur == -1 && (e.prev == -1 && (e.gen == e.gen && (e.tick == e.tick && true)))) = false
        simp [hc, hp]
    · refine con_of_call2 rfl ?_
      refine call_inline Try.func80 rfl rfl ?_
      intro _
      repeat' (first | (refine is_split ?_; (first | refine sp_no (by exact dec_f (by omega)) ?_ | refine sp_dec (fun g => ?_) (fun g => ?_) | refine sp_ndec (fun g => ?_) (fun g => ?_)) <;> (intro u; clear u)) | (refine is_scope ?_; refine scope_step ?_; intro u; clear u) | (refine is_call ?_; (first | refine call_inline Try.func94 rfl rfl ?_ | refine call_auto (none_con) (lets_rfl rfl) (by exact trivial) rfl ?_); intro u; clear u))
      all_goals (refine con_end ?_ rfl; intro u; clear u; refine ⟨rfl, rfl, EntGoal.mk ?_ ?_⟩ <;> (repeat' (first | exact trivial | (with_reducible rfl) | apply And.intro | rfl)))
      all_goals (show (_ : Bool) = _; simp; omega)
theorem refright_con (e : Ent) : CallCon Try.prog 38 [entT e] [] (.t (.one (.b (okE e)))) [] := by
  by_cases h : okE e
  · rw [decide_eq_true h]
    unfold okE at h
    refine con_of_call2 rfl ?_
    refine call_inline Try.func38 rfl rfl ?_
    intro _
    repeat' (first | (refine is_split ?_; (first | refine sp_yes (by exact dec_t (by omega)) ?_ | refine sp_no (by exact dec_f (by omega)) ?_ | refine sp_dec (fun g => ?_) (fun g => ?_)) <;> (intro u; clear u)) | (refine is_call ?_; refine call_inline Try.func72 rfl rfl ?_; intro u; clear u))
    all_goals (refine con_end ?_ rfl; intro u; clear u; refine ⟨rfl, rfl, EntGoal.mk ?_ ?_⟩ <;> (repeat' (first | exact trivial | (with_reducible rfl) | apply And.intro | rfl)))
    all_goals (show (_ : Bool) = _; simp; omega)
  · rw [decide_eq_false h]
    unfold okE at h
    refine con_of_call2 rfl ?_
    refine call_inline Try.func38 rfl rfl ?_
    intro _
    repeat' (first | (refine is_split ?_; (first | refine sp_no (by exact dec_f (by omega)) ?_ | refine sp_dec (fun g => ?_) (fun g => ?_)) <;> (intro u; clear u)) | (refine is_call ?_; refine call_inline Try.func72 rfl rfl ?_; intro u; clear u))
    all_goals (refine con_end ?_ rfl; intro u; clear u; refine ⟨rfl, rfl, EntGoal.mk ?_ ?_⟩ <;> (repeat' (first | exact trivial | (with_reducible rfl) | apply And.intro | rfl)))
    all_goals (show (_ : Bool) = _; simp; omega)
