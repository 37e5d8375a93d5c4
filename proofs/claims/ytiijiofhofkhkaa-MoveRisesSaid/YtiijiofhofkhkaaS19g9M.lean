/- Contracts of functions of the program, or a row of the seat, proved out of them. No condition beyond those that stand in each statement. -/
import Derived.Test.YtiijiofhofkhkaaS19g9D
namespace Go.Proofs.S19
open Go Go.SE
set_option maxRecDepth 100000
set_option maxHeartbeats 4000000
attribute [local irreducible] specI

structure Mv where
  ph : Int
  cur : Int
  to : Int
  gen : Int
  tick : Int
  ver : Int
  deriving DecidableEq
def mvS (m : Mv) : List S := [.v (.int .u8 m.ph), .v (.int .i64 m.cur), .v (.int .i64 m.to), .v (.int .i64 m.gen), .v (.int .i64 m.tick), .v (.int .i64 m.ver)]
def mvT (m : Mv) : T := .agg (mvS m)
def nodeP (n : Int) : Prop := 0 ≤ n ∧ n ≤ 5
def okMv (m : Mv) : Prop := (0 ≤ m.gen ∧ m.gen ≤ 2147483647) ∧ (0 ≤ m.tick ∧ m.tick ≤ 1099511627776) ∧ (0 ≤ m.ver ∧ m.ver ≤ 1099511627776) ∧
  ((m.ph = 0 ∧ m.cur = -1 ∧ m.to = -1) ∨ (1 ≤ m.gen ∧ ((m.ph = 1 ∧ (0 ≤ m.cur ∧ m.cur ≤ 5) ∧ m.to = -1) ∨ (m.ph = 6 ∧ m.cur = -1 ∧ (0 ≤ m.to ∧ m.to ≤ 5)) ∨ ((2 ≤ m.ph ∧ m.ph ≤ 5) ∧ (0 ≤ m.cur ∧ m.cur ≤ 5) ∧ (0 ≤ m.to ∧ m.to ≤ 5) ∧ m.cur ≠ m.to))))
instance (m : Mv) : Decidable (okMv m) := by unfold okMv; infer_instance

theorem end_iff {p q : Prop} [Decidable p] [Decidable q] {m : M} (hp : p ↔ q) (h : ConEnd2 (.t (.one (.b (decide q)))) [] (.t (.one (.b (decide q)))) m) : ConEnd2 (.t (.one (.b (decide p)))) [] (.t (.one (.b (decide q)))) m := by
  rw [show decide p = decide q from decide_eq_decide.2 hp]; exact h
theorem end_niff {p q : Prop} [Decidable p] [Decidable q] {m : M} (hp : p ↔ ¬ q) (h : ConEnd2 (.t (.one (.b (!decide q)))) [] (.t (.one (.b (!decide q)))) m) : ConEnd2 (.t (.one (.b (decide p)))) [] (.t (.one (.b (!decide q)))) m := by
  rw [show decide p = !decide q by rw [← decide_not]; exact decide_eq_decide.2 hp]; exact h
theorem node_con (n : Int) : CallCon Try.prog 64 [.one (.v (.int .i64 n))] [] (.t (.one (.b (0 ≤ n ∧ n ≤ 5)))) [] := by
  refine con_of_call2 rfl ?_
  refine call_inline Try.func64 rfl rfl ?_
  intro _
  repeat' (first | (refine is_split ?_; refine sp_dec (fun g => ?_) (fun g => ?_) <;> (intro u; clear u)) | (refine is_call ?_; refine call_inline Try.func65 rfl rfl ?_; intro u; clear u))
  all_goals (first | (refine end_no ?_ ?_; (focus (omega)); (refine con_end ?_ rfl; intro u; clear u; refine ⟨rfl, rfl, EntGoal.mk ?_ ?_⟩ <;> (repeat' (first | exact trivial | (with_reducible rfl) | apply And.intro | rfl))); done) | (refine end_yes ?_ ?_; (focus (omega)); (refine con_end ?_ rfl; intro u; clear u; refine ⟨rfl, rfl, EntGoal.mk ?_ ?_⟩ <;> (repeat' (first | exact trivial | (with_reducible rfl) | apply And.intro | rfl))); done) | (refine end_iff ?_ ?_; (focus (omega)); (refine con_end ?_ rfl; intro u; clear u; refine ⟨rfl, rfl, EntGoal.mk ?_ ?_⟩ <;> (repeat' (first | exact trivial | (with_reducible rfl) | apply And.intro | rfl))); done) | (refine end_niff ?_ ?_; (focus (omega)); (refine con_end ?_ rfl; intro u; clear u; refine ⟨rfl, rfl, EntGoal.mk ?_ ?_⟩ <;> (repeat' (first | exact trivial | (with_reducible rfl) | apply And.intro | rfl))); done))
theorem mvright_con (m : Mv) (h0 : 0 ≤ m.ph) : CallCon Try.prog 62 [mvT m] [] (.t (.one (.b (okMv m)))) [] := by
  have h1 := node_con m.cur
  have h2 := node_con m.to
  refine con_of_call2 rfl ?_
  refine call_inline Try.func62 rfl rfl ?_
  intro _
  repeat' (first | (refine is_split ?_; (first | refine sp_yes (by (first | exact dec_t (by omega) | exact ndec_t (by omega))) ?_ | refine sp_no (by (first | exact dec_f (by omega) | exact ndec_f (by omega))) ?_ | refine sp_dec (fun g => ?_) (fun g => ?_) | refine sp_ndec (fun g => ?_) (fun g => ?_)) <;> (intro u; clear u)) | (refine is_draw ?_; refine draw_step mixed (by kernel_rfl) ?_; intro u; clear u) | (refine is_scope ?_; refine scope_step ?_; intro u; clear u) | (refine is_call ?_; refine call_inline Try.func65 rfl rfl ?_; intro u; clear u) | (refine is_dcall ?_; (first | refine dcall_auto (h1) (lets_rfl rfl) (by exact trivial) rfl ?_ | refine dcall_auto (h2) (lets_rfl rfl) (by exact trivial) rfl ?_); intro u; clear u))
  all_goals (first | (refine end_no ?_ ?_; (focus (unfold okMv; omega)); (refine con_end ?_ rfl; intro u; clear u; refine ⟨rfl, rfl, EntGoal.mk ?_ ?_⟩ <;> (repeat' (first | exact trivial | (with_reducible rfl) | apply And.intro | rfl))); done) | (refine end_yes ?_ ?_; (focus (unfold okMv; omega)); (refine con_end ?_ rfl; intro u; clear u; refine ⟨rfl, rfl, EntGoal.mk ?_ ?_⟩ <;> (repeat' (first | exact trivial | (with_reducible rfl) | apply And.intro | rfl))); done) | (refine end_iff ?_ ?_; (focus (unfold okMv; omega)); (refine con_end ?_ rfl; intro u; clear u; refine ⟨rfl, rfl, EntGoal.mk ?_ ?_⟩ <;> (repeat' (first | exact trivial | (with_reducible rfl) | apply And.intro | rfl))); done) | (refine end_niff ?_ ?_; (focus (unfold okMv; omega)); (refine con_end ?_ rfl; intro u; clear u; refine ⟨rfl, rfl, EntGoal.mk ?_ ?_⟩ <;> (repeat' (first | exact trivial | (with_reducible rfl) | apply And.intro | rfl))); done))
end Go.Proofs.S19
