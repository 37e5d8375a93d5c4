/- Contracts of functions of the program, or a row of the seat, proved out of them. No condition beyond those that stand in each statement. -/
import Derived.Test.YtddagjjnojlojaaS11gCy
namespace Go.Proofs.S11
open Go Go.SE
set_option maxRecDepth 100000
set_option maxHeartbeats 4000000
attribute [local irreducible] specI

theorem cltells_con {c : Cl} (h : c.tab.rows.length = 16) (s : Sh) {b : List Int} (hb : Bytes b) (i : Int) : CallCon Try.prog 8 [clT c, shT 0 s, .one (.sl 1 0 b.length), .one (.v (.int .i64 i))] [.row (rowsV s.rows) 5 48 false, .row (ints .u8 b) 1 5 false] (.t (.one (.v (.bool true)))) [] := by
  have g1 := clgreat_con s
  by_cases hg : 40 < s.rows.length ∨ 400 < b.length
  · refine con_of_call2 rfl ?_
    refine call_inline Try.func8 rfl rfl ?_
    intro _
    repeat' (first | (refine is_split ?_; (first | refine sp_yes (by exact dec_t (by omega)) ?_ | refine sp_dec (fun g => ?_) (fun g => ?_)) <;> (intro u; clear u)) | (refine is_call ?_; (first | refine call_auto (clwakes_con) (lets_rfl rfl) (by exact trivial) rfl ?_ | refine call_auto (g1) (lets_rfl rfl) (by exact ⟨⟨_, rfl, rfl, rfl⟩, trivial⟩) rfl ?_); intro u; clear u))
    all_goals (refine con_end ?_ rfl; intro u; clear u; refine ⟨rfl, rfl, EntGoal.mk ?_ ?_⟩ <;> (repeat' (first | exact trivial | (with_reducible rfl) | apply And.intro | rfl)))
  have g1 := con_no g1 (by omega)
  have a1 := cltake_con h s (by omega)
  have a2 := refcltake_con h s (by omega)
  have b1 := clbytes_con h hb (by omega)
  have b2 := refclbytes_con h hb (by omega)
  have c1 := clrow_con c i
  have c2 := refclrow_con c i
  have d1 := clright_con h
  have d2 := refclright_con h
  have e1 := has_con c
  have e2 := refhas_con c
  have q1 := eqCl_self (mrgK_rows (s := s) h)
  have q2 := eqCl_self (cbC_rows (b := b) h)
  have q3 := eqEnt_self (clRowE c i)
  have q4 : eqCl zeroCl zeroCl = true := eqCl_self rfl
  generalize ctC c s = X at *
  generalize cbC c b = Y at *
  generalize clRowE c i = Z at *
  generalize ctE c s = E1 at *
  generalize cbE c b = E2 at *
  generalize hasV c = E3 at *
  generalize decide (ctOk c s) = B1 at *
  generalize decide (cbB c b) = B2 at *
  generalize decide (clRowB c i) = B3 at *
  generalize decide (okCl c) = B4 at *
  simp only [eqCl, eqTab, eqRows, eqFrom, eqEnt] at q1 q2 q3
  refine con_of_call2 rfl ?_
  refine call_inline Try.func8 rfl rfl ?_
  intro _
  repeat' (first | (refine is_split ?_; (first | (with_reducible refine sp_yes q1 ?_) | (with_reducible refine sp_yes q2 ?_) | (with_reducible refine sp_yes q3 ?_) | (refine sp_yes (beq_self_eq_true B1) ?_) | (refine sp_yes (beq_self_eq_true B2) ?_) | (refine sp_yes (beq_self_eq_true B3) ?_) | (refine sp_yes (beq_self_eq_true B4) ?_) | refine sp_yes (by (first | rfl | exact dec_t (by omega))) ?_ | refine sp_no (by exact dec_f (by omega)) ?_) <;> (intro u; clear u)) | (refine is_asked ?_; refine asked () (by show heldFree Try.prog _ _ = true; decide +kernel) ?_; intro u; clear u) | (refine is_draw ?_; refine draw_step mixed (by kernel_rfl) ?_; intro u; clear u) | (refine is_call ?_; (first | refine call_auto (g1) (lets_rfl rfl) (by exact ⟨⟨_, rfl, rfl, rfl⟩, trivial⟩) rfl ?_ | refine call_auto (a1) (lets_rfl rfl) (by exact ⟨⟨_, rfl, rfl, rfl⟩, trivial⟩) rfl ?_ | refine call_auto (a2) (lets_rfl rfl) (by exact ⟨⟨_, rfl, rfl, rfl⟩, trivial⟩) rfl ?_ | refine call_auto (b1) (lets_rfl rfl) (by exact ⟨⟨_, rfl, rfl, rfl⟩, trivial⟩) rfl ?_ | refine call_auto (b2) (lets_rfl rfl) (by exact ⟨⟨_, rfl, rfl, rfl⟩, trivial⟩) rfl ?_ | refine call_auto (c1) (lets_rfl rfl) (by exact trivial) rfl ?_ | refine call_auto (c2) (lets_rfl rfl) (by exact trivial) rfl ?_); intro u; clear u) | (refine is_dcall ?_; (first | refine dcall_auto (clwakes_con) (lets_rfl rfl) (by exact trivial) rfl ?_ | refine dcall_auto (d1) (lets_rfl rfl) (by exact trivial) rfl ?_ | refine dcall_auto (d2) (lets_rfl rfl) (by exact trivial) rfl ?_ | refine dcall_auto (e1) (lets_rfl rfl) (by exact trivial) rfl ?_ | refine dcall_auto (e2) (lets_rfl rfl) (by exact trivial) rfl ?_ | refine dcall_auto (newcl_con) (lets_rfl rfl) (by exact trivial) rfl ?_ | refine dcall_auto (refnewcl_con) (lets_rfl rfl) (by exact trivial) rfl ?_); intro u; clear u))
  all_goals (refine con_end ?_ rfl; intro u; clear u; refine ⟨rfl, rfl, EntGoal.mk ?_ ?_⟩ <;> (repeat' (first | exact trivial | (with_reducible rfl) | apply And.intro | rfl)))
