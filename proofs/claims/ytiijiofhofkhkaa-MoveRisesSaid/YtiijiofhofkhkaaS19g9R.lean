/- Contracts of functions of the program, or a row of the seat, proved out of them. No condition beyond those that stand in each statement. -/
import Derived.Test.YtiijiofhofkhkaaS19g9Q
namespace Go.Proofs.S19
open Go Go.SE
set_option maxRecDepth 100000
set_option maxHeartbeats 4000000
attribute [local irreducible] specI

theorem wakes22_con : CallCon Try.prog 29 [] [] (.t (.one (.v (.bool true)))) [] := by
  have h1 : CallCon Try.prog 30 [mvT ⟨1, 1, -1, 3, 0, 0⟩, .one (.v (.int .i64 2)), .one (.v (.int .i64 0))] [] (.tup [mvT ⟨2, 1, 2, 4, 0, 0⟩, .one (.v (.int .i64 0))]) [] := by
    have t := bg_con ⟨1, 1, -1, 3, 0, 0⟩ (2) (0) (by decide)
    rw [show bgM ⟨1, 1, -1, 3, 0, 0⟩ (2) (0) = ⟨2, 1, 2, 4, 0, 0⟩ by decide +kernel, show bgE ⟨1, 1, -1, 3, 0, 0⟩ (2) (0) = 0 by decide +kernel] at t
    exact t
  have h2 : CallCon Try.prog 36 [mvT ⟨2, 1, 2, 4, 0, 0⟩, .one (.v (.int .i64 5))] [] (.tup [ctlN ⟨1, 0, 1, 5, 4, 2, 0, zeroSh⟩, .one (.v (.bool true))]) [] := by
    have t := con_known2 (open_con ⟨2, 1, 2, 4, 0, 0⟩ 5 (by decide))
    rw [show opC ⟨2, 1, 2, 4, 0, 0⟩ 5 = ⟨1, 0, 1, 5, 4, 2, 0, zeroSh⟩ by decide +kernel, show decide (opOk ⟨2, 1, 2, 4, 0, 0⟩ 5) = true by decide +kernel] at t
    exact t
  have h3 : CallCon Try.prog 34 [mvT ⟨2, 1, 2, 4, 0, 0⟩, .one (.v (.int .i64 5))] [] (.t (ctlN ⟨4, 1, 1, 5, 4, 0, 0, zeroSh⟩)) [] := by
    have t := lack_con ⟨2, 1, 2, 4, 0, 0⟩ 5 (by decide)
    rw [show lackC ⟨2, 1, 2, 4, 0, 0⟩ 5 = ⟨4, 1, 1, 5, 4, 0, 0, zeroSh⟩ by decide +kernel] at t
    exact t
  have h4 : CallCon Try.prog 34 [mvT ⟨3, 1, 2, 4, 9, 0⟩, .one (.v (.int .i64 5))] [] (.t (ctlN ⟨4, 2, 2, 5, 4, 0, 0, zeroSh⟩)) [] := by
    have t := lack_con ⟨3, 1, 2, 4, 9, 0⟩ 5 (by decide)
    rw [show lackC ⟨3, 1, 2, 4, 9, 0⟩ 5 = ⟨4, 2, 2, 5, 4, 0, 0, zeroSh⟩ by decide +kernel] at t
    exact t
  have h5 : CallCon Try.prog 34 [mvT ⟨5, 1, 2, 4, 9, 0⟩, .one (.v (.int .i64 5))] [] (.t (ctlN ⟨4, 3, 1, 5, 4, 0, 0, zeroSh⟩)) [] := by
    have t := lack_con ⟨5, 1, 2, 4, 9, 0⟩ 5 (by decide)
    rw [show lackC ⟨5, 1, 2, 4, 9, 0⟩ 5 = ⟨4, 3, 1, 5, 4, 0, 0, zeroSh⟩ by decide +kernel] at t
    exact t
  have h6 : CallCon Try.prog 34 [mvT ⟨6, -1, 2, 5, 9, 0⟩, .one (.v (.int .i64 5))] [] (.t (ctlN ⟨4, 2, 2, 5, 5, 0, 0, zeroSh⟩)) [] := by
    have t := lack_con ⟨6, -1, 2, 5, 9, 0⟩ 5 (by decide)
    rw [show lackC ⟨6, -1, 2, 5, 9, 0⟩ 5 = ⟨4, 2, 2, 5, 5, 0, 0, zeroSh⟩ by decide +kernel] at t
    exact t
  have h7 : CallCon Try.prog 33 [mvT ⟨2, 1, 2, 4, 0, 0⟩, .one (.v (.int .i64 5)), ctlN ⟨4, 1, 1, 5, 4, 0, 0, zeroSh⟩, .one (.v (.int .i64 9))] [] (.tup [mvT ⟨3, 1, 2, 4, 9, 0⟩, .one (.v (.bool true))]) [] := by
    have t := con_known2 (mvackn_con ⟨2, 1, 2, 4, 0, 0⟩ 5 ⟨4, 1, 1, 5, 4, 0, 0, zeroSh⟩ 9 (by decide) rfl)
    rw [show mvAckM ⟨2, 1, 2, 4, 0, 0⟩ 5 ⟨4, 1, 1, 5, 4, 0, 0, zeroSh⟩ 9 = ⟨3, 1, 2, 4, 9, 0⟩ by decide +kernel, show decide (mvAckB ⟨2, 1, 2, 4, 0, 0⟩ 5 ⟨4, 1, 1, 5, 4, 0, 0, zeroSh⟩ 9) = true by decide +kernel] at t
    exact t
  have h8 : CallCon Try.prog 33 [mvT ⟨3, 1, 2, 4, 9, 0⟩, .one (.v (.int .i64 5)), ctlN ⟨4, 1, 1, 5, 4, 0, 0, zeroSh⟩, .one (.v (.int .i64 9))] [] (.tup [mvT ⟨3, 1, 2, 4, 9, 0⟩, .one (.v (.bool false))]) [] := by
    have t := con_known2 (mvackn_con ⟨3, 1, 2, 4, 9, 0⟩ 5 ⟨4, 1, 1, 5, 4, 0, 0, zeroSh⟩ 9 (by decide) rfl)
    rw [show mvAckM ⟨3, 1, 2, 4, 9, 0⟩ 5 ⟨4, 1, 1, 5, 4, 0, 0, zeroSh⟩ 9 = ⟨3, 1, 2, 4, 9, 0⟩ by decide +kernel, show decide (mvAckB ⟨3, 1, 2, 4, 9, 0⟩ 5 ⟨4, 1, 1, 5, 4, 0, 0, zeroSh⟩ 9) = false by decide +kernel] at t
    exact t
  have h9 : CallCon Try.prog 33 [mvT ⟨3, 1, 2, 4, 9, 0⟩, .one (.v (.int .i64 5)), ctlN ⟨4, 2, 2, 5, 4, 0, 0, zeroSh⟩, .one (.v (.int .i64 11))] [] (.tup [mvT ⟨4, 1, 2, 4, 9, 0⟩, .one (.v (.bool true))]) [] := by
    have t := con_known2 (mvackn_con ⟨3, 1, 2, 4, 9, 0⟩ 5 ⟨4, 2, 2, 5, 4, 0, 0, zeroSh⟩ 11 (by decide) rfl)
    rw [show mvAckM ⟨3, 1, 2, 4, 9, 0⟩ 5 ⟨4, 2, 2, 5, 4, 0, 0, zeroSh⟩ 11 = ⟨4, 1, 2, 4, 9, 0⟩ by decide +kernel, show decide (mvAckB ⟨3, 1, 2, 4, 9, 0⟩ 5 ⟨4, 2, 2, 5, 4, 0, 0, zeroSh⟩ 11) = true by decide +kernel] at t
    exact t
  have h10 : CallCon Try.prog 33 [mvT ⟨5, 1, 2, 4, 9, 0⟩, .one (.v (.int .i64 5)), ctlN ⟨4, 3, 1, 5, 4, 0, 0, zeroSh⟩, .one (.v (.int .i64 15))] [] (.tup [mvT ⟨6, -1, 2, 5, 9, 0⟩, .one (.v (.bool true))]) [] := by
    have t := con_known2 (mvackn_con ⟨5, 1, 2, 4, 9, 0⟩ 5 ⟨4, 3, 1, 5, 4, 0, 0, zeroSh⟩ 15 (by decide) rfl)
    rw [show mvAckM ⟨5, 1, 2, 4, 9, 0⟩ 5 ⟨4, 3, 1, 5, 4, 0, 0, zeroSh⟩ 15 = ⟨6, -1, 2, 5, 9, 0⟩ by decide +kernel, show decide (mvAckB ⟨5, 1, 2, 4, 9, 0⟩ 5 ⟨4, 3, 1, 5, 4, 0, 0, zeroSh⟩ 15) = true by decide +kernel] at t
    exact t
  have h11 : CallCon Try.prog 33 [mvT ⟨6, -1, 2, 5, 9, 0⟩, .one (.v (.int .i64 5)), ctlN ⟨4, 2, 2, 5, 5, 0, 0, zeroSh⟩, .one (.v (.int .i64 16))] [] (.tup [mvT ⟨1, 2, -1, 5, 9, 0⟩, .one (.v (.bool true))]) [] := by
    have t := con_known2 (mvackn_con ⟨6, -1, 2, 5, 9, 0⟩ 5 ⟨4, 2, 2, 5, 5, 0, 0, zeroSh⟩ 16 (by decide) rfl)
    rw [show mvAckM ⟨6, -1, 2, 5, 9, 0⟩ 5 ⟨4, 2, 2, 5, 5, 0, 0, zeroSh⟩ 16 = ⟨1, 2, -1, 5, 9, 0⟩ by decide +kernel, show decide (mvAckB ⟨6, -1, 2, 5, 9, 0⟩ 5 ⟨4, 2, 2, 5, 5, 0, 0, zeroSh⟩ 16) = true by decide +kernel] at t
    exact t
  have h12 : CallCon Try.prog 32 [mvT ⟨4, 1, 2, 4, 9, 0⟩, .one (.v (.int .i64 13)), .one (.v (.int .i64 5))] [] (.tup [mvT ⟨4, 1, 2, 4, 9, 0⟩, .one (.v (.int .i64 222))]) [] := by
    have t := re_con ⟨4, 1, 2, 4, 9, 0⟩ (13) (5) (by decide)
    rw [show reM ⟨4, 1, 2, 4, 9, 0⟩ (13) (5) = ⟨4, 1, 2, 4, 9, 0⟩ by decide +kernel, show reE ⟨4, 1, 2, 4, 9, 0⟩ (13) (5) = 222 by decide +kernel] at t
    exact t
  have h13 : CallCon Try.prog 32 [mvT ⟨4, 1, 2, 4, 9, 0⟩, .one (.v (.int .i64 14)), .one (.v (.int .i64 5))] [] (.tup [mvT ⟨5, 1, 2, 4, 9, 0⟩, .one (.v (.int .i64 0))]) [] := by
    have t := re_con ⟨4, 1, 2, 4, 9, 0⟩ (14) (5) (by decide)
    rw [show reM ⟨4, 1, 2, 4, 9, 0⟩ (14) (5) = ⟨5, 1, 2, 4, 9, 0⟩ by decide +kernel, show reE ⟨4, 1, 2, 4, 9, 0⟩ (14) (5) = 0 by decide +kernel] at t
    exact t
  have h14 : CallCon Try.prog 30 [mvT ⟨2, 1, 2, 4, 0, 0⟩, .one (.v (.int .i64 3)), .one (.v (.int .i64 0))] [] (.tup [mvT ⟨2, 1, 2, 4, 0, 0⟩, .one (.v (.int .i64 220))]) [] := by
    have t := bg_con ⟨2, 1, 2, 4, 0, 0⟩ (3) (0) (by decide)
    rw [show bgM ⟨2, 1, 2, 4, 0, 0⟩ (3) (0) = ⟨2, 1, 2, 4, 0, 0⟩ by decide +kernel, show bgE ⟨2, 1, 2, 4, 0, 0⟩ (3) (0) = 220 by decide +kernel] at t
    exact t
  have h15 : CallCon Try.prog 37 [mvT ⟨4, 1, 2, 4, 9, 0⟩] [] (.tup [entT ⟨2, 1, 4, 9⟩, .one (.v (.bool true))]) [] := by
    have t := con_known2 (mvrow_con ⟨4, 1, 2, 4, 9, 0⟩ (by decide))
    rw [show mvRowE ⟨4, 1, 2, 4, 9, 0⟩ = ⟨2, 1, 4, 9⟩ by decide +kernel, show decide (mvRowB ⟨4, 1, 2, 4, 9, 0⟩) = true by decide +kernel] at t
    exact t
  have h16 : CallCon Try.prog 37 [mvT ⟨3, 1, 2, 4, 9, 0⟩] [] (.tup [entT ⟨0, 0, 0, 0⟩, .one (.v (.bool false))]) [] := by
    have t := con_known2 (mvrow_con ⟨3, 1, 2, 4, 9, 0⟩ (by decide))
    rw [show mvRowE ⟨3, 1, 2, 4, 9, 0⟩ = ⟨0, 0, 0, 0⟩ by decide +kernel, show decide (mvRowB ⟨3, 1, 2, 4, 9, 0⟩) = false by decide +kernel] at t
    exact t
  have h17 : CallCon Try.prog 61 [mvT ⟨1, 1, -1, 3, 0, 0⟩, .one (.v (.int .i64 4))] [] (.t (mvT ⟨1, 1, -1, 3, 0, 4⟩)) [] := by
    have t := at_con ⟨1, 1, -1, 3, 0, 0⟩ 4 (by decide)
    rw [show atM ⟨1, 1, -1, 3, 0, 0⟩ 4 = ⟨1, 1, -1, 3, 0, 4⟩ by decide +kernel] at t
    exact t
  have h18 : CallCon Try.prog 30 [mvT ⟨1, 1, -1, 3, 0, 4⟩, .one (.v (.int .i64 2)), .one (.v (.int .i64 3))] [] (.tup [mvT ⟨1, 1, -1, 3, 0, 4⟩, .one (.v (.int .i64 221))]) [] := by
    have t := bg_con ⟨1, 1, -1, 3, 0, 4⟩ (2) (3) (by decide)
    rw [show bgM ⟨1, 1, -1, 3, 0, 4⟩ (2) (3) = ⟨1, 1, -1, 3, 0, 4⟩ by decide +kernel, show bgE ⟨1, 1, -1, 3, 0, 4⟩ (2) (3) = 221 by decide +kernel] at t
    exact t
  have h19 : CallCon Try.prog 31 [mvT ⟨4, 1, 2, 4, 9, 0⟩, .one (.v (.int .i64 0))] [] (.tup [mvT ⟨6, -1, 0, 5, 9, 0⟩, .one (.v (.int .i64 0))]) [] := by
    have t := se_con ⟨4, 1, 2, 4, 9, 0⟩ (0) (by decide)
    rw [show seM ⟨4, 1, 2, 4, 9, 0⟩ (0) = ⟨6, -1, 0, 5, 9, 0⟩ by decide +kernel, show seE ⟨4, 1, 2, 4, 9, 0⟩ (0) = 0 by decide +kernel] at t
    exact t
  have h20 : CallCon Try.prog 35 [mvT ⟨4, 1, 2, 4, 9, 0⟩, .one (.v (.int .i64 0))] [] (.tup [mvT ⟨2, 1, 0, 5, 9, 0⟩, .one (.v (.int .i64 0))]) [] := by
    have t := ag_con ⟨4, 1, 2, 4, 9, 0⟩ (0) (by decide)
    rw [show agM ⟨4, 1, 2, 4, 9, 0⟩ (0) = ⟨2, 1, 0, 5, 9, 0⟩ by decide +kernel, show agE ⟨4, 1, 2, 4, 9, 0⟩ (0) = 0 by decide +kernel] at t
    exact t
  have h21 : CallCon Try.prog 62 [mvT ⟨0, -1, -1, 0, 0, 0⟩] [] (.t (.one (.v (.bool true)))) [] := by
    have t := con_known (mvright_con ⟨0, -1, -1, 0, 0, 0⟩ (by decide))
    rw [show decide (okMv ⟨0, -1, -1, 0, 0, 0⟩) = true by decide +kernel] at t
    exact t
  have h22 : CallCon Try.prog 62 [mvT ⟨0, 0, 0, 0, 0, 0⟩] [] (.t (.one (.v (.bool false)))) [] := by
    have t := con_known (mvright_con ⟨0, 0, 0, 0, 0, 0⟩ (by decide))
    rw [show decide (okMv ⟨0, 0, 0, 0, 0, 0⟩) = false by decide +kernel] at t
    exact t
  refine con_of_call2 rfl ?_
  refine call_inline Try.func29 rfl rfl ?_
  intro _
  repeat' (first | (refine is_split ?_; refine sp_yes (by rfl) ?_ <;> (intro u; clear u)) | (refine is_asked ?_; refine asked () (by show heldFree Try.prog _ _ = true; decide +kernel) ?_; intro u; clear u) | (refine is_draw ?_; refine draw_step mixed (by kernel_rfl) ?_; intro u; clear u) | (refine is_call ?_; (first | refine call_auto (mvnew_con) (lets_rfl rfl) (by exact trivial) rfl ?_ | refine call_le (by (repeat' (first | exact trivial | apply And.intro | exact rfl)); (first | done | fail)) (h1) (by exact trivial) rfl ?_ | refine call_le (by (repeat' (first | exact trivial | apply And.intro | exact rfl)); (first | done | fail)) (h2) (by exact trivial) rfl ?_ | refine call_le (by (repeat' (first | exact trivial | apply And.intro | exact rfl)); (first | done | fail)) (h12) (by exact trivial) rfl ?_ | refine call_le (by (repeat' (first | exact trivial | apply And.intro | exact rfl)); (first | done | fail)) (h13) (by exact trivial) rfl ?_ | refine call_le (by (repeat' (first | exact trivial | apply And.intro | exact rfl)); (first | done | fail)) (h14) (by exact trivial) rfl ?_ | refine call_auto (h15) (lets_rfl rfl) (by exact trivial) rfl ?_ | refine call_auto (h16) (lets_rfl rfl) (by exact trivial) rfl ?_ | refine call_le (by (repeat' (first | exact trivial | apply And.intro | exact rfl)); (first | done | fail)) (h17) (by exact trivial) rfl ?_ | refine call_le (by (repeat' (first | exact trivial | apply And.intro | exact rfl)); (first | done | fail)) (h18) (by exact trivial) rfl ?_ | refine call_le (by (repeat' (first | exact trivial | apply And.intro | exact rfl)); (first | done | fail)) (h19) (by exact trivial) rfl ?_ | refine call_le (by (repeat' (first | exact trivial | apply And.intro | exact rfl)); (first | done | fail)) (h20) (by exact trivial) rfl ?_ | refine call_auto (h21) (lets_rfl rfl) (by exact trivial) rfl ?_ | refine call_le (by (repeat' (first | exact trivial | apply And.intro | exact rfl)); (first | done | fail)) (h22) (by exact trivial) rfl ?_ | refine call_inline Try.func60 rfl rfl ?_); intro u; clear u) | (refine is_dcall ?_; (first | refine dcall_le (by (repeat' (first | exact trivial | apply And.intro | exact rfl)); (first | done | fail)) (h3) (by exact trivial) rfl ?_ | refine dcall_le (by (repeat' (first | exact trivial | apply And.intro | exact rfl)); (first | done | fail)) (h4) (by exact trivial) rfl ?_ | refine dcall_le (by (repeat' (first | exact trivial | apply And.intro | exact rfl)); (first | done | fail)) (h5) (by exact trivial) rfl ?_ | refine dcall_le (by (repeat' (first | exact trivial | apply And.intro | exact rfl)); (first | done | fail)) (h6) (by exact trivial) rfl ?_ | refine dcall_le (by (repeat' (first | exact trivial | apply And.intro | exact rfl)); (first | done | fail)) (h7) (by exact trivial) rfl ?_ | refine dcall_le (by (repeat' (first | exact trivial | apply And.intro | exact rfl)); (first | done | fail)) (h8) (by exact trivial) rfl ?_ | refine dcall_le (by (repeat' (first | exact trivial | apply And.intro | exact rfl)); (first | done | fail)) (h9) (by exact trivial) rfl ?_ | refine dcall_le (by (repeat' (first | exact trivial | apply And.intro | exact rfl)); (first | done | fail)) (h10) (by exact trivial) rfl ?_ | refine dcall_le (by (repeat' (first | exact trivial | apply And.intro | exact rfl)); (first | done | fail)) (h11) (by exact trivial) rfl ?_); intro u; clear u))
  all_goals (first | ((refine con_end ?_ rfl; intro u; clear u; refine ⟨rfl, rfl, EntGoal.mk ?_ ?_⟩ <;> (repeat' (first | exact trivial | (with_reducible rfl) | apply And.intro | rfl))); done))
end Go.Proofs.S19
