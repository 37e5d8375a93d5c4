/- Contracts of functions of the program, or a row of the seat, proved out of them. No condition beyond those that stand in each statement. -/
import Derived.Test.YtiijiofhofkhkaaS19g9A
import Derived.Tactics
import Derived.Tactics2
namespace Go.Proofs.S19
open Go Go.SE
set_option maxRecDepth 100000
set_option maxHeartbeats 4000000
attribute [local irreducible] specI

theorem mk89 : MakesFn Try.prog 89 90 94 := by
  refine ⟨fun ys w => ?_, fun w s p hs => ?_⟩
  · first | rfl | (simp [callFunc]; done)
  · go_enter Try.func89, Try.ntmps89
    go_wp2
    go_ret
    exact ⟨rfl, rfl⟩
def partsRes : X := .t (.one (.mp 7))
def partsPost : List Reg := [
  .box [.ptr 0 0] 1 68,
  .box [.ptr 0 2, .n .i64 1, .n .i64 0, .n .i64 0, .n .i64 5] 1 71,
  .box [.ptr 0 2, .n .i64 1, .n .i64 0, .n .i64 0, .n .i64 2] 1 71,
  .box [.ptr 0 2, .n .i64 1, .n .i64 0, .n .i64 0, .n .i64 5, .ptr 0 3, .n .i64 1, .n .i64 0, .n .i64 0, .n .i64 15, .ptr 0 4, .n .i64 4, .n .i64 0, .n .i64 0, .n .i64 2147483647] 5 71,
  .box [.sl 5 0 3] 1 94,
  .slot 7 none none,
  .slot 7 (some 1) (some (.fn 90 [(6, 0), (16, 0)])),
  .slot 7 (some 2) (some (.fn 90 [(6, 0), (18, 0)])),
  .slot 7 (some 3) (some (.fn 90 [(6, 0), (19, 0)])),
  .slot 7 (some 4) (some (.fn 90 [(6, 0), (21, 0)])),
  .slot 7 (some 5) (some (.fn 91 [(4, 0)])),
  .slot 7 (some 6) (some (.fn 92 [(4, 0), (2, 0)])),
  .slot 7 (some 7) none,
  .box [.ptr 0 5, .n .i64 1, .n .i64 1, .n .i64 0, .n .i64 5] 5 71,
  .box [.sl 15 0 1] 1 94,
  .box [.ptr 0 5, .n .i64 1, .n .i64 1, .n .i64 (-1), .n .i64 5] 5 71,
  .box [.sl 17 0 1] 1 94,
  .box [.v (.slice none 0 0)] 1 94,
  .box [.ptr 1 0, .n .i64 1, .n .i64 0, .n .i64 1, .n .i64 3] 5 71,
  .box [.sl 20 0 1] 1 94]

theorem parts_con : ConP Try.prog 74 partsRes partsPost := by
  refine conP_of_call (by decide +kernel) ?_
  refine call_inline Try.func74 rfl rfl ?_
  intro _
  repeat' (first | (refine is_dcall ?_; refine dcall_fn mk89 ?_; intro u; clear u) | (refine is_draw ?_; refine draw_step mixed (by kernel_rfl) ?_; intro u; clear u))
  all_goals (refine con_endP ?_; intro u; clear u; refine ⟨rfl, rfl, EntGoal.mk ?_ ?_⟩ <;> (repeat' (first | exact trivial | (with_reducible rfl) | apply And.intro | rfl)))
end Go.Proofs.S19
