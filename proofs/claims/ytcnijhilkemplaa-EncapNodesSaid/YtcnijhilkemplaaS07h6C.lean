/- Contracts of functions of the program, or a row of the seat, proved out of them. No condition beyond those that stand in each statement. -/
import Derived.Test.YtcnijhilkemplaaS07h6B
namespace Go.Proofs.S07.O6
open Go Go.SE
set_option maxRecDepth 100000
set_option maxHeartbeats 4000000
attribute [local irreducible] specI
attribute [local irreducible] okOpt

theorem take16 {b0 b1 b2 b3 b4 b5 b6 b7 b8 b9 b10 b11 b12 b13 b14 b15 : Int} (h0 : 0 ≤ b0 ∧ b0 ≤ 255) (h1 : 0 ≤ b1 ∧ b1 ≤ 255) (h2 : 0 ≤ b2 ∧ b2 ≤ 255) (h3 : 0 ≤ b3 ∧ b3 ≤ 255) (h4 : 0 ≤ b4 ∧ b4 ≤ 255) (h5 : 0 ≤ b5 ∧ b5 ≤ 255) (h6 : 0 ≤ b6 ∧ b6 ≤ 255) (h7 : 0 ≤ b7 ∧ b7 ≤ 255) (h8 : 0 ≤ b8 ∧ b8 ≤ 255) (h9 : 0 ≤ b9 ∧ b9 ≤ 255) (h10 : 0 ≤ b10 ∧ b10 ≤ 255) (h11 : 0 ≤ b11 ∧ b11 ≤ 255) (h12 : 0 ≤ b12 ∧ b12 ≤ 255) (h13 : 0 ≤ b13 ∧ b13 ≤ 255) (h14 : 0 ≤ b14 ∧ b14 ≤ 255) (h15 : 0 ≤ b15 ∧ b15 ≤ 255) :
    CallCon Try.prog 34 [.one (.sl 0 0 16)] [.row (ints .u8 [b0, b1, b2, b3, b4, b5, b6, b7, b8, b9, b10, b11, b12, b13, b14, b15]) 1 5 false] (.tup [optT (takeO [b0, b1, b2, b3, b4, b5, b6, b7, b8, b9, b10, b11, b12, b13, b14, b15]), .one (.v (.int .i64 (takeE [b0, b1, b2, b3, b4, b5, b6, b7, b8, b9, b10, b11, b12, b13, b14, b15])))]) [] := by
  refine con_of_call2 rfl ?_
  refine call_inline Try.func34 rfl rfl ?_
  intro _
  repeat' (first | (refine is_split ?_; (first | refine sp_yes (by rfl) ?_ | refine sp_no (by rfl) ?_ | refine sp_dec (fun g => ?_) (fun g => ?_) | refine Split.mk (fun g => ?_) (fun g => ?_)) <;> (intro u; clear u)) | (refine is_asked ?_; (first | (refine is_spec ?_; (first | (refine is_op (op := .shl) ?_; refine asked _ (sp_shlL 8 256 (by decide) (by rfl) (by decide) (by simp only [lo, hi]; omega) (by simp only [lo, hi]; omega)) ?_) | (with_reducible refine asked _ (sp_or_zero (by omega) (by simp only [lo, hi]; omega)) ?_) | (with_reducible refine asked _ (sp_or 8 (by omega) (by simp only [lo, hi]; omega) (by omega) (by omega) (by omega) (by simp only [lo, hi]; omega)) ?_))) | (refine is_wrap ?_; refine asked _ (wrap_lohi (by simp only [lo, hi]; omega) (by simp only [lo, hi]; omega)) ?_) | refine asked _ (slice_ask (by omega) (by omega) (by omega)) ?_ | refine asked () ⟨by omega, by omega⟩ ?_ | refine asked _ (append_ask rfl rfl (by decide) (by decide)) ?_ | refine asked _ rfl ?_); intro u; clear u) | (refine is_loop ?_; refine loop_step ?_; intro u; clear u) | (refine is_yield ?_; refine yield_step rfl rfl rfl rfl ?_; intro u; clear u) | (refine is_draw ?_; refine draw_step mixed (by kernel_rfl) ?_; intro u; clear u) | (refine is_range ?_; refine range_step rfl rfl ?_; intro u; clear u) | (refine is_scope ?_; refine scope_step ?_; intro u; clear u) | (refine is_call ?_; (first | refine call_inline Try.func43 rfl rfl ?_ | refine call_inline Try.func61 rfl rfl ?_ | refine call_auto (right_con (o := ⟨_, _, _, _, _, _⟩) ⟨by dsimp only; omega, by dsimp only; omega, by dsimp only; omega, by dsimp only; omega⟩) (lets_rfl rfl) (by exact trivial) rfl ?_); intro u; clear u))
  all_goals (simp only [takeO, takeE])
  all_goals (first | (rw [if_pos ⟨by assumption, by assumption, by first | (simp only [parseO, nodeS, num, Int.zero_mul, Int.zero_add, if_true, if_false, *]; done) | fail⟩, if_pos ⟨by assumption, by assumption, by first | (simp only [parseO, nodeS, num, Int.zero_mul, Int.zero_add, if_true, if_false, *]; done) | fail⟩]) | rw [if_neg (by simp [parseO, nodeS, num, *]), if_neg (by simp [parseO, nodeS, num, *])])
  all_goals (refine con_end ?_ rfl; intro u; clear u; refine ⟨rfl, rfl, EntGoal.mk ?_ ?_⟩ <;> (repeat' (first | exact trivial | (with_reducible rfl) | apply And.intro | rfl)))
  all_goals (simp [parseO, nodeS, num, *])
