/- Contracts of functions of the program, or a row of the seat, proved out of them. No condition beyond those that stand in each statement. -/
import Derived.Test.YtooempepoejmhaaP3D
namespace Go.Proofs.P3
open Go Go.SE
set_option maxRecDepth 100000
set_option maxHeartbeats 4000000
attribute [local irreducible] specI

def twoL (n : Int) : List Int := [n / 256 % 256, n % 256]
def pseudoL (a b n : Int) : List Int := [a / 65536 / 256 % 256, a / 65536 % 256, a / 256 % 256, a % 256, b / 65536 / 256 % 256, b / 65536 % 256, b / 256 % 256, b % 256, 0, 6, n / 256 % 256, n % 256]

theorem reftwo_con {n : Int} : CallCon Try.prog 65 [.one (.v (.int .i64 n))] [] (.t (.one (.sl 0 0 2))) [.row (ints .u8 (twoL n)) 1 5 true] := by
  refine con_of_call2 rfl ?_
  refine call_inline Try.func65 rfl rfl ?_
  intro _
  repeat' (refine is_asked ?_; (first | (refine is_spec ?_; (refine is_op (op := .shr) ?_; refine asked _ (sp_shrL 8 256 (by decide) (by rfl) (by decide)) ?_)) | (refine is_wrap ?_; refine asked _ (wrap_u8' _) ?_)); intro u; clear u)
  all_goals (refine con_end ?_ rfl; intro u; clear u; refine ⟨rfl, rfl, EntGoal.mk ?_ ?_⟩ <;> (repeat' (first | exact trivial | (with_reducible rfl) | apply And.intro | rfl)))
theorem refpseudo_con {a b n : Int} (ha : 0 ≤ a ∧ a ≤ 4294967295) (hb : 0 ≤ b ∧ b ≤ 4294967295) (hn : -9223372036854775808 ≤ n ∧ n ≤ 9223372036854775807) : CallCon Try.prog 53 [.one (.v (.int .u32 a)), .one (.v (.int .u32 b)), .one (.v (.int .i64 n))] [] (.t (.one (.sl 0 0 12))) [.row (ints .u8 (pseudoL a b n)) 1 5 true] := by
  refine con_of_call2 rfl ?_
  refine call_inline Try.func53 rfl rfl ?_
  intro _
  repeat' (first | (refine is_asked ?_; (first | (refine is_spec ?_; (refine is_op (op := .shr) ?_; refine asked _ (sp_shrL 16 65536 (by decide) (by rfl) (by decide)) ?_)) | (refine is_wrap ?_; refine asked _ (wrap_lohi (by simp only [lo, hi]; omega) (by simp only [lo, hi]; omega)) ?_) | refine asked _ (append_ask rfl rfl (by decide) (by decide)) ?_); intro u; clear u) | (refine is_call ?_; refine call_auto (reftwo_con) (lets_rfl rfl) (by exact trivial) rfl ?_; intro u; clear u))
  all_goals (refine con_end ?_ rfl; intro u; clear u; refine ⟨rfl, rfl, EntGoal.mk ?_ ?_⟩ <;> (repeat' (first | exact trivial | (with_reducible rfl) | apply And.intro | rfl)))
