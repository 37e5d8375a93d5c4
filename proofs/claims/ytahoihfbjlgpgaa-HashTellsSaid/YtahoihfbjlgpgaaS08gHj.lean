/- Contracts of functions of the program, or a row of the seat, proved out of them. No condition beyond those that stand in each statement. -/
import Derived.Test.YtahoihfbjlgpgaaS08gHh
namespace Go.Proofs.S08
open Go Go.SE
set_option maxRecDepth 100000
set_option maxHeartbeats 4000000
attribute [local irreducible] specI

theorem htells_con {c s : Int} (hc : byte c) (hs : byte s) {b : List Int} (hb : Bytes b) {t u : Tu} (ht : t.Wf) (hu : u.Wf) {l : List Tu} (hw : ∀ x ∈ l, x.Wf) : CallCon Try.prog 6 [.one (.v (.int .u8 c)), .one (.v (.int .u8 s)), .one (.sl 0 0 b.length), tuT t, tuT u, .one (.sl 1 0 l.length)] [.row (ints .u8 b) 1 5 false, .row (tusV l) 4 31 false] (.t (.one (.v (.bool true)))) [] := by
  by_cases g : b.length ≤ 100 ∧ l.length ≤ 40
  rotate_left
  · refine con_of_call2 rfl ?_
    refine call_inline Try.func6 rfl rfl ?_
    intro _
    repeat' (first | (refine is_split ?_; (first | refine sp_yes (by exact dec_t (by omega)) ?_ | refine sp_dec (fun g => ?_) (fun g => ?_)) <;> (intro u; clear u)) | (refine is_call ?_; refine call_auto (wakes_con) (lets_rfl rfl) (by exact trivial) rfl ?_; intro u; clear u))
    all_goals first | ((refine con_end ?_ rfl; intro u; clear u; refine ⟨rfl, rfl, EntGoal.mk ?_ ?_⟩ <;> (repeat' (first | exact trivial | (with_reducible rfl) | apply And.intro | rfl))); done) | (exfalso; omega)
  by_cases h0 : l.length = 0
  · obtain rfl : l = [] := List.length_eq_zero_iff.1 h0
    exact tells0_con hc hs hb g.1 ht hu
  · exact tells1_con hc hs hb g.1 ht hu hw (by omega) g.2
end Go.Proofs.S08
