/- Contracts of functions of the program, or a row of the seat, proved out of them. No condition beyond those that stand in each statement. -/
import Derived.Test.YtooempepoejmhaaP3E
namespace Go.Proofs.P3
open Go Go.SE
set_option maxRecDepth 100000
set_option maxHeartbeats 4000000
attribute [local irreducible] specI

theorem number_con {l : List Int} (hb : ∀ x ∈ l, 0 ≤ x ∧ x ≤ 255) (hl : 2 ≤ l.length ∧ l.length ≤ 1000000) : CallCon Try.prog 43 [.one (.sl 0 0 l.length)] [.row (ints .u8 l) 1 5 false] (.t (.one (.v (.int .u16 (l.getD 0 0 * 256 + l.getD 1 0))))) [] := by
  have hx := getD_bd hb (by decide) 0
  have hy := getD_bd hb (by decide) 1
  refine con_of_call2 rfl ?_
  refine call_inline Try.func43 rfl rfl ?_
  intro _
  repeat' (first | (refine is_asked ?_; (first | (refine is_spec ?_; (first | (refine is_op (op := .shl) ?_; refine asked _ (sp_shlL 8 256 (by decide) (by rfl) (by decide) (by simp only [lo, hi]; omega) (by simp only [lo, hi]; omega)) ?_) | (with_reducible refine asked _ (sp_or 8 (by omega) (by simp only [lo, hi]; omega) (by omega) (by omega) (by omega) (by simp only [lo, hi]; omega)) ?_))) | (refine is_wrap ?_; refine asked _ (wrap_lohi (by simp only [lo, hi]; omega) (by simp only [lo, hi]; omega)) ?_) | (refine asked _ (ix_eq 0 (by omega) (by omega)) ?_) | (refine asked _ (ix_eq 1 (by omega) (by omega)) ?_) | refine asked () (by constructor <;> omega) ?_); intro u; clear u) | (refine is_draw ?_; refine draw_step mixed (by kernel_rfl) ?_; intro u; clear u))
  (refine con_end ?_ rfl; intro u; clear u; refine ⟨rfl, rfl, EntGoal.mk ?_ ?_⟩ <;> (repeat' (first | exact trivial | (with_reducible rfl) | apply And.intro | rfl)))
theorem same_con {l r : List Int} (hb : ∀ x ∈ l, 0 ≤ x ∧ x ≤ 255) (hl : l.length ≤ 1000000) (hb2 : ∀ x ∈ r, 0 ≤ x ∧ x ≤ 255) (hl2 : r.length ≤ 1000000) : CallCon Try.prog 13 [.one (.sl 0 0 l.length), .one (.sl 1 0 r.length)] [.row (ints .u8 l) 1 5 false, .row (ints .u8 r) 1 5 false] (.t (.one (.b (l = r)))) [] := by
  refine con_of_call2 rfl ?_
  refine call_inline Try.func13 rfl rfl ?_
  intro _
  repeat' (refine is_asked ?_; refine asked _ (tostr_ask (take_ints _ _) rfl) ?_; intro u; clear u)
  rw [bytes_beq hb hb2]
  (refine con_end ?_ rfl; intro u; clear u; refine ⟨rfl, rfl, EntGoal.mk ?_ ?_⟩ <;> (repeat' (first | exact trivial | (with_reducible rfl) | apply And.intro | rfl)))
theorem equal_con {l r : List Int} (hb : ∀ x ∈ l, 0 ≤ x ∧ x ≤ 255) (hl : l.length ≤ 1000000) (hb2 : ∀ x ∈ r, 0 ≤ x ∧ x ≤ 255) (hl2 : r.length ≤ 1000000) : CallCon Try.prog 34 [.one (.sl 0 0 l.length), .one (.sl 1 0 r.length)] [.row (ints .u8 l) 1 5 false, .row (ints .u8 r) 1 5 false] (.t (.one (.b (l = r)))) [] := by
  refine con_of_call2 rfl ?_
  refine call_inline Try.func34 rfl rfl ?_
  intro _
  repeat' (refine is_asked ?_; refine asked _ (tostr_ask (take_ints _ _) rfl) ?_; intro u; clear u)
  rw [bytes_beq hb hb2]
  (refine con_end ?_ rfl; intro u; clear u; refine ⟨rfl, rfl, EntGoal.mk ?_ ?_⟩ <;> (repeat' (first | exact trivial | (with_reducible rfl) | apply And.intro | rfl)))
theorem refwright_con {l : List Int} {a b : Int} (ha : 0 ≤ a ∧ a ≤ 4294967295) (hc : 0 ≤ b ∧ b ≤ 4294967295) (hb : ∀ x ∈ l, 0 ≤ x ∧ x ≤ 255) (hl : l.length ≤ 100000) : CallCon Try.prog 38 [.one (.v (.int .u32 a)), .one (.v (.int .u32 b)), .one (.sl 0 0 l.length)] [.row (ints .u8 l) 1 5 false] (.t (.one (.b (sumW (pseudoL a b l.length ++ l) = 65535)))) [] := by
  refine con_of_call2 rfl ?_
  refine call_inline Try.func38 rfl rfl ?_
  intro _
  have hv : List.take (l.length * (0 + 1)) (List.drop (0 * (0 + 1)) (ints .u8 l)) = ints .u8 l := by simp [← ints_length .u8 l]
  have hL : (pseudoL a b l.length ++ l).length = 12 + l.length := by simp [pseudoL]; omega
  have hB : ∀ x ∈ pseudoL a b l.length ++ l, 0 ≤ x ∧ x ≤ 255 := by
    intro x hx
    rcases List.mem_append.mp hx with h | h
    · simp only [pseudoL, List.mem_cons, List.not_mem_nil, or_false] at h
      omega
    · exact hb x h
  have hR := refright_con hB (by omega)
  rw [hL] at hR
  repeat' (first | (refine is_asked ?_; (refine asked (ints .u8 (pseudoL a b l.length ++ l)) ⟨by rw [hv, ints_append], rfl, by rw [hv]; simp [ints_length], by unfold maxLen; omega, by show _ * 1 ≤ _; omega⟩ ?_); intro u; clear u) | (refine is_call ?_; (first | refine call_auto (refpseudo_con ha hc (by omega)) (lets_rfl rfl) (by exact trivial) rfl ?_ | refine call_auto (hR) (lets_rfl rfl) (by exact ⟨⟨_, rfl, rfl, rfl⟩, trivial⟩) rfl ?_); intro u; clear u))
  (refine con_end ?_ rfl; intro u; clear u; refine ⟨rfl, rfl, EntGoal.mk ?_ ?_⟩ <;> (repeat' (first | exact trivial | (with_reducible rfl) | apply And.intro | rfl)))
