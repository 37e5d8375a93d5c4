/- Contracts of functions of the program, or a row of the seat, proved out of them. No condition beyond those that stand in each statement. -/
import Derived.Test.YtooempepoejmhaaP3F
import Derived.Test.YtooempepoejmhaaP3G
namespace Go.Proofs.P3
open Go Go.SE
set_option maxRecDepth 100000
set_option maxHeartbeats 4000000
attribute [local irreducible] specI

theorem pseudo_len {a b n : Int} : (pseudoL a b n).length = 12 := rfl
theorem pseudo_bytes (a b n : Int) : ∀ x ∈ pseudoL a b n, 0 ≤ x ∧ x ≤ 255 := by
  intro x h
  simp only [pseudoL, List.mem_cons, List.not_mem_nil, or_false] at h
  omega

theorem whole_con {l : List Int} {a b : Int} (ha : 0 ≤ a ∧ a ≤ 4294967295) (hc : 0 ≤ b ∧ b ≤ 4294967295) (hb : ∀ x ∈ l, 0 ≤ x ∧ x ≤ 255) (hl : l.length ≤ 100000) : CallCon Try.prog 42 [.one (.v (.int .u32 a)), .one (.v (.int .u32 b)), .one (.sl 0 0 l.length)] [.row (ints .u8 l) 1 5 false] (.t (.one (.sl 0 0 (12 + l.length)))) [.row (ints .u8 (pseudoL a b l.length ++ l)) 1 5 true] := by
  refine con_of_call2 rfl ?_
  refine call_inline Try.func42 rfl rfl ?_
  intro _
  have hv : List.take (l.length * (0 + 1)) (List.drop (0 * (0 + 1)) (ints .u8 l)) = ints .u8 l := by simp [← ints_length .u8 l]
  repeat' (first | (refine is_asked ?_; (refine asked (ints .u8 (pseudoL a b l.length ++ l)) ⟨by rw [hv, ints_append], rfl, by rw [hv]; simp [ints_length], by unfold maxLen; omega, by show _ * 1 ≤ _; omega⟩ ?_); intro u; clear u) | (refine is_call ?_; refine call_auto (pseudo_con ha hc (by omega)) (lets_rfl rfl) (by exact trivial) rfl ?_; intro u; clear u))
  (refine con_end ?_ rfl; intro u; clear u; refine ⟨rfl, rfl, EntGoal.mk ?_ ?_⟩ <;> (repeat' (first | exact trivial | (with_reducible rfl) | apply And.intro | rfl)))

theorem ints_take (k : IntKind) (n : Nat) (l : List Int) : (ints k l).take n = ints k (l.take n) := by
  induction l generalizing n with
  | nil => simp [ints]
  | cons x l ih => cases n with
    | zero => simp [ints]
    | succ n => simp [ints, ih]
theorem ints_drop (k : IntKind) (n : Nat) (l : List Int) : (ints k l).drop n = ints k (l.drop n) := by
  induction l generalizing n with
  | nil => simp [ints]
  | cons x l ih => cases n with
    | zero => simp [ints]
    | succ n => simp [ints, ih]
theorem ints_view {k : IntKind} {off n : Nat} {l : List Int} (h : off + n = l.length) : List.take (n * (0 + 1)) (List.drop (off * (0 + 1)) (ints k l)) = ints k (l.drop off) := by
  rw [Nat.zero_add, Nat.mul_one, Nat.mul_one, ints_drop, ints_take, List.take_of_length_le (by simp; omega)]

theorem clone_con {l : List Int} {off n : Nat} (ho : off + n = l.length) (hne : l ≠ []) (hb : ∀ x ∈ l, 0 ≤ x ∧ x ≤ 255) (hl : l.length ≤ 100000) : CallCon Try.prog 29 [.one (.sl 0 off n)] [.row (ints .u8 l) 1 5 false] (.t (.one (.sl 0 0 n))) [.row (ints .u8 (l.drop off)) 1 5 true] := by
  have hx : ints IntKind.u8 l ≠ [] := by cases l with
    | nil => exact absurd rfl hne
    | cons x l => simp [ints]
  refine con_of_call2 rfl ?_
  refine call_inline Try.func29 rfl rfl ?_
  intro _
  repeat' (refine is_asked ?_; (first | (refine asked () (.inr hx) ?_) | (refine asked (ints .u8 (l.drop off)) ⟨by rw [ints_view ho]; rfl, rfl, by rw [ints_view ho, ints_length, List.length_drop]; show _ = _ * 1; omega, by unfold maxLen; omega, by show _ * 1 ≤ _; omega⟩ ?_)); intro u; clear u)
  (refine con_end ?_ rfl; intro u; clear u; refine ⟨rfl, rfl, EntGoal.mk ?_ ?_⟩ <;> (repeat' (first | exact trivial | (with_reducible rfl) | apply And.intro | rfl)))
  all_goals omega

theorem number2_con {l : List Int} {off n : Nat} (ho : off + n = l.length) (hn : 2 ≤ n) (hb : ∀ x ∈ l, 0 ≤ x ∧ x ≤ 255) (hl : l.length ≤ 1000000) : CallCon Try.prog 43 [.one (.sl 0 off n)] [.row (ints .u8 l) 1 5 false] (.t (.one (.v (.int .u16 (l.getD off 0 * 256 + l.getD (off + 1) 0))))) [] := by
  have hx := getD_bd hb (by decide) off
  have hy := getD_bd hb (by decide) (off + 1)
  refine con_of_call2 rfl ?_
  refine call_inline Try.func43 rfl rfl ?_
  intro _
  repeat' (first | (refine is_asked ?_; (first | (refine is_spec ?_; (first | (refine is_op (op := .shl) ?_; refine asked _ (sp_shlL 8 256 (by decide) (by rfl) (by decide) (by simp only [lo, hi]; omega) (by simp only [lo, hi]; omega)) ?_) | (with_reducible refine asked _ (sp_or 8 (by omega) (by simp only [lo, hi]; omega) (by omega) (by omega) (by omega) (by simp only [lo, hi]; omega)) ?_))) | (refine is_wrap ?_; refine asked _ (wrap_lohi (by simp only [lo, hi]; omega) (by simp only [lo, hi]; omega)) ?_) | (refine asked _ (ix_eq off (by omega) (by omega)) ?_) | (refine asked _ (ix_eq (off + 1) (by omega) (by omega)) ?_) | refine asked () (by constructor <;> omega) ?_); intro u; clear u) | (refine is_draw ?_; refine draw_step mixed (by kernel_rfl) ?_; intro u; clear u))
  (refine con_end ?_ rfl; intro u; clear u; refine ⟨rfl, rfl, EntGoal.mk ?_ ?_⟩ <;> (repeat' (first | exact trivial | (with_reducible rfl) | apply And.intro | rfl)))
