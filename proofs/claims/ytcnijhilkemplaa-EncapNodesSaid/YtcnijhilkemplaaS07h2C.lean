/- Contracts of functions of the program, or a row of the seat, proved out of them. No condition beyond those that stand in each statement. -/
import Derived.Test.YtcnijhilkemplaaS07h2B
namespace Go.Proofs.S07.I2
open Go Go.SE
set_option maxRecDepth 100000
set_option maxHeartbeats 4000000
attribute [local irreducible] specI

theorem words_len_le : ∀ (l : List Int), (words l).length ≤ l.length
  | [] => Nat.le_refl _
  | [_] => Nat.le_refl _
  | _ :: _ :: r => by have := words_len_le r; simp only [words, List.length_cons]; omega
theorem ints_append' (k : IntKind) : ∀ (A B : List Int), ints k (A ++ B) = ints k A ++ ints k B
  | [], _ => rfl
  | x :: A, B => by simp only [List.cons_append, ints, ints_append' k A B]

theorem words_con {l : List Int} (hb : ∀ x ∈ l, 0 ≤ x ∧ x ≤ 255) (hl : l.length ≤ 1000000) : CallCon Try.prog 68 [.one (.sl 0 0 l.length)] [.row (ints .u8 l) 1 5 false] (.t (.one (.sl 0 0 (words l).length))) [.row (ints .u16 (words l)) 1 49 true] := by
  refine con_of_call2 rfl ?_
  refine call_inline Try.func68 rfl rfl ?_
  intro _
  refine loop_ind (fun k : Nat => l.length - k) (fun k => k % 2 = 0) (fun k => [(3, .t (.one (.sl 1 0 (words (l.take k)).length))), (4, .t (.one (.v (.int .i64 k))))]) (fun k => [(1, .row (ints .u16 (words (l.take k))) 1 49 true)]) (fun _ => []) [] 1 0 rfl ?_ ?_
  · (intro u; clear u; refine ⟨rfl, rfl, EntGoal.mk ?_ ?_⟩ <;> (repeat' (first | exact trivial | (with_reducible rfl) | apply And.intro | rfl)))
  · intro k hk u
    clear u
    have hx := getD_bd hb (by decide) k
    have hy := getD_bd hb (by decide) (k + 1)
    have hw : (ints .u16 (words (l.take k))).length = (words (l.take k)).length := ints_length _ _
    have hw2 : (words (l.take k)).length ≤ 1000000 := by
      have h1 := words_len_le (l.take k)
      have h2 : (l.take k).length ≤ 1000000 := by simp; omega
      omega
    repeat' (first | (refine is_split ?_; refine sp_dec (fun g => ?_) (fun g => ?_) <;> (intro u; clear u)) | (refine is_asked ?_; (first | (refine is_spec ?_; (first | (with_reducible refine asked _ (sp_add (by simp only [lo, hi]; omega) (by simp only [lo, hi]; omega)) ?_) | (with_reducible refine asked _ (sp_mul (by simp only [lo, hi]; omega) (by simp only [lo, hi]; omega)) ?_))) | (refine is_wrap ?_; refine asked _ (wrap_lohi (by simp only [lo, hi]; omega) (by simp only [lo, hi]; omega)) ?_) | (refine asked _ (ix_eq k (by omega) (by omega)) ?_) | (refine asked _ (ix_eq (k + 1) (by omega) (by omega)) ?_) | (refine asked (ints .u16 (words (l.take (k + 2)))) ⟨by rw [words_two hk (by omega), ints_append', Int.mul_comm]; rfl, by show _ = _ * 1; omega, rfl, by unfold maxLen; omega, by show _ * 2 ≤ _; omega⟩ ?_) | (refine asked (ints .u16 (words (l.take (k + 2)))) ⟨by rw [List.take_of_length_le (l := l) (i := k + 2) (by omega), words_last (l := l) hk (by omega), ints_append', Int.mul_comm]; rfl, by show _ = _ * 1; omega, rfl, by unfold maxLen; omega, by show _ * 2 ≤ _; omega⟩ ?_) | refine asked () ⟨by omega, by omega⟩ ?_); intro u; clear u))
    · refine again (k + 2) (by omega) (by omega) ?_
      (intro u; clear u; refine ⟨rfl, rfl, EntGoal.mk ?_ ?_⟩ <;> (repeat' (first | exact trivial | (with_reducible rfl) | apply And.intro | rfl)))
      all_goals (rw [words_two hk (by omega)]; simp)
    · refine again (k + 2) (by omega) (by omega) ?_
      (intro u; clear u; refine ⟨rfl, rfl, EntGoal.mk ?_ ?_⟩ <;> (repeat' (first | exact trivial | (with_reducible rfl) | apply And.intro | rfl)))
      all_goals (rw [List.take_of_length_le (l := l) (i := k + 2) (by omega), words_last (l := l) hk (by omega)]; simp)
    · have h6 : l.take k = l := List.take_of_length_le (by omega)
      rw [h6]
      (refine con_end ?_ rfl; intro u; clear u; refine ⟨rfl, rfl, EntGoal.mk ?_ ?_⟩ <;> (repeat' (first | exact trivial | (with_reducible rfl) | apply And.intro | rfl)))
