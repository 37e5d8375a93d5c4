/- Contracts of functions of the program, or a row of the seat, proved out of them. No condition beyond those that stand in each statement. -/
import Derived.Test.YtcnijhilkemplaaS07h2A
namespace Go.Proofs.S07.I2
open Go Go.SE
set_option maxRecDepth 100000
set_option maxHeartbeats 4000000
attribute [local irreducible] specI

def words : List Int → List Int
  | a :: b :: r => (a * 256 + b) :: words r
  | [a] => [a * 256]
  | [] => []

theorem words_append : ∀ (A B : List Int), A.length % 2 = 0 → words (A ++ B) = words A ++ words B
  | [], B, _ => rfl
  | [a], B, h => by simp at h
  | a :: b :: r, B, h => by
    simp only [List.cons_append, words]
    rw [words_append r B (by simp at h; omega)]
theorem words_two {l : List Int} {k : Nat} (hk : k % 2 = 0) (h : k + 1 < l.length) : words (l.take (k + 2)) = words (l.take k) ++ [l.getD k 0 * 256 + l.getD (k + 1) 0] := by
  rw [take_succ_getD l (k + 1) h, take_succ_getD l k (by omega), List.append_assoc, words_append _ _ (by simp; omega)]
  rfl
theorem words_last {l : List Int} {k : Nat} (hk : k % 2 = 0) (h : k + 1 = l.length) : words l = words (l.take k) ++ [l.getD k 0 * 256] := by
  have e : l = l.take k ++ [l.getD k 0] := by
    rw [← take_succ_getD l k (by omega), List.take_of_length_le (by omega)]
  have := congrArg words e
  rw [words_append _ _ (by simp; omega)] at this
  exact this
theorem words_bd : ∀ {l : List Int}, (∀ x ∈ l, 0 ≤ x ∧ x ≤ 255) → (∀ x ∈ words l, 0 ≤ x ∧ x ≤ 65535) ∧ total (words l) ≤ 65535 * l.length
  | [], _ => ⟨by simp [words], by simp [words, total]⟩
  | [a], h => by
    have h1 := h a (by simp)
    exact ⟨by simp [words]; omega, by simp [words, total]; omega⟩
  | a :: b :: r, h => by
    have h1 := h a (by simp)
    have h2 := h b (by simp)
    obtain ⟨h3, h4⟩ := words_bd (l := r) fun x hx => h x (by simp [hx])
    refine ⟨fun x hx => ?_, ?_⟩
    · simp only [words, List.mem_cons] at hx
      rcases hx with rfl | hx
      · omega
      · exact h3 x hx
    · simp only [words, total, List.length_cons]; omega

theorem carried_con {n : Int} (h0 : 0 ≤ n) (h1 : n ≤ 1099511627775) : CallCon Try.prog 66 [.one (.v (.int .u64 n))] [] (.t (.one (.v (.int .u16 (fold n))))) [] := by
  refine con_of_call2 rfl ?_
  refine call_inline Try.func66 rfl rfl ?_
  intro _
  repeat' (first | (refine is_split ?_; (first | refine sp_no (by exact ndec_f (by omega)) ?_ | refine sp_ndec (fun g => ?_) (fun g => ?_)) <;> (intro u; clear u)) | (refine is_asked ?_; (first | (refine is_spec ?_; (first | (with_reducible refine asked _ (sp_add (by simp only [lo, hi]; omega) (by simp only [lo, hi]; omega)) ?_) | (refine is_op (op := .shr) ?_; refine asked _ (sp_shrL 16 65536 (by decide) (by rfl) (by decide)) ?_) | (with_reducible refine asked _ (sp_maskL 16 65536 (by decide) (by decide) (by decide) (by simp only [lo, hi]; omega)) ?_))) | (refine is_wrap ?_; refine asked _ (wrap_lohi (by simp only [lo, hi]; omega) (by simp only [lo, hi]; omega)) ?_)); intro u; clear u) | (refine is_scope ?_; refine scope_step ?_; intro u; clear u))
  all_goals (refine con_end ?_ rfl; intro u; clear u; refine ⟨rfl, rfl, EntGoal.mk ?_ ?_⟩ <;> (repeat' (first | exact trivial | (with_reducible rfl) | apply And.intro | rfl)))
  all_goals (unfold fold; split <;> omega)

theorem sum_con {l : List Int} (hb : ∀ x ∈ l, 0 ≤ x ∧ x ≤ 255) (hl : l.length ≤ 1000000) : CallCon Try.prog 63 [.one (.sl 0 0 l.length)] [.row (ints .u8 l) 1 5 false] (.t (.one (.v (.int .u16 (fold (total (words l))))))) [] := by
  refine con_of_call2 rfl ?_
  refine call_inline Try.func63 rfl rfl ?_
  intro _
  repeat' (first | (refine is_range ?_; refine range_step rfl rfl ?_; intro u; clear u) | (refine is_call ?_; (first | refine call_inline Try.func65 rfl rfl ?_ | refine call_inline Try.func69 rfl rfl ?_); intro u; clear u))
  refine loop_ind (fun k : Nat => l.length - k) (fun k => k ≤ l.length ∧ k % 2 = 0) (fun _ => []) (fun k => [(1, .box [.v (.int .u64 (total (words (l.take k))))] 1 97), (2, .box [.sl 0 k (l.length - k)] 1 27)]) (fun _ => [(4, [])]) [] 0 0 ⟨Nat.zero_le _, rfl⟩ ?_ ?_
  · (intro u; clear u; refine ⟨rfl, rfl, EntGoal.mk ?_ ?_⟩ <;> (repeat' (first | exact trivial | (with_reducible rfl) | apply And.intro | rfl)))
  · intro k hk u
    clear u
    have hbt : ∀ x ∈ l.take k, 0 ≤ x ∧ x ≤ 255 := fun x hx => hb x (List.mem_of_mem_take hx)
    have ht : 0 ≤ total (words (l.take k)) := total_bd (words_bd hbt).1
    have ht2 : total (words (l.take k)) ≤ 65535 * 1000000 := by
      have := (words_bd hbt).2
      have h3 : (l.take k).length ≤ 1000000 := by simp; omega
      omega
    clear hbt
    have hx := getD_bd hb (by decide) k
    have hy := getD_bd hb (by decide) (k + 1)
    repeat' (first | (refine is_draw ?_; refine bar_start mixed ?_; refine rest_bar 11 (by kernel_rfl) rfl (by rfl) (by kernel_rfl) ?_; intro u; clear u) | (refine is_split ?_; refine sp_dec (fun g => ?_) (fun g => ?_) <;> (intro u; clear u)) | (refine is_asked ?_; (first | (refine is_spec ?_; (first | (with_reducible refine asked _ (sp_add (by simp only [lo, hi]; omega) (by simp only [lo, hi]; omega)) ?_) | (refine is_op (op := .shl) ?_; refine asked _ (sp_shlL 8 256 (by decide) (by rfl) (by decide) (by simp only [lo, hi]; omega) (by simp only [lo, hi]; omega)) ?_) | (with_reducible refine asked _ (sp_or 8 (by omega) (by simp only [lo, hi]; omega) (by omega) (by omega) (by omega) (by simp only [lo, hi]; omega)) ?_))) | (refine is_wrap ?_; refine asked _ (wrap_lohi (by simp only [lo, hi]; omega) (by simp only [lo, hi]; omega)) ?_) | (refine asked _ (ix_eq k (by omega) (by omega)) ?_) | (refine asked _ (ix_eq (k + 1) (by omega) (by omega)) ?_) | refine asked _ (slice_ask (by omega) (by omega) (by omega)) ?_ | refine asked () ⟨by omega, by omega⟩ ?_); intro u; clear u) | (refine is_yield ?_; refine yield_step rfl rfl rfl rfl ?_; intro u; clear u) | (refine is_rest ?_; refine rest_dr (by kernel_rfl) (by rfl) ?_; intro u; clear u) | (refine is_call ?_; refine call_auto (carried_con (by omega) (by omega)) (lets_rfl rfl) (by exact trivial) rfl ?_; intro u; clear u))
    · refine again (k + 2) ⟨by omega, by omega⟩ (by omega) ?_
      (intro u; clear u; refine ⟨rfl, rfl, EntGoal.mk ?_ ?_⟩ <;> (repeat' (first | exact trivial | (with_reducible rfl) | apply And.intro | rfl)))
      all_goals (rw [words_two hk.2 (by omega), total_append]; simp [total]; try omega)
    · (refine con_end ?_ rfl; intro u; clear u; refine ⟨rfl, rfl, EntGoal.mk ?_ ?_⟩ <;> (repeat' (first | exact trivial | (with_reducible rfl) | apply And.intro | rfl)))
      have hw : total (words l) = total (words (l.take k)) + l.getD k 0 * 256 := by
        have h5 := congrArg total (words_last (l := l) hk.2 (by omega))
        rw [h5, total_append]
        simp [total]
      rw [hw]
    · (refine con_end ?_ rfl; intro u; clear u; refine ⟨rfl, rfl, EntGoal.mk ?_ ?_⟩ <;> (repeat' (first | exact trivial | (with_reducible rfl) | apply And.intro | rfl)))
      rw [List.take_of_length_le (by omega)]
