/- Contracts of functions of the program, or a row of the seat, proved out of them. No condition beyond those that stand in each statement. -/
import Derived.Test.YtlefpinmgabmfaaGreatSeD
import Derived.KernelRfl
import Derived.Test.YtlefpinmgabmfaaGreatProg
namespace Go.Proofs.S14.T3
open Go Go.SE
set_option maxRecDepth 100000
set_option maxHeartbeats 4000000
attribute [local irreducible] specI
theorem mixed : Tryz.prog.follows .mixedOrders = true := by kernel_rfl

/-- Ones' complement: what a sum comes to when what is above 16 bits is brought round. -/
def fold (n : Int) : Int := if n = 0 then 0 else (n - 1) % 65535 + 1

def total : List Int → Int
  | [] => 0
  | x :: l => x + total l

theorem total_append : ∀ (l r : List Int), total (l ++ r) = total l + total r
  | [], r => by simp [total]
  | x :: l, r => by simp only [List.cons_append, total, total_append l r]; omega
theorem take_succ_getD (l : List Int) (k : Nat) (h : k < l.length) : l.take (k + 1) = l.take k ++ [l.getD k 0] := by
  rw [List.take_succ_eq_append_getElem h]
  simp [List.getD_eq_getElem?_getD, List.getElem?_eq_getElem h]
theorem getD_bd {l : List Int} {a b : Int} (hb : ∀ x ∈ l, a ≤ x ∧ x ≤ b) (h0 : a ≤ 0 ∧ 0 ≤ b) (k : Nat) : a ≤ l.getD k 0 ∧ l.getD k 0 ≤ b := by
  rw [List.getD_eq_getElem?_getD]
  cases h : l[k]? with
  | none => simpa using h0
  | some x => exact hb x (List.mem_of_getElem? h)
theorem total_bd {l : List Int} {b : Int} (hb : ∀ x ∈ l, 0 ≤ x ∧ x ≤ b) : 0 ≤ total l := by
  induction l with
  | nil => exact Int.le_refl _
  | cons x l ih =>
    have h1 := hb x (by simp)
    have h2 := ih fun y hy => hb y (by simp [hy])
    simp only [total]; omega
theorem fold_bd {n : Int} (h : 0 ≤ n) : 0 ≤ fold n ∧ fold n ≤ 65535 := by unfold fold; split <;> omega
theorem fold_add {n x : Int} (h : 0 ≤ n) (hx : 0 ≤ x) (hx2 : x ≤ 65535) : fold (n + x) = if fold n + x > 65535 then fold n + x - 65535 else fold n + x := by
  unfold fold; split <;> split <;> split <;> omega

theorem fold_con {l : List Int} (hb : ∀ x ∈ l, 0 ≤ x ∧ x ≤ 65535) (hl : l.length ≤ 1000000) : CallCon Tryz.prog 182 [.one (.sl 0 0 l.length)] [.row (ints .u16 l) 1 35 false] (.t (.one (.v (.int .u16 (fold (total l)))))) [] := by
  refine con_of_call2 rfl ?_
  refine call_inline Tryz.func182 rfl rfl ?_
  intro _
  refine loop_ind (fun k : Nat => l.length - k) (fun k => k ≤ l.length) (fun k => [(3, .t (.one (.v (.int .i64 (fold (total (l.take k))))))), (4, .t (.one (.v (.int .i64 k))))]) (fun _ => []) (fun _ => []) [] 0 0 (Nat.zero_le _) ?_ ?_
  · (intro u; clear u; refine ⟨rfl, rfl, EntGoal.mk ?_ ?_⟩ <;> (repeat' (first | exact trivial | (with_reducible rfl) | apply And.intro | rfl)))
  · intro k hk u
    clear u
    have hx := getD_bd hb (by decide) k
    have ht : 0 ≤ total (l.take k) := total_bd fun x hx => hb x (List.mem_of_mem_take hx)
    have hf := fold_bd ht
    repeat' (first | (refine is_split ?_; refine sp_dec (fun g => ?_) (fun g => ?_) <;> (intro u; clear u)) | (refine is_asked ?_; (first | (refine is_spec ?_; (first | (with_reducible refine asked _ (sp_add (by simp only [lo, hi]; omega) (by simp only [lo, hi]; omega)) ?_) | (with_reducible refine asked _ (sp_sub (by simp only [lo, hi]; omega) (by simp only [lo, hi]; omega)) ?_))) | (refine is_wrap ?_; refine asked _ (wrap_lohi (by simp only [lo, hi]; omega) (by simp only [lo, hi]; omega)) ?_) | refine asked () ⟨by omega, by omega⟩ ?_ | refine asked _ (ix_ints (by omega)) ?_); intro u; clear u))
    · have hs := fold_add ht hx.1 hx.2
      rw [if_pos (by omega)] at hs
      refine again (k + 1) (by omega) (by omega) ?_
      (intro u; clear u; refine ⟨rfl, rfl, EntGoal.mk ?_ ?_⟩ <;> (repeat' (first | exact trivial | (with_reducible rfl) | apply And.intro | rfl)))
      show _ = fold (total (l.take (k + 1)))
      rw [take_succ_getD l k (by omega), total_append]
      simpa [total] using hs.symm
    · have hs := fold_add ht hx.1 hx.2
      rw [if_neg (by omega)] at hs
      refine again (k + 1) (by omega) (by omega) ?_
      (intro u; clear u; refine ⟨rfl, rfl, EntGoal.mk ?_ ?_⟩ <;> (repeat' (first | exact trivial | (with_reducible rfl) | apply And.intro | rfl)))
      show _ = fold (total (l.take (k + 1)))
      rw [take_succ_getD l k (by omega), total_append]
      simpa [total] using hs.symm
    · (refine con_end ?_ rfl; intro u; clear u; refine ⟨rfl, rfl, EntGoal.mk ?_ ?_⟩ <;> (repeat' (first | exact trivial | (with_reducible rfl) | apply And.intro | rfl)))
      rw [List.take_of_length_le (by omega)]
end Go.Proofs.S14.T3

namespace Go.Proofs.S14.T3
open Go Go.SE
set_option maxRecDepth 100000
set_option maxHeartbeats 4000000
attribute [local irreducible] specI

def words : List Int → List Int
  | a :: b :: r => (a * 256 + b) :: words r
  | [a] => [a * 256]
  | [] => []

theorem words_append : ∀ (A B : List Int), A.length % 2 = 0 → words (A ++ B) = words A ++ words B
  | [], B, _ => rfl
  | [a], B, h => by simp at h
  | a :: b :: r, B, h => by
    simp only [List.cons_append, words]
    rw [words_append r B (by simp at h; omega)]
theorem words_two {l : List Int} {k : Nat} (hk : k % 2 = 0) (h : k + 1 < l.length) : words (l.take (k + 2)) = words (l.take k) ++ [l.getD k 0 * 256 + l.getD (k + 1) 0] := by
  rw [take_succ_getD l (k + 1) h, take_succ_getD l k (by omega), List.append_assoc, words_append _ _ (by simp; omega)]
  rfl
theorem words_last {l : List Int} {k : Nat} (hk : k % 2 = 0) (h : k + 1 = l.length) : words l = words (l.take k) ++ [l.getD k 0 * 256] := by
  have e : l = l.take k ++ [l.getD k 0] := by
    rw [← take_succ_getD l k (by omega), List.take_of_length_le (by omega)]
  have := congrArg words e
  rw [words_append _ _ (by simp; omega)] at this
  exact this
theorem words_bd : ∀ {l : List Int}, (∀ x ∈ l, 0 ≤ x ∧ x ≤ 255) → (∀ x ∈ words l, 0 ≤ x ∧ x ≤ 65535) ∧ total (words l) ≤ 65535 * l.length
  | [], _ => ⟨by simp [words], by simp [words, total]⟩
  | [a], h => by
    have h1 := h a (by simp)
    exact ⟨by simp [words]; omega, by simp [words, total]; omega⟩
  | a :: b :: r, h => by
    have h1 := h a (by simp)
    have h2 := h b (by simp)
    obtain ⟨h3, h4⟩ := words_bd (l := r) fun x hx => h x (by simp [hx])
    refine ⟨fun x hx => ?_, ?_⟩
    · simp only [words, List.mem_cons] at hx
      rcases hx with rfl | hx
      · omega
      · exact h3 x hx
    · simp only [words, total, List.length_cons]; omega

theorem carried_con {n : Int} (h0 : 0 ≤ n) (h1 : n ≤ 1099511627775) : CallCon Tryz.prog 206 [.one (.v (.int .u64 n))] [] (.t (.one (.v (.int .u16 (fold n))))) [] := by
  refine con_of_call2 rfl ?_
  refine call_inline Tryz.func206 rfl rfl ?_
  intro _
  repeat' (first | (refine is_split ?_; (first | refine sp_no (by exact ndec_f (by omega)) ?_ | refine sp_ndec (fun g => ?_) (fun g => ?_)) <;> (intro u; clear u)) | (refine is_asked ?_; (first | (refine is_spec ?_; (first | (with_reducible refine asked _ (sp_add (by simp only [lo, hi]; omega) (by simp only [lo, hi]; omega)) ?_) | (refine is_op (op := .shr) ?_; refine asked _ (sp_shrL 16 65536 (by decide) (by rfl) (by decide)) ?_) | (with_reducible refine asked _ (sp_maskL 16 65536 (by decide) (by decide) (by decide) (by simp only [lo, hi]; omega)) ?_))) | (refine is_wrap ?_; refine asked _ (wrap_lohi (by simp only [lo, hi]; omega) (by simp only [lo, hi]; omega)) ?_)); intro u; clear u) | (refine is_scope ?_; refine scope_step ?_; intro u; clear u))
  all_goals (refine con_end ?_ rfl; intro u; clear u; refine ⟨rfl, rfl, EntGoal.mk ?_ ?_⟩ <;> (repeat' (first | exact trivial | (with_reducible rfl) | apply And.intro | rfl)))
  all_goals (unfold fold; split <;> omega)

theorem sum_con {l : List Int} (hb : ∀ x ∈ l, 0 ≤ x ∧ x ≤ 255) (hl : l.length ≤ 1000000) : CallCon Tryz.prog 188 [.one (.sl 0 0 l.length)] [.row (ints .u8 l) 1 5 false] (.t (.one (.v (.int .u16 (fold (total (words l))))))) [] := by
  refine con_of_call2 rfl ?_
  refine call_inline Tryz.func188 rfl rfl ?_
  intro _
  repeat' (first | (refine is_range ?_; refine range_step rfl rfl ?_; intro u; clear u) | (refine is_call ?_; (first | refine call_inline Tryz.func205 rfl rfl ?_ | refine call_inline Tryz.func211 rfl rfl ?_); intro u; clear u))
  refine loop_ind (fun k : Nat => l.length - k) (fun k => k ≤ l.length ∧ k % 2 = 0) (fun _ => []) (fun k => [(1, .box [.v (.int .u64 (total (words (l.take k))))] 1 129), (2, .box [.sl 0 k (l.length - k)] 1 29)]) (fun _ => [(4, [])]) [] 0 0 ⟨Nat.zero_le _, rfl⟩ ?_ ?_
  · (intro u; clear u; refine ⟨rfl, rfl, EntGoal.mk ?_ ?_⟩ <;> (repeat' (first | exact trivial | (with_reducible rfl) | apply And.intro | rfl)))
  · intro k hk u
    clear u
    have hbt : ∀ x ∈ l.take k, 0 ≤ x ∧ x ≤ 255 := fun x hx => hb x (List.mem_of_mem_take hx)
    have ht : 0 ≤ total (words (l.take k)) := total_bd (words_bd hbt).1
    have ht2 : total (words (l.take k)) ≤ 65535 * 1000000 := by
      have := (words_bd hbt).2
      have h3 : (l.take k).length ≤ 1000000 := by simp; omega
      omega
    clear hbt
    have hx := getD_bd hb (by decide) k
    have hy := getD_bd hb (by decide) (k + 1)
    repeat' (first | (refine is_draw ?_; refine bar_start mixed ?_; refine rest_bar 11 (by kernel_rfl) rfl (by rfl) (by kernel_rfl) ?_; intro u; clear u) | (refine is_split ?_; refine sp_dec (fun g => ?_) (fun g => ?_) <;> (intro u; clear u)) | (refine is_asked ?_; (first | (refine is_spec ?_; (first | (with_reducible refine asked _ (sp_add (by simp only [lo, hi]; omega) (by simp only [lo, hi]; omega)) ?_) | (refine is_op (op := .shl) ?_; refine asked _ (sp_shlL 8 256 (by decide) (by rfl) (by decide) (by simp only [lo, hi]; omega) (by simp only [lo, hi]; omega)) ?_) | (with_reducible refine asked _ (sp_or 8 (by omega) (by simp only [lo, hi]; omega) (by omega) (by omega) (by omega) (by simp only [lo, hi]; omega)) ?_))) | (refine is_wrap ?_; refine asked _ (wrap_lohi (by simp only [lo, hi]; omega) (by simp only [lo, hi]; omega)) ?_) | (refine asked _ (ix_eq k (by omega) (by omega)) ?_) | (refine asked _ (ix_eq (k + 1) (by omega) (by omega)) ?_) | refine asked _ (slice_ask (by omega) (by omega) (by omega)) ?_ | refine asked () ⟨by omega, by omega⟩ ?_); intro u; clear u) | (refine is_yield ?_; refine yield_step rfl rfl rfl rfl ?_; intro u; clear u) | (refine is_rest ?_; refine rest_dr (by kernel_rfl) (by rfl) ?_; intro u; clear u) | (refine is_call ?_; refine call_auto (carried_con (by omega) (by omega)) (lets_rfl rfl) (by exact trivial) rfl ?_; intro u; clear u))
    · refine again (k + 2) ⟨by omega, by omega⟩ (by omega) ?_
      (intro u; clear u; refine ⟨rfl, rfl, EntGoal.mk ?_ ?_⟩ <;> (repeat' (first | exact trivial | (with_reducible rfl) | apply And.intro | rfl)))
      all_goals (rw [words_two hk.2 (by omega), total_append]; simp [total]; try omega)
    · (refine con_end ?_ rfl; intro u; clear u; refine ⟨rfl, rfl, EntGoal.mk ?_ ?_⟩ <;> (repeat' (first | exact trivial | (with_reducible rfl) | apply And.intro | rfl)))
      have hw : total (words l) = total (words (l.take k)) + l.getD k 0 * 256 := by
        have h5 := congrArg total (words_last (l := l) hk.2 (by omega))
        rw [h5, total_append]
        simp [total]
      rw [hw]
    · (refine con_end ?_ rfl; intro u; clear u; refine ⟨rfl, rfl, EntGoal.mk ?_ ?_⟩ <;> (repeat' (first | exact trivial | (with_reducible rfl) | apply And.intro | rfl)))
      rw [List.take_of_length_le (by omega)]
end Go.Proofs.S14.T3

namespace Go.Proofs.S14.T3
open Go Go.SE
set_option maxRecDepth 100000
set_option maxHeartbeats 4000000
attribute [local irreducible] specI

theorem words_len_le : ∀ (l : List Int), (words l).length ≤ l.length
  | [] => Nat.le_refl _
  | [_] => Nat.le_refl _
  | _ :: _ :: r => by have := words_len_le r; simp only [words, List.length_cons]; omega
theorem ints_append' (k : IntKind) : ∀ (A B : List Int), ints k (A ++ B) = ints k A ++ ints k B
  | [], _ => rfl
  | x :: A, B => by simp only [List.cons_append, ints, ints_append' k A B]

theorem words_con {l : List Int} (hb : ∀ x ∈ l, 0 ≤ x ∧ x ≤ 255) (hl : l.length ≤ 1000000) : CallCon Tryz.prog 183 [.one (.sl 0 0 l.length)] [.row (ints .u8 l) 1 5 false] (.t (.one (.sl 0 0 (words l).length))) [.row (ints .u16 (words l)) 1 35 true] := by
  refine con_of_call2 rfl ?_
  refine call_inline Tryz.func183 rfl rfl ?_
  intro _
  refine loop_ind (fun k : Nat => l.length - k) (fun k => k % 2 = 0) (fun k => [(3, .t (.one (.sl 1 0 (words (l.take k)).length))), (4, .t (.one (.v (.int .i64 k))))]) (fun k => [(1, .row (ints .u16 (words (l.take k))) 1 35 true)]) (fun _ => []) [] 1 0 rfl ?_ ?_
  · (intro u; clear u; refine ⟨rfl, rfl, EntGoal.mk ?_ ?_⟩ <;> (repeat' (first | exact trivial | (with_reducible rfl) | apply And.intro | rfl)))
  · intro k hk u
    clear u
    have hx := getD_bd hb (by decide) k
    have hy := getD_bd hb (by decide) (k + 1)
    have hw : (ints .u16 (words (l.take k))).length = (words (l.take k)).length := ints_length _ _
    have hw2 : (words (l.take k)).length ≤ 1000000 := by
      have h1 := words_len_le (l.take k)
      have h2 : (l.take k).length ≤ 1000000 := by simp; omega
      omega
    repeat' (first | (refine is_split ?_; refine sp_dec (fun g => ?_) (fun g => ?_) <;> (intro u; clear u)) | (refine is_asked ?_; (first | (refine is_spec ?_; (first | (with_reducible refine asked _ (sp_add (by simp only [lo, hi]; omega) (by simp only [lo, hi]; omega)) ?_) | (with_reducible refine asked _ (sp_mul (by simp only [lo, hi]; omega) (by simp only [lo, hi]; omega)) ?_))) | (refine is_wrap ?_; refine asked _ (wrap_lohi (by simp only [lo, hi]; omega) (by simp only [lo, hi]; omega)) ?_) | (refine asked _ (ix_eq k (by omega) (by omega)) ?_) | (refine asked _ (ix_eq (k + 1) (by omega) (by omega)) ?_) | (refine asked (ints .u16 (words (l.take (k + 2)))) ⟨by rw [words_two hk (by omega), ints_append', Int.mul_comm]; rfl, by show _ = _ * 1; omega, rfl, by unfold maxLen; omega, by show _ * 2 ≤ _; omega⟩ ?_) | (refine asked (ints .u16 (words (l.take (k + 2)))) ⟨by rw [List.take_of_length_le (l := l) (i := k + 2) (by omega), words_last (l := l) hk (by omega), ints_append', Int.mul_comm]; rfl, by show _ = _ * 1; omega, rfl, by unfold maxLen; omega, by show _ * 2 ≤ _; omega⟩ ?_) | refine asked () ⟨by omega, by omega⟩ ?_); intro u; clear u))
    · refine again (k + 2) (by omega) (by omega) ?_
      (intro u; clear u; refine ⟨rfl, rfl, EntGoal.mk ?_ ?_⟩ <;> (repeat' (first | exact trivial | (with_reducible rfl) | apply And.intro | rfl)))
      all_goals (rw [words_two hk (by omega)]; simp)
    · refine again (k + 2) (by omega) (by omega) ?_
      (intro u; clear u; refine ⟨rfl, rfl, EntGoal.mk ?_ ?_⟩ <;> (repeat' (first | exact trivial | (with_reducible rfl) | apply And.intro | rfl)))
      all_goals (rw [List.take_of_length_le (l := l) (i := k + 2) (by omega), words_last (l := l) hk (by omega)]; simp)
    · have h6 : l.take k = l := List.take_of_length_le (by omega)
      rw [h6]
      (refine con_end ?_ rfl; intro u; clear u; refine ⟨rfl, rfl, EntGoal.mk ?_ ?_⟩ <;> (repeat' (first | exact trivial | (with_reducible rfl) | apply And.intro | rfl)))
end Go.Proofs.S14.T3

namespace Go.Proofs.S14.T3
open Go Go.SE
set_option maxRecDepth 100000
set_option maxHeartbeats 4000000
attribute [local irreducible] specI

def sumW (l : List Int) : Int := fold (total (words l))
theorem sumW_bd {l : List Int} (hb : ∀ x ∈ l, 0 ≤ x ∧ x ≤ 255) : 0 ≤ sumW l ∧ sumW l ≤ 65535 :=
  fold_bd (total_bd (words_bd hb).1)

theorem refsum_con {l : List Int} (hb : ∀ x ∈ l, 0 ≤ x ∧ x ≤ 255) (hl : l.length ≤ 1000000) : CallCon Tryz.prog 153 [.one (.sl 0 0 l.length)] [.row (ints .u8 l) 1 5 false] (.t (.one (.v (.int .u16 (sumW l))))) [] := by
  refine con_of_call2 rfl ?_
  refine call_inline Tryz.func153 rfl rfl ?_
  intro _
  repeat' (refine is_call ?_; (first | refine call_auto (words_con hb hl) (lets_rfl rfl) (by exact ⟨⟨_, rfl, rfl, rfl⟩, trivial⟩) rfl ?_ | refine call_auto (fold_con (words_bd hb).1 (Nat.le_trans (words_len_le l) hl)) (lets_rfl rfl) (by exact ⟨⟨_, rfl, rfl, rfl⟩, trivial⟩) rfl ?_); intro u; clear u)
  all_goals (refine con_end ?_ rfl; intro u; clear u; refine ⟨rfl, rfl, EntGoal.mk ?_ ?_⟩ <;> (repeat' (first | exact trivial | (with_reducible rfl) | apply And.intro | rfl)))
theorem refcheck_con {l : List Int} (hb : ∀ x ∈ l, 0 ≤ x ∧ x ≤ 255) (hl : l.length ≤ 1000000) : CallCon Tryz.prog 110 [.one (.sl 0 0 l.length)] [.row (ints .u8 l) 1 5 false] (.t (.one (.v (.int .u16 (65535 - sumW l))))) [] := by
  have hs := sumW_bd hb
  refine con_of_call2 rfl ?_
  refine call_inline Tryz.func110 rfl rfl ?_
  intro _
  repeat' (first | (refine is_asked ?_; (refine is_spec ?_; (with_reducible refine asked _ (sp_sub (by simp only [lo, hi]; omega) (by simp only [lo, hi]; omega)) ?_)); intro u; clear u) | (refine is_call ?_; refine call_auto (refsum_con hb hl) (lets_rfl rfl) (by exact ⟨⟨_, rfl, rfl, rfl⟩, trivial⟩) rfl ?_; intro u; clear u))
  all_goals (refine con_end ?_ rfl; intro u; clear u; refine ⟨rfl, rfl, EntGoal.mk ?_ ?_⟩ <;> (repeat' (first | exact trivial | (with_reducible rfl) | apply And.intro | rfl)))
theorem refright_con {l : List Int} (hb : ∀ x ∈ l, 0 ≤ x ∧ x ≤ 255) (hl : l.length ≤ 1000000) : CallCon Tryz.prog 130 [.one (.sl 0 0 l.length)] [.row (ints .u8 l) 1 5 false] (.t (.one (.b (sumW l = 65535)))) [] := by
  have hs := sumW_bd hb
  refine con_of_call2 rfl ?_
  refine call_inline Tryz.func130 rfl rfl ?_
  intro _
  repeat' (refine is_call ?_; refine call_auto (refsum_con hb hl) (lets_rfl rfl) (by exact ⟨⟨_, rfl, rfl, rfl⟩, trivial⟩) rfl ?_; intro u; clear u)
  all_goals (refine con_end ?_ rfl; intro u; clear u; refine ⟨rfl, rfl, EntGoal.mk ?_ ?_⟩ <;> (repeat' (first | exact trivial | (with_reducible rfl) | apply And.intro | rfl)))
theorem xor_all {x : Int} (h0 : 0 ≤ x) (h1 : x ≤ 65535) : ((BitVec.ofInt IntKind.u16.bits (if IntKind.u16.signed = true then -1 else IntKind.u16.max) ^^^ BitVec.ofInt IntKind.u16.bits x).toNat : Int) % 65536 = 65535 - x := by
  have e : (BitVec.ofInt IntKind.u16.bits (if IntKind.u16.signed = true then -1 else IntKind.u16.max)) = BitVec.allOnes 16 := by rfl
  rw [e]
  have e2 : (BitVec.allOnes 16 ^^^ BitVec.ofInt 16 x) = ~~~ (BitVec.ofInt 16 x) := by
    rw [BitVec.allOnes_xor]
  show (((BitVec.allOnes 16 ^^^ BitVec.ofInt 16 x)).toNat : Int) % 65536 = _
  rw [e2, BitVec.toNat_not, BitVec.toNat_ofInt]
  omega
theorem check_con {l : List Int} (hb : ∀ x ∈ l, 0 ≤ x ∧ x ≤ 255) (hl : l.length ≤ 1000000) : CallCon Tryz.prog 168 [.one (.sl 0 0 l.length)] [.row (ints .u8 l) 1 5 false] (.t (.one (.v (.int .u16 (65535 - sumW l))))) [] := by
  have hs := sumW_bd hb
  have hc : CallCon Tryz.prog 188 [.one (.sl 0 0 l.length)] [.row (ints .u8 l) 1 5 false] (.t (.one (.v (.int .u16 (sumW l))))) [] := sum_con hb hl
  refine con_of_call2 rfl ?_
  refine call_inline Tryz.func168 rfl rfl ?_
  intro _
  repeat' (first | (refine is_asked ?_; (refine is_wrap ?_; refine asked _ (wrap_u16' _) ?_); intro u; clear u) | (refine is_call ?_; refine call_auto (hc) (lets_rfl rfl) (by exact ⟨⟨_, rfl, rfl, rfl⟩, trivial⟩) rfl ?_; intro u; clear u))
  all_goals (refine con_end ?_ rfl; intro u; clear u; refine ⟨rfl, rfl, EntGoal.mk ?_ ?_⟩ <;> (repeat' (first | exact trivial | (with_reducible rfl) | apply And.intro | rfl)))
  all_goals exact xor_all hs.1 hs.2
theorem right_con {l : List Int} (hb : ∀ x ∈ l, 0 ≤ x ∧ x ≤ 255) (hl : l.length ≤ 1000000) : CallCon Tryz.prog 157 [.one (.sl 0 0 l.length)] [.row (ints .u8 l) 1 5 false] (.t (.one (.b (sumW l = 65535)))) [] := by
  have hs := sumW_bd hb
  refine con_of_call2 rfl ?_
  refine call_inline Tryz.func157 rfl rfl ?_
  intro _
  repeat' (refine is_call ?_; refine call_auto (check_con hb hl) (lets_rfl rfl) (by exact ⟨⟨_, rfl, rfl, rfl⟩, trivial⟩) rfl ?_; intro u; clear u)
  have hd : decide (65535 - sumW l = 0) = decide (sumW l = 65535) := by rw [decide_eq_decide]; omega
  rw [hd]
  (refine con_end ?_ rfl; intro u; clear u; refine ⟨rfl, rfl, EntGoal.mk ?_ ?_⟩ <;> (repeat' (first | exact trivial | (with_reducible rfl) | apply And.intro | rfl)))
end Go.Proofs.S14.T3

namespace Go.Proofs.S14.T3
open Go Go.SE
set_option maxRecDepth 100000
set_option maxHeartbeats 4000000
attribute [local irreducible] specI

def twoL (n : Int) : List Int := [n / 256 % 256, n % 256]
def pseudoL (a b n : Int) : List Int := [a / 65536 / 256 % 256, a / 65536 % 256, a / 256 % 256, a % 256, b / 65536 / 256 % 256, b / 65536 % 256, b / 256 % 256, b % 256, 0, 6, n / 256 % 256, n % 256]

theorem reftwo_con {n : Int} : CallCon Tryz.prog 154 [.one (.v (.int .i64 n))] [] (.t (.one (.sl 0 0 2))) [.row (ints .u8 (twoL n)) 1 5 true] := by
  refine con_of_call2 rfl ?_
  refine call_inline Tryz.func154 rfl rfl ?_
  intro _
  repeat' (refine is_asked ?_; (first | (refine is_spec ?_; (refine is_op (op := .shr) ?_; refine asked _ (sp_shrL 8 256 (by decide) (by rfl) (by decide)) ?_)) | (refine is_wrap ?_; refine asked _ (wrap_u8' _) ?_)); intro u; clear u)
  all_goals (refine con_end ?_ rfl; intro u; clear u; refine ⟨rfl, rfl, EntGoal.mk ?_ ?_⟩ <;> (repeat' (first | exact trivial | (with_reducible rfl) | apply And.intro | rfl)))
theorem refpseudo_con {a b n : Int} (ha : 0 ≤ a ∧ a ≤ 4294967295) (hb : 0 ≤ b ∧ b ≤ 4294967295) (hn : -9223372036854775808 ≤ n ∧ n ≤ 9223372036854775807) : CallCon Tryz.prog 111 [.one (.v (.int .u32 a)), .one (.v (.int .u32 b)), .one (.v (.int .i64 n))] [] (.t (.one (.sl 0 0 12))) [.row (ints .u8 (pseudoL a b n)) 1 5 true] := by
  refine con_of_call2 rfl ?_
  refine call_inline Tryz.func111 rfl rfl ?_
  intro _
  repeat' (first | (refine is_asked ?_; (first | (refine is_spec ?_; (refine is_op (op := .shr) ?_; refine asked _ (sp_shrL 16 65536 (by decide) (by rfl) (by decide)) ?_)) | (refine is_wrap ?_; refine asked _ (wrap_lohi (by simp only [lo, hi]; omega) (by simp only [lo, hi]; omega)) ?_) | refine asked _ (append_ask rfl rfl (by decide) (by decide)) ?_); intro u; clear u) | (refine is_call ?_; refine call_auto (reftwo_con) (lets_rfl rfl) (by exact trivial) rfl ?_; intro u; clear u))
  all_goals (refine con_end ?_ rfl; intro u; clear u; refine ⟨rfl, rfl, EntGoal.mk ?_ ?_⟩ <;> (repeat' (first | exact trivial | (with_reducible rfl) | apply And.intro | rfl)))
end Go.Proofs.S14.T3

namespace Go.Proofs.S14.T3
open Go Go.SE
set_option maxRecDepth 100000
set_option maxHeartbeats 4000000
attribute [local irreducible] specI

theorem pseudo_con {a b n : Int} (ha : 0 ≤ a ∧ a ≤ 4294967295) (hb : 0 ≤ b ∧ b ≤ 4294967295) (hn : -9223372036854775808 ≤ n ∧ n ≤ 9223372036854775807) : CallCon Tryz.prog 184 [.one (.v (.int .u32 a)), .one (.v (.int .u32 b)), .one (.v (.int .i64 n))] [] (.t (.one (.sl 0 0 12))) [.row (ints .u8 (pseudoL a b n)) 1 5 true] := by
  refine con_of_call2 rfl ?_
  refine call_inline Tryz.func184 rfl rfl ?_
  intro _
  repeat' (first | (refine is_asked ?_; (first | (refine is_spec ?_; (refine is_op (op := .shr) ?_; (first | refine asked _ (sp_shrL 8 256 (by decide) (by rfl) (by decide)) ?_ | refine asked _ (sp_shrL 16 65536 (by decide) (by rfl) (by decide)) ?_))) | (refine is_wrap ?_; (first | refine asked _ (wrap_lohi (by simp only [lo, hi]; omega) (by simp only [lo, hi]; omega)) ?_ | refine asked _ (wrap_u8' _) ?_ | refine asked _ (wrap_u16' _) ?_)) | refine asked _ (slice_ask (by omega) (by omega) (by omega)) ?_ | refine asked _ (append_ask rfl rfl (by decide) (by decide)) ?_); intro u; clear u) | (refine is_loop ?_; refine loop_step ?_; intro u; clear u) | (refine is_yield ?_; refine yield_step rfl rfl rfl rfl ?_; intro u; clear u) | (refine is_range ?_; refine range_step rfl rfl ?_; intro u; clear u) | (refine is_call ?_; (first | refine call_inline Tryz.func202 rfl rfl ?_ | refine call_inline Tryz.func203 rfl rfl ?_ | refine call_inline Tryz.func209 rfl rfl ?_ | refine call_inline Tryz.func210 rfl rfl ?_); intro u; clear u))
  (refine con_end ?_ rfl; intro u; clear u; refine ⟨rfl, rfl, EntGoal.mk ?_ ?_⟩ <;> (repeat' (first | exact trivial | (with_reducible rfl) | apply And.intro | rfl)))
  · simp [ints, pseudoL]; omega
end Go.Proofs.S14.T3

namespace Go.Proofs.S14.T3
open Go Go.SE
set_option maxRecDepth 100000
set_option maxHeartbeats 4000000
attribute [local irreducible] specI

theorem number_con {l : List Int} (hb : ∀ x ∈ l, 0 ≤ x ∧ x ≤ 255) (hl : 2 ≤ l.length ∧ l.length ≤ 1000000) : CallCon Tryz.prog 159 [.one (.sl 0 0 l.length)] [.row (ints .u8 l) 1 5 false] (.t (.one (.v (.int .u16 (l.getD 0 0 * 256 + l.getD 1 0))))) [] := by
  have hx := getD_bd hb (by decide) 0
  have hy := getD_bd hb (by decide) 1
  refine con_of_call2 rfl ?_
  refine call_inline Tryz.func159 rfl rfl ?_
  intro _
  repeat' (first | (refine is_asked ?_; (first | (refine is_spec ?_; (first | (refine is_op (op := .shl) ?_; refine asked _ (sp_shlL 8 256 (by decide) (by rfl) (by decide) (by simp only [lo, hi]; omega) (by simp only [lo, hi]; omega)) ?_) | (with_reducible refine asked _ (sp_or 8 (by omega) (by simp only [lo, hi]; omega) (by omega) (by omega) (by omega) (by simp only [lo, hi]; omega)) ?_))) | (refine is_wrap ?_; refine asked _ (wrap_lohi (by simp only [lo, hi]; omega) (by simp only [lo, hi]; omega)) ?_) | (refine asked _ (ix_eq 0 (by omega) (by omega)) ?_) | (refine asked _ (ix_eq 1 (by omega) (by omega)) ?_) | refine asked () ⟨by omega, by omega⟩ ?_); intro u; clear u) | (refine is_draw ?_; refine draw_step mixed (by kernel_rfl) ?_; intro u; clear u))
  (refine con_end ?_ rfl; intro u; clear u; refine ⟨rfl, rfl, EntGoal.mk ?_ ?_⟩ <;> (repeat' (first | exact trivial | (with_reducible rfl) | apply And.intro | rfl)))
theorem refwright_con {l : List Int} {a b : Int} (ha : 0 ≤ a ∧ a ≤ 4294967295) (hc : 0 ≤ b ∧ b ≤ 4294967295) (hb : ∀ x ∈ l, 0 ≤ x ∧ x ≤ 255) (hl : l.length ≤ 100000) : CallCon Tryz.prog 67 [.one (.v (.int .u32 a)), .one (.v (.int .u32 b)), .one (.sl 0 0 l.length)] [.row (ints .u8 l) 1 5 false] (.t (.one (.b (sumW (pseudoL a b l.length ++ l) = 65535)))) [] := by
  refine con_of_call2 rfl ?_
  refine call_inline Tryz.func67 rfl rfl ?_
  intro _
  have hv : List.take (l.length * (0 + 1)) (List.drop (0 * (0 + 1)) (ints .u8 l)) = ints .u8 l := by simp [← ints_length .u8 l]
  have hL : (pseudoL a b l.length ++ l).length = 12 + l.length := by simp [pseudoL]; omega
  have hB : ∀ x ∈ pseudoL a b l.length ++ l, 0 ≤ x ∧ x ≤ 255 := by
    intro x hx
    rcases List.mem_append.mp hx with h | h
    · simp only [pseudoL, List.mem_cons, List.not_mem_nil, or_false] at h
      omega
    · exact hb x h
  have hR := refright_con hB (by omega)
  rw [hL] at hR
  repeat' (first | (refine is_asked ?_; (refine asked (ints .u8 (pseudoL a b l.length ++ l)) ⟨by rw [hv, ints_append], rfl, by rw [hv]; simp [ints_length], by unfold maxLen; omega, by show _ * 1 ≤ _; omega⟩ ?_); intro u; clear u) | (refine is_call ?_; (first | refine call_auto (refpseudo_con ha hc (by omega)) (lets_rfl rfl) (by exact trivial) rfl ?_ | refine call_auto (hR) (lets_rfl rfl) (by exact ⟨⟨_, rfl, rfl, rfl⟩, trivial⟩) rfl ?_); intro u; clear u))
  (refine con_end ?_ rfl; intro u; clear u; refine ⟨rfl, rfl, EntGoal.mk ?_ ?_⟩ <;> (repeat' (first | exact trivial | (with_reducible rfl) | apply And.intro | rfl)))
end Go.Proofs.S14.T3

namespace Go.Proofs.S14.T3
open Go Go.SE
set_option maxRecDepth 100000
set_option maxHeartbeats 4000000
attribute [local irreducible] specI

theorem pseudo_len {a b n : Int} : (pseudoL a b n).length = 12 := rfl
theorem pseudo_bytes (a b n : Int) : ∀ x ∈ pseudoL a b n, 0 ≤ x ∧ x ≤ 255 := by
  intro x h
  simp only [pseudoL, List.mem_cons, List.not_mem_nil, or_false] at h
  omega

theorem whole_con {l : List Int} {a b : Int} (ha : 0 ≤ a ∧ a ≤ 4294967295) (hc : 0 ≤ b ∧ b ≤ 4294967295) (hb : ∀ x ∈ l, 0 ≤ x ∧ x ≤ 255) (hl : l.length ≤ 100000) : CallCon Tryz.prog 158 [.one (.v (.int .u32 a)), .one (.v (.int .u32 b)), .one (.sl 0 0 l.length)] [.row (ints .u8 l) 1 5 false] (.t (.one (.sl 0 0 (12 + l.length)))) [.row (ints .u8 (pseudoL a b l.length ++ l)) 1 5 true] := by
  refine con_of_call2 rfl ?_
  refine call_inline Tryz.func158 rfl rfl ?_
  intro _
  have hv : List.take (l.length * (0 + 1)) (List.drop (0 * (0 + 1)) (ints .u8 l)) = ints .u8 l := by simp [← ints_length .u8 l]
  repeat' (first | (refine is_asked ?_; (refine asked (ints .u8 (pseudoL a b l.length ++ l)) ⟨by rw [hv, ints_append], rfl, by rw [hv]; simp [ints_length], by unfold maxLen; omega, by show _ * 1 ≤ _; omega⟩ ?_); intro u; clear u) | (refine is_call ?_; refine call_auto (pseudo_con ha hc (by omega)) (lets_rfl rfl) (by exact trivial) rfl ?_; intro u; clear u))
  (refine con_end ?_ rfl; intro u; clear u; refine ⟨rfl, rfl, EntGoal.mk ?_ ?_⟩ <;> (repeat' (first | exact trivial | (with_reducible rfl) | apply And.intro | rfl)))

theorem ints_take (k : IntKind) (n : Nat) (l : List Int) : (ints k l).take n = ints k (l.take n) := by
  induction l generalizing n with
  | nil => simp [ints]
  | cons x l ih => cases n with
    | zero => simp [ints]
    | succ n => simp [ints, ih]
theorem ints_drop (k : IntKind) (n : Nat) (l : List Int) : (ints k l).drop n = ints k (l.drop n) := by
  induction l generalizing n with
  | nil => simp [ints]
  | cons x l ih => cases n with
    | zero => simp [ints]
    | succ n => simp [ints, ih]
theorem ints_view {k : IntKind} {off n : Nat} {l : List Int} (h : off + n = l.length) : List.take (n * (0 + 1)) (List.drop (off * (0 + 1)) (ints k l)) = ints k (l.drop off) := by
  rw [Nat.zero_add, Nat.mul_one, Nat.mul_one, ints_drop, ints_take, List.take_of_length_le (by simp; omega)]

theorem clone_con {l : List Int} {off n : Nat} (ho : off + n = l.length) (hne : l ≠ []) (hb : ∀ x ∈ l, 0 ≤ x ∧ x ≤ 255) (hl : l.length ≤ 100000) : CallCon Tryz.prog 52 [.one (.sl 0 off n)] [.row (ints .u8 l) 1 5 false] (.t (.one (.sl 0 0 n))) [.row (ints .u8 (l.drop off)) 1 5 true] := by
  have hx : ints IntKind.u8 l ≠ [] := by cases l with
    | nil => exact absurd rfl hne
    | cons x l => simp [ints]
  refine con_of_call2 rfl ?_
  refine call_inline Tryz.func52 rfl rfl ?_
  intro _
  repeat' (refine is_asked ?_; (first | (refine asked () (.inr hx) ?_) | (refine asked (ints .u8 (l.drop off)) ⟨by rw [ints_view ho]; rfl, rfl, by rw [ints_view ho, ints_length, List.length_drop]; show _ = _ * 1; omega, by unfold maxLen; omega, by show _ * 1 ≤ _; omega⟩ ?_)); intro u; clear u)
  (refine con_end ?_ rfl; intro u; clear u; refine ⟨rfl, rfl, EntGoal.mk ?_ ?_⟩ <;> (repeat' (first | exact trivial | (with_reducible rfl) | apply And.intro | rfl)))
  all_goals omega

theorem number2_con {l : List Int} {off n : Nat} (ho : off + n = l.length) (hn : 2 ≤ n) (hb : ∀ x ∈ l, 0 ≤ x ∧ x ≤ 255) (hl : l.length ≤ 1000000) : CallCon Tryz.prog 159 [.one (.sl 0 off n)] [.row (ints .u8 l) 1 5 false] (.t (.one (.v (.int .u16 (l.getD off 0 * 256 + l.getD (off + 1) 0))))) [] := by
  have hx := getD_bd hb (by decide) off
  have hy := getD_bd hb (by decide) (off + 1)
  refine con_of_call2 rfl ?_
  refine call_inline Tryz.func159 rfl rfl ?_
  intro _
  repeat' (first | (refine is_asked ?_; (first | (refine is_spec ?_; (first | (refine is_op (op := .shl) ?_; refine asked _ (sp_shlL 8 256 (by decide) (by rfl) (by decide) (by simp only [lo, hi]; omega) (by simp only [lo, hi]; omega)) ?_) | (with_reducible refine asked _ (sp_or 8 (by omega) (by simp only [lo, hi]; omega) (by omega) (by omega) (by omega) (by simp only [lo, hi]; omega)) ?_))) | (refine is_wrap ?_; refine asked _ (wrap_lohi (by simp only [lo, hi]; omega) (by simp only [lo, hi]; omega)) ?_) | (refine asked _ (ix_eq off (by omega) (by omega)) ?_) | (refine asked _ (ix_eq (off + 1) (by omega) (by omega)) ?_) | refine asked () ⟨by omega, by omega⟩ ?_); intro u; clear u) | (refine is_draw ?_; refine draw_step mixed (by kernel_rfl) ?_; intro u; clear u))
  (refine con_end ?_ rfl; intro u; clear u; refine ⟨rfl, rfl, EntGoal.mk ?_ ?_⟩ <;> (repeat' (first | exact trivial | (with_reducible rfl) | apply And.intro | rfl)))
end Go.Proofs.S14.T3
