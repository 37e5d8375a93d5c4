/- Contracts of functions of the program, or a row of the seat, proved out of them. No condition beyond those that stand in each statement. -/
import Derived.Test.YtlefpinmgabmfaaGreatSeD
import Derived.KernelRfl
import Derived.Test.YtlefpinmgabmfaaGreatProg
namespace Go.Proofs.S14.I2
open Go Go.SE
set_option maxRecDepth 100000
set_option maxHeartbeats 4000000
attribute [local irreducible] specI
theorem mixed : Tryz.prog.follows .mixedOrders = true := by kernel_rfl

/-- Ones' complement: what a sum comes to when what is above 16 bits is brought round. -/
def fold (n : Int) : Int := if n = 0 then 0 else (n - 1) % 65535 + 1

def total : List Int → Int
  | [] => 0
  | x :: l => x + total l

theorem total_append : ∀ (l r : List Int), total (l ++ r) = total l + total r
  | [], r => by simp [total]
  | x :: l, r => by simp only [List.cons_append, total, total_append l r]; omega
theorem take_succ_getD (l : List Int) (k : Nat) (h : k < l.length) : l.take (k + 1) = l.take k ++ [l.getD k 0] := by
  rw [List.take_succ_eq_append_getElem h]
  simp [List.getD_eq_getElem?_getD, List.getElem?_eq_getElem h]
theorem getD_bd {l : List Int} {a b : Int} (hb : ∀ x ∈ l, a ≤ x ∧ x ≤ b) (h0 : a ≤ 0 ∧ 0 ≤ b) (k : Nat) : a ≤ l.getD k 0 ∧ l.getD k 0 ≤ b := by
  rw [List.getD_eq_getElem?_getD]
  cases h : l[k]? with
  | none => simpa using h0
  | some x => exact hb x (List.mem_of_getElem? h)
theorem total_bd {l : List Int} {b : Int} (hb : ∀ x ∈ l, 0 ≤ x ∧ x ≤ b) : 0 ≤ total l := by
  induction l with
  | nil => exact Int.le_refl _
  | cons x l ih =>
    have h1 := hb x (by simp)
    have h2 := ih fun y hy => hb y (by simp [hy])
    simp only [total]; omega
theorem fold_bd {n : Int} (h : 0 ≤ n) : 0 ≤ fold n ∧ fold n ≤ 65535 := by unfold fold; split <;> omega
theorem fold_add {n x : Int} (h : 0 ≤ n) (hx : 0 ≤ x) (hx2 : x ≤ 65535) : fold (n + x) = if fold n + x > 65535 then fold n + x - 65535 else fold n + x := by
  unfold fold; split <;> split <;> split <;> omega

theorem fold_con {l : List Int} (hb : ∀ x ∈ l, 0 ≤ x ∧ x ≤ 65535) (hl : l.length ≤ 1000000) : CallCon Tryz.prog 182 [.one (.sl 0 0 l.length)] [.row (ints .u16 l) 1 35 false] (.t (.one (.v (.int .u16 (fold (total l)))))) [] := by
  refine con_of_call2 rfl ?_
  refine call_inline Tryz.func182 rfl rfl ?_
  intro _
  refine loop_ind (fun k : Nat => l.length - k) (fun k => k ≤ l.length) (fun k => [(3, .t (.one (.v (.int .i64 (fold (total (l.take k))))))), (4, .t (.one (.v (.int .i64 k))))]) (fun _ => []) (fun _ => []) [] 0 0 (Nat.zero_le _) ?_ ?_
  · (intro u; clear u; refine ⟨rfl, rfl, EntGoal.mk ?_ ?_⟩ <;> (repeat' (first | exact trivial | (with_reducible rfl) | apply And.intro | rfl)))
  · intro k hk u
    clear u
    have hx := getD_bd hb (by decide) k
    have ht : 0 ≤ total (l.take k) := total_bd fun x hx => hb x (List.mem_of_mem_take hx)
    have hf := fold_bd ht
    repeat' (first | (refine is_split ?_; refine sp_dec (fun g => ?_) (fun g => ?_) <;> (intro u; clear u)) | (refine is_asked ?_; (first | (refine is_spec ?_; (first | (with_reducible refine asked _ (sp_add (by simp only [lo, hi]; omega) (by simp only [lo, hi]; omega)) ?_) | (with_reducible refine asked _ (sp_sub (by simp only [lo, hi]; omega) (by simp only [lo, hi]; omega)) ?_))) | (refine is_wrap ?_; refine asked _ (wrap_lohi (by simp only [lo, hi]; omega) (by simp only [lo, hi]; omega)) ?_) | refine asked () ⟨by omega, by omega⟩ ?_ | refine asked _ (ix_ints (by omega)) ?_); intro u; clear u))
    · have hs := fold_add ht hx.1 hx.2
      rw [if_pos (by omega)] at hs
      refine again (k + 1) (by omega) (by omega) ?_
      (intro u; clear u; refine ⟨rfl, rfl, EntGoal.mk ?_ ?_⟩ <;> (repeat' (first | exact trivial | (with_reducible rfl) | apply And.intro | rfl)))
      show _ = fold (total (l.take (k + 1)))
      rw [take_succ_getD l k (by omega), total_append]
      simpa [total] using hs.symm
    · have hs := fold_add ht hx.1 hx.2
      rw [if_neg (by omega)] at hs
      refine again (k + 1) (by omega) (by omega) ?_
      (intro u; clear u; refine ⟨rfl, rfl, EntGoal.mk ?_ ?_⟩ <;> (repeat' (first | exact trivial | (with_reducible rfl) | apply And.intro | rfl)))
      show _ = fold (total (l.take (k + 1)))
      rw [take_succ_getD l k (by omega), total_append]
      simpa [total] using hs.symm
    · (refine con_end ?_ rfl; intro u; clear u; refine ⟨rfl, rfl, EntGoal.mk ?_ ?_⟩ <;> (repeat' (first | exact trivial | (with_reducible rfl) | apply And.intro | rfl)))
      rw [List.take_of_length_le (by omega)]
end Go.Proofs.S14.I2

namespace Go.Proofs.S14.I2
open Go Go.SE
set_option maxRecDepth 100000
set_option maxHeartbeats 4000000
attribute [local irreducible] specI

def words : List Int → List Int
  | a :: b :: r => (a * 256 + b) :: words r
  | [a] => [a * 256]
  | [] => []

theorem words_append : ∀ (A B : List Int), A.length % 2 = 0 → words (A ++ B) = words A ++ words B
  | [], B, _ => rfl
  | [a], B, h => by simp at h
  | a :: b :: r, B, h => by
    simp only [List.cons_append, words]
    rw [words_append r B (by simp at h; omega)]
theorem words_two {l : List Int} {k : Nat} (hk : k % 2 = 0) (h : k + 1 < l.length) : words (l.take (k + 2)) = words (l.take k) ++ [l.getD k 0 * 256 + l.getD (k + 1) 0] := by
  rw [take_succ_getD l (k + 1) h, take_succ_getD l k (by omega), List.append_assoc, words_append _ _ (by simp; omega)]
  rfl
theorem words_last {l : List Int} {k : Nat} (hk : k % 2 = 0) (h : k + 1 = l.length) : words l = words (l.take k) ++ [l.getD k 0 * 256] := by
  have e : l = l.take k ++ [l.getD k 0] := by
    rw [← take_succ_getD l k (by omega), List.take_of_length_le (by omega)]
  have := congrArg words e
  rw [words_append _ _ (by simp; omega)] at this
  exact this
theorem words_bd : ∀ {l : List Int}, (∀ x ∈ l, 0 ≤ x ∧ x ≤ 255) → (∀ x ∈ words l, 0 ≤ x ∧ x ≤ 65535) ∧ total (words l) ≤ 65535 * l.length
  | [], _ => ⟨by simp [words], by simp [words, total]⟩
  | [a], h => by
    have h1 := h a (by simp)
    exact ⟨by simp [words]; omega, by simp [words, total]; omega⟩
  | a :: b :: r, h => by
    have h1 := h a (by simp)
    have h2 := h b (by simp)
    obtain ⟨h3, h4⟩ := words_bd (l := r) fun x hx => h x (by simp [hx])
    refine ⟨fun x hx => ?_, ?_⟩
    · simp only [words, List.mem_cons] at hx
      rcases hx with rfl | hx
      · omega
      · exact h3 x hx
    · simp only [words, total, List.length_cons]; omega

theorem carried_con {n : Int} (h0 : 0 ≤ n) (h1 : n ≤ 1099511627775) : CallCon Tryz.prog 206 [.one (.v (.int .u64 n))] [] (.t (.one (.v (.int .u16 (fold n))))) [] := by
  refine con_of_call2 rfl ?_
  refine call_inline Tryz.func206 rfl rfl ?_
  intro _
  repeat' (first | (refine is_split ?_; (first | refine sp_no (by exact ndec_f (by omega)) ?_ | refine sp_ndec (fun g => ?_) (fun g => ?_)) <;> (intro u; clear u)) | (refine is_asked ?_; (first | (refine is_spec ?_; (first | (with_reducible refine asked _ (sp_add (by simp only [lo, hi]; omega) (by simp only [lo, hi]; omega)) ?_) | (refine is_op (op := .shr) ?_; refine asked _ (sp_shrL 16 65536 (by decide) (by rfl) (by decide)) ?_) | (with_reducible refine asked _ (sp_maskL 16 65536 (by decide) (by decide) (by decide) (by simp only [lo, hi]; omega)) ?_))) | (refine is_wrap ?_; refine asked _ (wrap_lohi (by simp only [lo, hi]; omega) (by simp only [lo, hi]; omega)) ?_)); intro u; clear u) | (refine is_scope ?_; refine scope_step ?_; intro u; clear u))
  all_goals (refine con_end ?_ rfl; intro u; clear u; refine ⟨rfl, rfl, EntGoal.mk ?_ ?_⟩ <;> (repeat' (first | exact trivial | (with_reducible rfl) | apply And.intro | rfl)))
  all_goals (unfold fold; split <;> omega)

theorem sum_con {l : List Int} (hb : ∀ x ∈ l, 0 ≤ x ∧ x ≤ 255) (hl : l.length ≤ 1000000) : CallCon Tryz.prog 188 [.one (.sl 0 0 l.length)] [.row (ints .u8 l) 1 5 false] (.t (.one (.v (.int .u16 (fold (total (words l))))))) [] := by
  refine con_of_call2 rfl ?_
  refine call_inline Tryz.func188 rfl rfl ?_
  intro _
  repeat' (first | (refine is_range ?_; refine range_step rfl rfl ?_; intro u; clear u) | (refine is_call ?_; (first | refine call_inline Tryz.func205 rfl rfl ?_ | refine call_inline Tryz.func211 rfl rfl ?_); intro u; clear u))
  refine loop_ind (fun k : Nat => l.length - k) (fun k => k ≤ l.length ∧ k % 2 = 0) (fun _ => []) (fun k => [(1, .box [.v (.int .u64 (total (words (l.take k))))] 1 129), (2, .box [.sl 0 k (l.length - k)] 1 29)]) (fun _ => [(4, [])]) [] 0 0 ⟨Nat.zero_le _, rfl⟩ ?_ ?_
  · (intro u; clear u; refine ⟨rfl, rfl, EntGoal.mk ?_ ?_⟩ <;> (repeat' (first | exact trivial | (with_reducible rfl) | apply And.intro | rfl)))
  · intro k hk u
    clear u
    have hbt : ∀ x ∈ l.take k, 0 ≤ x ∧ x ≤ 255 := fun x hx => hb x (List.mem_of_mem_take hx)
    have ht : 0 ≤ total (words (l.take k)) := total_bd (words_bd hbt).1
    have ht2 : total (words (l.take k)) ≤ 65535 * 1000000 := by
      have := (words_bd hbt).2
      have h3 : (l.take k).length ≤ 1000000 := by simp; omega
      omega
    clear hbt
    have hx := getD_bd hb (by decide) k
    have hy := getD_bd hb (by decide) (k + 1)
    repeat' (first | (refine is_draw ?_; refine bar_start mixed ?_; refine rest_bar 11 (by kernel_rfl) rfl (by rfl) (by kernel_rfl) ?_; intro u; clear u) | (refine is_split ?_; refine sp_dec (fun g => ?_) (fun g => ?_) <;> (intro u; clear u)) | (refine is_asked ?_; (first | (refine is_spec ?_; (first | (with_reducible refine asked _ (sp_add (by simp only [lo, hi]; omega) (by simp only [lo, hi]; omega)) ?_) | (refine is_op (op := .shl) ?_; refine asked _ (sp_shlL 8 256 (by decide) (by rfl) (by decide) (by simp only [lo, hi]; omega) (by simp only [lo, hi]; omega)) ?_) | (with_reducible refine asked _ (sp_or 8 (by omega) (by simp only [lo, hi]; omega) (by omega) (by omega) (by omega) (by simp only [lo, hi]; omega)) ?_))) | (refine is_wrap ?_; refine asked _ (wrap_lohi (by simp only [lo, hi]; omega) (by simp only [lo, hi]; omega)) ?_) | (refine asked _ (ix_eq k (by omega) (by omega)) ?_) | (refine asked _ (ix_eq (k + 1) (by omega) (by omega)) ?_) | refine asked _ (slice_ask (by omega) (by omega) (by omega)) ?_ | refine asked () ⟨by omega, by omega⟩ ?_); intro u; clear u) | (refine is_yield ?_; refine yield_step rfl rfl rfl rfl ?_; intro u; clear u) | (refine is_rest ?_; refine rest_dr (by kernel_rfl) (by rfl) ?_; intro u; clear u) | (refine is_call ?_; refine call_auto (carried_con (by omega) (by omega)) (lets_rfl rfl) (by exact trivial) rfl ?_; intro u; clear u))
    · refine again (k + 2) ⟨by omega, by omega⟩ (by omega) ?_
      (intro u; clear u; refine ⟨rfl, rfl, EntGoal.mk ?_ ?_⟩ <;> (repeat' (first | exact trivial | (with_reducible rfl) | apply And.intro | rfl)))
      all_goals (rw [words_two hk.2 (by omega), total_append]; simp [total]; try omega)
    · (refine con_end ?_ rfl; intro u; clear u; refine ⟨rfl, rfl, EntGoal.mk ?_ ?_⟩ <;> (repeat' (first | exact trivial | (with_reducible rfl) | apply And.intro | rfl)))
      have hw : total (words l) = total (words (l.take k)) + l.getD k 0 * 256 := by
        have h5 := congrArg total (words_last (l := l) hk.2 (by omega))
        rw [h5, total_append]
        simp [total]
      rw [hw]
    · (refine con_end ?_ rfl; intro u; clear u; refine ⟨rfl, rfl, EntGoal.mk ?_ ?_⟩ <;> (repeat' (first | exact trivial | (with_reducible rfl) | apply And.intro | rfl)))
      rw [List.take_of_length_le (by omega)]
end Go.Proofs.S14.I2

namespace Go.Proofs.S14.I2
open Go Go.SE
set_option maxRecDepth 100000
set_option maxHeartbeats 4000000
attribute [local irreducible] specI

theorem words_len_le : ∀ (l : List Int), (words l).length ≤ l.length
  | [] => Nat.le_refl _
  | [_] => Nat.le_refl _
  | _ :: _ :: r => by have := words_len_le r; simp only [words, List.length_cons]; omega
theorem ints_append' (k : IntKind) : ∀ (A B : List Int), ints k (A ++ B) = ints k A ++ ints k B
  | [], _ => rfl
  | x :: A, B => by simp only [List.cons_append, ints, ints_append' k A B]

theorem words_con {l : List Int} (hb : ∀ x ∈ l, 0 ≤ x ∧ x ≤ 255) (hl : l.length ≤ 1000000) : CallCon Tryz.prog 183 [.one (.sl 0 0 l.length)] [.row (ints .u8 l) 1 5 false] (.t (.one (.sl 0 0 (words l).length))) [.row (ints .u16 (words l)) 1 35 true] := by
  refine con_of_call2 rfl ?_
  refine call_inline Tryz.func183 rfl rfl ?_
  intro _
  refine loop_ind (fun k : Nat => l.length - k) (fun k => k % 2 = 0) (fun k => [(3, .t (.one (.sl 1 0 (words (l.take k)).length))), (4, .t (.one (.v (.int .i64 k))))]) (fun k => [(1, .row (ints .u16 (words (l.take k))) 1 35 true)]) (fun _ => []) [] 1 0 rfl ?_ ?_
  · (intro u; clear u; refine ⟨rfl, rfl, EntGoal.mk ?_ ?_⟩ <;> (repeat' (first | exact trivial | (with_reducible rfl) | apply And.intro | rfl)))
  · intro k hk u
    clear u
    have hx := getD_bd hb (by decide) k
    have hy := getD_bd hb (by decide) (k + 1)
    have hw : (ints .u16 (words (l.take k))).length = (words (l.take k)).length := ints_length _ _
    have hw2 : (words (l.take k)).length ≤ 1000000 := by
      have h1 := words_len_le (l.take k)
      have h2 : (l.take k).length ≤ 1000000 := by simp; omega
      omega
    repeat' (first | (refine is_split ?_; refine sp_dec (fun g => ?_) (fun g => ?_) <;> (intro u; clear u)) | (refine is_asked ?_; (first | (refine is_spec ?_; (first | (with_reducible refine asked _ (sp_add (by simp only [lo, hi]; omega) (by simp only [lo, hi]; omega)) ?_) | (with_reducible refine asked _ (sp_mul (by simp only [lo, hi]; omega) (by simp only [lo, hi]; omega)) ?_))) | (refine is_wrap ?_; refine asked _ (wrap_lohi (by simp only [lo, hi]; omega) (by simp only [lo, hi]; omega)) ?_) | (refine asked _ (ix_eq k (by omega) (by omega)) ?_) | (refine asked _ (ix_eq (k + 1) (by omega) (by omega)) ?_) | (refine asked (ints .u16 (words (l.take (k + 2)))) ⟨by rw [words_two hk (by omega), ints_append', Int.mul_comm]; rfl, by show _ = _ * 1; omega, rfl, by unfold maxLen; omega, by show _ * 2 ≤ _; omega⟩ ?_) | (refine asked (ints .u16 (words (l.take (k + 2)))) ⟨by rw [List.take_of_length_le (l := l) (i := k + 2) (by omega), words_last (l := l) hk (by omega), ints_append', Int.mul_comm]; rfl, by show _ = _ * 1; omega, rfl, by unfold maxLen; omega, by show _ * 2 ≤ _; omega⟩ ?_) | refine asked () ⟨by omega, by omega⟩ ?_); intro u; clear u))
    · refine again (k + 2) (by omega) (by omega) ?_
      (intro u; clear u; refine ⟨rfl, rfl, EntGoal.mk ?_ ?_⟩ <;> (repeat' (first | exact trivial | (with_reducible rfl) | apply And.intro | rfl)))
      all_goals (rw [words_two hk (by omega)]; simp)
    · refine again (k + 2) (by omega) (by omega) ?_
      (intro u; clear u; refine ⟨rfl, rfl, EntGoal.mk ?_ ?_⟩ <;> (repeat' (first | exact trivial | (with_reducible rfl) | apply And.intro | rfl)))
      all_goals (rw [List.take_of_length_le (l := l) (i := k + 2) (by omega), words_last (l := l) hk (by omega)]; simp)
    · have h6 : l.take k = l := List.take_of_length_le (by omega)
      rw [h6]
      (refine con_end ?_ rfl; intro u; clear u; refine ⟨rfl, rfl, EntGoal.mk ?_ ?_⟩ <;> (repeat' (first | exact trivial | (with_reducible rfl) | apply And.intro | rfl)))
end Go.Proofs.S14.I2

namespace Go.Proofs.S14.I2
open Go Go.SE
set_option maxRecDepth 100000
set_option maxHeartbeats 4000000
attribute [local irreducible] specI

def sumW (l : List Int) : Int := fold (total (words l))
theorem sumW_bd {l : List Int} (hb : ∀ x ∈ l, 0 ≤ x ∧ x ≤ 255) : 0 ≤ sumW l ∧ sumW l ≤ 65535 :=
  fold_bd (total_bd (words_bd hb).1)

theorem refsum_con {l : List Int} (hb : ∀ x ∈ l, 0 ≤ x ∧ x ≤ 255) (hl : l.length ≤ 1000000) : CallCon Tryz.prog 153 [.one (.sl 0 0 l.length)] [.row (ints .u8 l) 1 5 false] (.t (.one (.v (.int .u16 (sumW l))))) [] := by
  refine con_of_call2 rfl ?_
  refine call_inline Tryz.func153 rfl rfl ?_
  intro _
  repeat' (refine is_call ?_; (first | refine call_auto (words_con hb hl) (lets_rfl rfl) (by exact ⟨⟨_, rfl, rfl, rfl⟩, trivial⟩) rfl ?_ | refine call_auto (fold_con (words_bd hb).1 (Nat.le_trans (words_len_le l) hl)) (lets_rfl rfl) (by exact ⟨⟨_, rfl, rfl, rfl⟩, trivial⟩) rfl ?_); intro u; clear u)
  all_goals (refine con_end ?_ rfl; intro u; clear u; refine ⟨rfl, rfl, EntGoal.mk ?_ ?_⟩ <;> (repeat' (first | exact trivial | (with_reducible rfl) | apply And.intro | rfl)))
theorem refcheck_con {l : List Int} (hb : ∀ x ∈ l, 0 ≤ x ∧ x ≤ 255) (hl : l.length ≤ 1000000) : CallCon Tryz.prog 110 [.one (.sl 0 0 l.length)] [.row (ints .u8 l) 1 5 false] (.t (.one (.v (.int .u16 (65535 - sumW l))))) [] := by
  have hs := sumW_bd hb
  refine con_of_call2 rfl ?_
  refine call_inline Tryz.func110 rfl rfl ?_
  intro _
  repeat' (first | (refine is_asked ?_; (refine is_spec ?_; (with_reducible refine asked _ (sp_sub (by simp only [lo, hi]; omega) (by simp only [lo, hi]; omega)) ?_)); intro u; clear u) | (refine is_call ?_; refine call_auto (refsum_con hb hl) (lets_rfl rfl) (by exact ⟨⟨_, rfl, rfl, rfl⟩, trivial⟩) rfl ?_; intro u; clear u))
  all_goals (refine con_end ?_ rfl; intro u; clear u; refine ⟨rfl, rfl, EntGoal.mk ?_ ?_⟩ <;> (repeat' (first | exact trivial | (with_reducible rfl) | apply And.intro | rfl)))
theorem refright_con {l : List Int} (hb : ∀ x ∈ l, 0 ≤ x ∧ x ≤ 255) (hl : l.length ≤ 1000000) : CallCon Tryz.prog 130 [.one (.sl 0 0 l.length)] [.row (ints .u8 l) 1 5 false] (.t (.one (.b (sumW l = 65535)))) [] := by
  have hs := sumW_bd hb
  refine con_of_call2 rfl ?_
  refine call_inline Tryz.func130 rfl rfl ?_
  intro _
  repeat' (refine is_call ?_; refine call_auto (refsum_con hb hl) (lets_rfl rfl) (by exact ⟨⟨_, rfl, rfl, rfl⟩, trivial⟩) rfl ?_; intro u; clear u)
  all_goals (refine con_end ?_ rfl; intro u; clear u; refine ⟨rfl, rfl, EntGoal.mk ?_ ?_⟩ <;> (repeat' (first | exact trivial | (with_reducible rfl) | apply And.intro | rfl)))
theorem xor_all {x : Int} (h0 : 0 ≤ x) (h1 : x ≤ 65535) : ((BitVec.ofInt IntKind.u16.bits (if IntKind.u16.signed = true then -1 else IntKind.u16.max) ^^^ BitVec.ofInt IntKind.u16.bits x).toNat : Int) % 65536 = 65535 - x := by
  have e : (BitVec.ofInt IntKind.u16.bits (if IntKind.u16.signed = true then -1 else IntKind.u16.max)) = BitVec.allOnes 16 := by rfl
  rw [e]
  have e2 : (BitVec.allOnes 16 ^^^ BitVec.ofInt 16 x) = ~~~ (BitVec.ofInt 16 x) := by
    rw [BitVec.allOnes_xor]
  show (((BitVec.allOnes 16 ^^^ BitVec.ofInt 16 x)).toNat : Int) % 65536 = _
  rw [e2, BitVec.toNat_not, BitVec.toNat_ofInt]
  omega
theorem check_con {l : List Int} (hb : ∀ x ∈ l, 0 ≤ x ∧ x ≤ 255) (hl : l.length ≤ 1000000) : CallCon Tryz.prog 168 [.one (.sl 0 0 l.length)] [.row (ints .u8 l) 1 5 false] (.t (.one (.v (.int .u16 (65535 - sumW l))))) [] := by
  have hs := sumW_bd hb
  have hc : CallCon Tryz.prog 188 [.one (.sl 0 0 l.length)] [.row (ints .u8 l) 1 5 false] (.t (.one (.v (.int .u16 (sumW l))))) [] := sum_con hb hl
  refine con_of_call2 rfl ?_
  refine call_inline Tryz.func168 rfl rfl ?_
  intro _
  repeat' (first | (refine is_asked ?_; (refine is_wrap ?_; refine asked _ (wrap_u16' _) ?_); intro u; clear u) | (refine is_call ?_; refine call_auto (hc) (lets_rfl rfl) (by exact ⟨⟨_, rfl, rfl, rfl⟩, trivial⟩) rfl ?_; intro u; clear u))
  all_goals (refine con_end ?_ rfl; intro u; clear u; refine ⟨rfl, rfl, EntGoal.mk ?_ ?_⟩ <;> (repeat' (first | exact trivial | (with_reducible rfl) | apply And.intro | rfl)))
  all_goals exact xor_all hs.1 hs.2
end Go.Proofs.S14.I2

namespace Go.Proofs.S14.I2
open Go Go.SE
set_option maxRecDepth 100000
set_option maxHeartbeats 4000000

theorem ints_take (k : IntKind) (n : Nat) (l : List Int) : (ints k l).take n = ints k (l.take n) := by
  induction l generalizing n with
  | nil => simp [ints]
  | cons x l ih => cases n with
    | zero => simp [ints]
    | succ n => simp [ints, ih]
theorem ints_drop (k : IntKind) (n : Nat) (l : List Int) : (ints k l).drop n = ints k (l.drop n) := by
  induction l generalizing n with
  | nil => simp [ints]
  | cons x l ih => cases n with
    | zero => simp [ints]
    | succ n => simp [ints, ih]
theorem ints_view (k : IntKind) (off n : Nat) (l : List Int) : List.take (n * (0 + 1)) (List.drop (off * (0 + 1)) (ints k l)) = ints k ((l.drop off).take n) := by
  rw [Nat.zero_add, Nat.mul_one, Nat.mul_one, ints_drop, ints_take]
theorem ints_all (k : IntKind) (l : List Int) : List.take (l.length * (0 + 1)) (List.drop (0 * (0 + 1)) (ints k l)) = ints k l := by
  rw [ints_view]; simp
theorem setVals_set (k : IntKind) : ∀ (l : List Int) (i : Nat) (x : Int), i < l.length → setVals (ints k l) i [.int k x] = ints k (l.set i x)
  | [], _, _, h => by simp at h
  | y :: l, 0, x, _ => by show .int k x :: setVals (ints k l) 0 [] = _; rw [setVals_nil]; rfl
  | y :: l, i + 1, x, h => by
    show .int k y :: setVals (ints k l) i [.int k x] = _
    rw [setVals_set k l i x (by simpa using h)]; rfl
theorem zerosV_ints : ∀ n : Nat, zerosV [.int .u8 0] n = ints .u8 (List.replicate n 0)
  | 0 => rfl
  | n + 1 => by show _ :: zerosV _ n = _; rw [zerosV_ints n]; rfl
theorem mem_set {l : List Int} {i : Nat} {x : Int} (hb : ∀ x ∈ l, 0 ≤ x ∧ x ≤ 255) (hx : 0 ≤ x ∧ x ≤ 255) : ∀ y ∈ l.set i x, 0 ≤ y ∧ y ≤ 255 := by
  intro y hy
  rcases List.mem_or_eq_of_mem_set hy with h | h
  · exact hb y h
  · rw [h]; exact hx

attribute [local irreducible] specI

theorem word_con {l : List Int} {off n : Nat} (ho : off + n ≤ l.length) (hn : 2 ≤ n) (hb : ∀ x ∈ l, 0 ≤ x ∧ x ≤ 255) : CallCon Tryz.prog 155 [.one (.sl 0 off n)] [.row (ints .u8 l) 1 5 false] (.t (.one (.v (.int .u16 (l.getD off 0 * 256 + l.getD (off + 1) 0))))) [] := by
  have hx := getD_bd hb (by decide) off
  have hy := getD_bd hb (by decide) (off + 1)
  refine con_of_call2 rfl ?_
  refine call_inline Tryz.func155 rfl rfl ?_
  intro _
  repeat' (first | (refine is_asked ?_; (first | (refine is_spec ?_; (first | (refine is_op (op := .shl) ?_; refine asked _ (sp_shlL 8 256 (by decide) (by rfl) (by decide) (by simp only [lo, hi]; omega) (by simp only [lo, hi]; omega)) ?_) | (with_reducible refine asked _ (sp_or 8 (by omega) (by simp only [lo, hi]; omega) (by omega) (by omega) (by omega) (by simp only [lo, hi]; omega)) ?_))) | (refine is_wrap ?_; refine asked _ (wrap_lohi (by simp only [lo, hi]; omega) (by simp only [lo, hi]; omega)) ?_) | (refine asked _ (ix_eq off (by omega) (by omega)) ?_) | (refine asked _ (ix_eq (off + 1) (by omega) (by omega)) ?_) | refine asked () ⟨by omega, by omega⟩ ?_); intro u; clear u) | (refine is_draw ?_; refine draw_step mixed (by kernel_rfl) ?_; intro u; clear u))
  (refine con_end ?_ rfl; intro u; clear u; refine ⟨rfl, rfl, EntGoal.mk ?_ ?_⟩ <;> (repeat' (first | exact trivial | (with_reducible rfl) | apply And.intro | rfl)))

theorem clone_con {l : List Int} {off n : Nat} (ho : off + n ≤ l.length) (hne : l ≠ []) (hl : l.length ≤ 100000) : CallCon Tryz.prog 52 [.one (.sl 0 off n)] [.row (ints .u8 l) 1 5 false] (.t (.one (.sl 0 0 n))) [.row (ints .u8 ((l.drop off).take n)) 1 5 true] := by
  have hx : ints IntKind.u8 l ≠ [] := by cases l with
    | nil => exact absurd rfl hne
    | cons x l => simp [ints]
  refine con_of_call2 rfl ?_
  refine call_inline Tryz.func52 rfl rfl ?_
  intro _
  repeat' (refine is_asked ?_; (first | (refine asked () (.inr hx) ?_) | (refine asked (ints .u8 ((l.drop off).take n)) ⟨by rw [ints_view]; rfl, rfl, by rw [ints_view, ints_length, List.length_take, List.length_drop]; show _ = _ * 1; omega, by unfold maxLen; omega, by show _ * 1 ≤ _; omega⟩ ?_)); intro u; clear u)
  (refine con_end ?_ rfl; intro u; clear u; refine ⟨rfl, rfl, EntGoal.mk ?_ ?_⟩ <;> (repeat' (first | exact trivial | (with_reducible rfl) | apply And.intro | rfl)))
  all_goals omega
theorem clone_nil : CallCon Tryz.prog 52 [.one (.v (.slice none 0 0))] [] (.t (.one (.sl 0 0 0))) [.row (ints .u8 []) 1 5 true] := by
  refine con_of_call2 rfl ?_
  refine call_inline Tryz.func52 rfl rfl ?_
  intro _
  repeat' fail
  (refine con_end ?_ rfl; intro u; clear u; refine ⟨rfl, rfl, EntGoal.mk ?_ ?_⟩ <;> (repeat' (first | exact trivial | (with_reducible rfl) | apply And.intro | rfl)))
theorem clone_empty (a : Addr) (cap : Nat) : CallCon Tryz.prog 52 [.one (.v (.slice (some a) 0 cap))] [] (.t (.one (.sl 0 0 0))) [.row (ints .u8 []) 1 5 true] := by
  refine con_of_call2 rfl ?_
  refine call_inline Tryz.func52 rfl rfl ?_
  intro _
  repeat' (refine is_asked ?_; (refine asked [] ⟨rfl, rfl, rfl, by decide, by decide⟩ ?_); intro u; clear u)
  (refine con_end ?_ rfl; intro u; clear u; refine ⟨rfl, rfl, EntGoal.mk ?_ ?_⟩ <;> (repeat' (first | exact trivial | (with_reducible rfl) | apply And.intro | rfl)))
theorem clone_all {l : List Int} (hl : l.length ≤ 100000) : CallCon Tryz.prog 52 [.one (.sl 0 0 l.length)] [.row (ints .u8 l) 1 5 false] (.t (.one (.sl 0 0 l.length))) [.row (ints .u8 l) 1 5 true] := by
  by_cases h : l = []
  · subst h
    exact con_empty clone_nil clone_empty
  · have := clone_con (l := l) (off := 0) (n := l.length) (by omega) h hl
    rwa [show (l.drop 0).take l.length = l by simp] at this

theorem number2_con {l : List Int} {off : Nat} (ho : off + 2 ≤ l.length) (hb : ∀ x ∈ l, 0 ≤ x ∧ x ≤ 255) : CallCon Tryz.prog 65 [.one (.sl 0 off 2)] [.row (ints .u8 l) 1 5 false] (.t (.one (.v (.int .i64 (l.getD off 0 * 256 + l.getD (off + 1) 0))))) [] := by
  have hx := getD_bd hb (by decide) off
  have hy := getD_bd hb (by decide) (off + 1)
  refine con_of_call2 rfl ?_
  refine call_inline Tryz.func65 rfl rfl ?_
  intro _
  repeat' (first | (refine is_split ?_; (first | refine sp_yes (by rfl) ?_ | refine sp_no (by rfl) ?_) <;> (intro u; clear u)) | (refine is_asked ?_; (first | (refine is_spec ?_; (first | (with_reducible refine asked _ (sp_add (by simp only [lo, hi]; omega) (by simp only [lo, hi]; omega)) ?_) | (with_reducible refine asked _ (sp_mul (by simp only [lo, hi]; omega) (by simp only [lo, hi]; omega)) ?_))) | (refine is_wrap ?_; refine asked _ (wrap_lohi (by simp only [lo, hi]; omega) (by simp only [lo, hi]; omega)) ?_) | (refine asked _ (ix_eq off (by omega) (by omega)) ?_) | (refine asked _ (ix_eq (off + 1) (by omega) (by omega)) ?_) | refine asked () ⟨by omega, by omega⟩ ?_); intro u; clear u) | (refine is_loop ?_; refine loop_step ?_; intro u; clear u))
  (refine con_end ?_ rfl; intro u; clear u; refine ⟨rfl, rfl, EntGoal.mk ?_ ?_⟩ <;> (repeat' (first | exact trivial | (with_reducible rfl) | apply And.intro | rfl)))
  all_goals omega
theorem number4_con {l : List Int} {off : Nat} (ho : off + 4 ≤ l.length) (hb : ∀ x ∈ l, 0 ≤ x ∧ x ≤ 255) : CallCon Tryz.prog 65 [.one (.sl 0 off 4)] [.row (ints .u8 l) 1 5 false] (.t (.one (.v (.int .i64 ((l.getD off 0 * 256 + l.getD (off + 1) 0) * 65536 + (l.getD (off + 2) 0 * 256 + l.getD (off + 3) 0)))))) [] := by
  have hx := getD_bd hb (by decide) off
  have hy := getD_bd hb (by decide) (off + 1)
  have hz := getD_bd hb (by decide) (off + 2)
  have hw := getD_bd hb (by decide) (off + 3)
  refine con_of_call2 rfl ?_
  refine call_inline Tryz.func65 rfl rfl ?_
  intro _
  repeat' (first | (refine is_split ?_; (first | refine sp_yes (by rfl) ?_ | refine sp_no (by rfl) ?_) <;> (intro u; clear u)) | (refine is_asked ?_; (first | (refine is_spec ?_; (first | (with_reducible refine asked _ (sp_add (by simp only [lo, hi]; omega) (by simp only [lo, hi]; omega)) ?_) | (with_reducible refine asked _ (sp_mul (by simp only [lo, hi]; omega) (by simp only [lo, hi]; omega)) ?_))) | (refine is_wrap ?_; refine asked _ (wrap_lohi (by simp only [lo, hi]; omega) (by simp only [lo, hi]; omega)) ?_) | (refine asked _ (ix_eq off (by omega) (by omega)) ?_) | (refine asked _ (ix_eq (off + 1) (by omega) (by omega)) ?_) | (refine asked _ (ix_eq (off + 2) (by omega) (by omega)) ?_) | (refine asked _ (ix_eq (off + 3) (by omega) (by omega)) ?_) | refine asked () ⟨by omega, by omega⟩ ?_); intro u; clear u) | (refine is_loop ?_; refine loop_step ?_; intro u; clear u))
  (refine con_end ?_ rfl; intro u; clear u; refine ⟨rfl, rfl, EntGoal.mk ?_ ?_⟩ <;> (repeat' (first | exact trivial | (with_reducible rfl) | apply And.intro | rfl)))
  all_goals omega

def twoL (n : Int) : List Int := [n / 256, n % 256]
def fourL (n : Int) : List Int := [n / 65536 / 256, n / 65536 % 256, n % 65536 / 256, n % 65536 % 256]
theorem two_con {n : Int} (hn : 0 ≤ n ∧ n ≤ 65535) : CallCon Tryz.prog 113 [.one (.v (.int .i64 n))] [] (.t (.one (.sl 0 0 2))) [.row (ints .u8 (twoL n)) 1 5 true] := by
  refine con_of_call2 rfl ?_
  refine call_inline Tryz.func113 rfl rfl ?_
  intro _
  repeat' (refine is_asked ?_; (first | (refine is_spec ?_; (first | (refine is_op (op := .shr) ?_; refine asked _ (sp_shrL 8 256 (by decide) (by rfl) (by decide)) ?_) | (with_reducible refine asked _ (sp_maskL 8 256 (by decide) (by decide) (by decide) (by simp only [lo, hi]; omega)) ?_))) | (refine is_wrap ?_; refine asked _ (wrap_lohi (by simp only [lo, hi]; omega) (by simp only [lo, hi]; omega)) ?_)); intro u; clear u)
  all_goals (refine con_end ?_ rfl; intro u; clear u; refine ⟨rfl, rfl, EntGoal.mk ?_ ?_⟩ <;> (repeat' (first | exact trivial | (with_reducible rfl) | apply And.intro | rfl)))
  all_goals (simp [valsOf, ints, twoL]; omega)
theorem four_con {n : Int} (hn : 0 ≤ n ∧ n ≤ 4294967295) : CallCon Tryz.prog 115 [.one (.v (.int .u32 n))] [] (.t (.one (.sl 0 0 4))) [.row (ints .u8 (fourL n)) 1 5 true] := by
  refine con_of_call2 rfl ?_
  refine call_inline Tryz.func115 rfl rfl ?_
  intro _
  repeat' (first | (refine is_asked ?_; (first | (refine is_spec ?_; (first | (refine is_op (op := .shr) ?_; refine asked _ (sp_shrL 16 65536 (by decide) (by rfl) (by decide)) ?_) | (with_reducible refine asked _ (sp_maskL 16 65536 (by decide) (by decide) (by decide) (by simp only [lo, hi]; omega)) ?_))) | (refine is_wrap ?_; refine asked _ (wrap_lohi (by simp only [lo, hi]; omega) (by simp only [lo, hi]; omega)) ?_) | refine asked _ (append_ask rfl rfl (by decide) (by decide)) ?_); intro u; clear u) | (refine is_call ?_; (first | refine call_auto (two_con (n := n / 65536) (by omega)) (lets_rfl rfl) (by exact trivial) rfl ?_ | refine call_auto (two_con (n := n % 65536) (by omega)) (lets_rfl rfl) (by exact trivial) rfl ?_); intro u; clear u))
  all_goals (refine con_end ?_ rfl; intro u; clear u; refine ⟨rfl, rfl, EntGoal.mk ?_ ?_⟩ <;> (repeat' (first | exact trivial | (with_reducible rfl) | apply And.intro | rfl)))

def zeroK (l : List Int) : List Int := (l.set 10 0).set 11 0
theorem zeroK_bd {l : List Int} (hb : ∀ x ∈ l, 0 ≤ x ∧ x ≤ 255) : ∀ x ∈ zeroK l, 0 ≤ x ∧ x ≤ 255 := mem_set (mem_set hb (by decide)) (by decide)
theorem zeroK_len (l : List Int) : (zeroK l).length = l.length := by simp [zeroK]
end Go.Proofs.S14.I2

namespace Go.Proofs.S14.I2
open Go Go.SE
set_option maxRecDepth 100000
set_option maxHeartbeats 4000000

theorem andNot14 {x : Int} (h : 0 ≤ x ∧ x ≤ 65535) : specI .andNot .u16 x 16384 (x % 16384 + x / 32768 * 32768) := by
  have key : ∀ n : Nat, n < 65536 → (BitVec.ofNat 16 n &&& ~~~ (16384#16)).toNat = n % 16384 + n / 32768 * 32768 := by
    intro n hn
    have e : (BitVec.ofNat 16 n &&& ~~~ (16384#16)).toNat = n &&& 49151 := by
      rw [BitVec.toNat_and, BitVec.toNat_ofNat, Nat.mod_eq_of_lt hn]
      rfl
    rw [e]
    have e2 : n &&& 49151 = ((n >>> 15) &&& (2 ^ 1 - 1)) <<< 15 ||| (n &&& (2 ^ 14 - 1)) := by
      apply Nat.eq_of_testBit_eq
      intro i
      rw [show (49151 : Nat) = (2 ^ 14 - 1) ||| (2 ^ 1 - 1) <<< 15 by decide]
      simp only [Nat.testBit_and, Nat.testBit_or, Nat.testBit_shiftLeft, Nat.testBit_shiftRight, Nat.testBit_two_pow_sub_one]
      by_cases hi : 15 ≤ i
      · have : ¬ i < 14 := by omega
        rw [show 15 + (i - 15) = i by omega]
        simp [hi, this, Bool.and_comm]
      · simp [hi, Bool.and_comm]
    rw [e2, or_add (n := 15) (by rw [Nat.shiftLeft_eq]; exact Nat.mul_mod_left _ _) (by rw [Nat.and_two_pow_sub_one_eq_mod]; omega), Nat.and_two_pow_sub_one_eq_mod, Nat.and_two_pow_sub_one_eq_mod, Nat.shiftRight_eq_div_pow, Nat.shiftLeft_eq]
    omega
  unfold specI
  have e1 : (BitVec.ofInt IntKind.u16.bits x) = BitVec.ofNat 16 x.toNat := by
    obtain ⟨n, rfl⟩ := Int.eq_ofNat_of_zero_le h.1
    show BitVec.ofInt 16 (n : Int) = BitVec.ofNat 16 (n : Int).toNat
    rw [Int.toNat_natCast, BitVec.ofInt_natCast]
  have e2 : (BitVec.ofInt IntKind.u16.bits 16384) = 16384#16 := by rfl
  rw [e1, e2]
  have := key x.toNat (by omega)
  show (((BitVec.ofNat 16 x.toNat &&& ~~~ (16384#16)).toNat : Nat) : Int) % 65536 = _
  rw [this]
  omega

attribute [local irreducible] specI

structure Hd where
  service : Int
  number : Int
  flags : Int
  hops : Int
  protocol : Int
  src : Int
  dst : Int
  opts : List Int
  pay : List Int
  deriving DecidableEq

def zeroHd : Hd := ⟨0, 0, 0, 0, 0, 0, 0, [], []⟩
structure Hd.Wf0 (t : Hd) : Prop where
  service : 0 ≤ t.service ∧ t.service ≤ 255
  number : 0 ≤ t.number ∧ t.number ≤ 65535
  flags : 0 ≤ t.flags ∧ t.flags ≤ 65535
  hops : 0 ≤ t.hops ∧ t.hops ≤ 255
  protocol : 0 ≤ t.protocol ∧ t.protocol ≤ 255
  src : 0 ≤ t.src ∧ t.src ≤ 4294967295
  dst : 0 ≤ t.dst ∧ t.dst ≤ 4294967295
  opts : ∀ x ∈ t.opts, 0 ≤ x ∧ x ≤ 255
  pay : ∀ x ∈ t.pay, 0 ≤ x ∧ x ≤ 255
structure Hd.Wf (t : Hd) : Prop extends Hd.Wf0 t where
  olen : t.opts.length ≤ 4000
  plen : t.pay.length ≤ 4000
def hdT (t : Hd) (h k : Nat) : T := .agg [.v (.int .u8 t.service), .v (.int .u16 t.number), .v (.int .u16 t.flags), .v (.int .u8 t.hops), .v (.int .u8 t.protocol), .v (.int .u32 t.src), .v (.int .u32 t.dst), .sl h 0 t.opts.length, .sl k 0 t.pay.length]
def okHd (t : Hd) : Prop := (t.flags = 0 ∨ t.flags = 16384) ∧ t.opts.length ≤ 40 ∧ t.opts.length % 4 = 0
instance (t : Hd) : Decidable (okHd t) := by unfold okHd; infer_instance
def sizeN (t : Hd) : Int := if okHd t then 20 + t.opts.length + t.pay.length else 0

theorem hright_con {t : Hd} (h : t.Wf) : CallCon Tryz.prog 164 [hdT t 0 1] [.row (ints .u8 t.opts) 1 5 false, .row (ints .u8 t.pay) 1 5 false] (.t (.one (.b (okHd t)))) [] := by
  have h1 := h.flags
  have h2 := h.olen
  have h3 := h.plen
  refine con_of_call2 rfl ?_
  refine call_inline Tryz.func164 rfl rfl ?_
  intro _
  repeat' (first | (refine is_split ?_; refine sp_dec (fun g => ?_) (fun g => ?_) <;> (intro u; clear u)) | (refine is_asked ?_; (refine is_spec ?_; (first | (refine asked _ (andNot14 (by omega)) ?_) | (with_reducible refine asked _ (sp_add (by simp only [lo, hi]; omega) (by simp only [lo, hi]; omega)) ?_) | (with_reducible refine asked _ (sp_maskL 2 4 (by decide) (by decide) (by decide) (by simp only [lo, hi]; omega)) ?_))); intro u; clear u))
  all_goals first
    | (have hd : okHd t := by unfold okHd; omega
       rw [decide_eq_true hd]; (try rw [show decide (20 + (t.opts.length : Int) + (t.pay.length : Int) ≤ 65535) = true from decide_eq_true (by omega)]); (refine con_end ?_ rfl; intro u; clear u; refine ⟨rfl, rfl, EntGoal.mk ?_ ?_⟩ <;> (repeat' (first | exact trivial | (with_reducible rfl) | apply And.intro | rfl))); done)
    | (have hd : ¬ okHd t := by unfold okHd; omega
       rw [decide_eq_false hd]; (refine con_end ?_ rfl; intro u; clear u; refine ⟨rfl, rfl, EntGoal.mk ?_ ?_⟩ <;> (repeat' (first | exact trivial | (with_reducible rfl) | apply And.intro | rfl))); done)
    | skip
theorem hrefright_con {t : Hd} (h : t.Wf) : CallCon Tryz.prog 112 [hdT t 0 1] [.row (ints .u8 t.opts) 1 5 false, .row (ints .u8 t.pay) 1 5 false] (.t (.one (.b (okHd t)))) [] := by
  have h1 := h.flags
  have h2 := h.olen
  have h3 := h.plen
  refine con_of_call2 rfl ?_
  refine call_inline Tryz.func112 rfl rfl ?_
  intro _
  repeat' (first | (refine is_split ?_; refine sp_dec (fun g => ?_) (fun g => ?_) <;> (intro u; clear u)) | (refine is_asked ?_; (refine is_spec ?_; (first | (refine asked _ (sp_rem (by omega) (by omega)) ?_) | (with_reducible refine asked _ (sp_add (by simp only [lo, hi]; omega) (by simp only [lo, hi]; omega)) ?_))); intro u; clear u))
  all_goals first
    | (have hd : okHd t := by unfold okHd; omega
       rw [decide_eq_true hd]; (try rw [show decide (20 + (t.opts.length : Int) + (t.pay.length : Int) ≤ 65535) = true from decide_eq_true (by omega)]); (refine con_end ?_ rfl; intro u; clear u; refine ⟨rfl, rfl, EntGoal.mk ?_ ?_⟩ <;> (repeat' (first | exact trivial | (with_reducible rfl) | apply And.intro | rfl))); done)
    | (have hd : ¬ okHd t := by unfold okHd; omega
       rw [decide_eq_false hd]; (refine con_end ?_ rfl; intro u; clear u; refine ⟨rfl, rfl, EntGoal.mk ?_ ?_⟩ <;> (repeat' (first | exact trivial | (with_reducible rfl) | apply And.intro | rfl))); done)
    | skip
theorem size_con {t : Hd} (h : t.Wf) : CallCon Tryz.prog 165 [hdT t 0 1] [.row (ints .u8 t.opts) 1 5 false, .row (ints .u8 t.pay) 1 5 false] (.t (.one (.v (.int .i64 (sizeN t))))) [] := by
  have h2 := h.olen
  have h3 := h.plen
  have hr := hright_con h
  unfold sizeN
  by_cases hok : okHd t
  · have hr2 := con_yes hr hok
    rw [if_pos hok]
    refine con_of_call2 rfl ?_
    refine call_inline Tryz.func165 rfl rfl ?_
    intro _
    repeat' (first | (refine is_asked ?_; (refine is_spec ?_; (with_reducible refine asked _ (sp_add (by simp only [lo, hi]; omega) (by simp only [lo, hi]; omega)) ?_)); intro u; clear u) | (refine is_call ?_; refine call_auto (hr2) (lets_rfl rfl) (by exact ⟨⟨_, rfl, rfl, rfl⟩, ⟨_, rfl, rfl, rfl⟩, trivial⟩) rfl ?_; intro u; clear u))
    (refine con_end ?_ rfl; intro u; clear u; refine ⟨rfl, rfl, EntGoal.mk ?_ ?_⟩ <;> (repeat' (first | exact trivial | (with_reducible rfl) | apply And.intro | rfl)))
  · have hr2 := con_no hr hok
    rw [if_neg hok]
    refine con_of_call2 rfl ?_
    refine call_inline Tryz.func165 rfl rfl ?_
    intro _
    repeat' (refine is_call ?_; refine call_auto (hr2) (lets_rfl rfl) (by exact ⟨⟨_, rfl, rfl, rfl⟩, ⟨_, rfl, rfl, rfl⟩, trivial⟩) rfl ?_; intro u; clear u)
    (refine con_end ?_ rfl; intro u; clear u; refine ⟨rfl, rfl, EntGoal.mk ?_ ?_⟩ <;> (repeat' (first | exact trivial | (with_reducible rfl) | apply And.intro | rfl)))
theorem refsize_con {t : Hd} (h : t.Wf) : CallCon Tryz.prog 114 [hdT t 0 1] [.row (ints .u8 t.opts) 1 5 false, .row (ints .u8 t.pay) 1 5 false] (.t (.one (.v (.int .i64 (sizeN t))))) [] := by
  have h2 := h.olen
  have h3 := h.plen
  have hr := hrefright_con h
  unfold sizeN
  by_cases hok : okHd t
  · have hr2 := con_yes hr hok
    rw [if_pos hok]
    refine con_of_call2 rfl ?_
    refine call_inline Tryz.func114 rfl rfl ?_
    intro _
    repeat' (first | (refine is_asked ?_; (refine is_spec ?_; (with_reducible refine asked _ (sp_add (by simp only [lo, hi]; omega) (by simp only [lo, hi]; omega)) ?_)); intro u; clear u) | (refine is_call ?_; refine call_auto (hr2) (lets_rfl rfl) (by exact ⟨⟨_, rfl, rfl, rfl⟩, ⟨_, rfl, rfl, rfl⟩, trivial⟩) rfl ?_; intro u; clear u))
    (refine con_end ?_ rfl; intro u; clear u; refine ⟨rfl, rfl, EntGoal.mk ?_ ?_⟩ <;> (repeat' (first | exact trivial | (with_reducible rfl) | apply And.intro | rfl)))
  · have hr2 := con_no hr hok
    rw [if_neg hok]
    refine con_of_call2 rfl ?_
    refine call_inline Tryz.func114 rfl rfl ?_
    intro _
    repeat' (refine is_call ?_; refine call_auto (hr2) (lets_rfl rfl) (by exact ⟨⟨_, rfl, rfl, rfl⟩, ⟨_, rfl, rfl, rfl⟩, trivial⟩) rfl ?_; intro u; clear u)
    (refine con_end ?_ rfl; intro u; clear u; refine ⟨rfl, rfl, EntGoal.mk ?_ ?_⟩ <;> (repeat' (first | exact trivial | (with_reducible rfl) | apply And.intro | rfl)))
end Go.Proofs.S14.I2

namespace Go.Proofs.S14.I2
open Go Go.SE
set_option maxRecDepth 100000
set_option maxHeartbeats 4000000
attribute [local irreducible] specI

theorem check_view {l : List Int} {n : Nat} (h : n ≤ l.length) (h2 : 12 ≤ n) : (((l.drop 0).take n).set 10 0).set 11 0 = zeroK (l.take n) := by simp [zeroK]
theorem ipcheck_con {l : List Int} {n : Nat} (h : n ≤ l.length) (h2 : 12 ≤ n) (hl : l.length ≤ 100000) (hb : ∀ x ∈ l, 0 ≤ x ∧ x ≤ 255) : CallCon Tryz.prog 156 [.one (.sl 0 0 n)] [.row (ints .u8 l) 1 5 false] (.t (.one (.v (.int .u16 (65535 - sumW (zeroK (l.take n))))))) [] := by
  have hc := clone_con (l := l) (off := 0) (n := n) (by omega) (by intro e; subst e; simp at h; omega) hl
  have hln : ((l.drop 0).take n).length = n := by simp; omega
  have hb2 : ∀ x ∈ l.take n, 0 ≤ x ∧ x ≤ 255 := fun x hx => hb x (List.mem_of_mem_take hx)
  have hk := check_con (zeroK_bd hb2) (by rw [zeroK_len, List.length_take]; omega)
  have hl2 : (zeroK (l.take n)).length = n := by rw [zeroK_len, List.length_take]; omega
  rw [hl2] at hk
  refine con_of_call2 rfl ?_
  refine call_inline Tryz.func156 rfl rfl ?_
  intro _
  repeat' (first | (refine is_asked ?_; (first | (refine asked (ints .u8 (((l.drop 0).take n).set 10 0)) ⟨setVals_set .u8 _ 10 0 (by omega), by rw [ints_length, hln]; show 11 ≤ _; omega⟩ ?_) | (refine asked (ints .u8 (zeroK (l.take n))) ⟨by rw [show l.take n = (l.drop 0).take n by simp]; exact setVals_set .u8 _ 11 0 (by rw [List.length_set]; omega), by rw [ints_length, List.length_set, hln]; show 12 ≤ _; omega⟩ ?_) | refine asked _ (slice_ask (by omega) (by omega) (by omega)) ?_ | refine asked () ⟨by omega, by omega⟩ ?_); intro u; clear u) | (refine is_call ?_; (first | refine call_auto (hc) (lets_rfl rfl) (by exact ⟨⟨_, rfl, rfl, rfl⟩, trivial⟩) rfl ?_ | refine call_inline Tryz.func167 rfl rfl ?_ | refine call_auto (hk) (lets_rfl rfl) (by exact ⟨⟨_, rfl, rfl, rfl⟩, trivial⟩) rfl ?_); intro u; clear u))
  all_goals (refine con_end ?_ rfl; intro u; clear u; refine ⟨rfl, rfl, EntGoal.mk ?_ ?_⟩ <;> (repeat' (first | exact trivial | (with_reducible rfl) | apply And.intro | rfl)))
theorem refipcheck_con {l : List Int} {n : Nat} (h : n ≤ l.length) (h2 : 12 ≤ n) (hl : l.length ≤ 100000) (hb : ∀ x ∈ l, 0 ≤ x ∧ x ≤ 255) : CallCon Tryz.prog 66 [.one (.sl 0 0 n)] [.row (ints .u8 l) 1 5 false] (.t (.one (.v (.int .i64 (65535 - sumW (zeroK (l.take n))))))) [] := by
  have hln : ((l.drop 0).take n).length = n := by simp; omega
  have hb2 : ∀ x ∈ l.take n, 0 ≤ x ∧ x ≤ 255 := fun x hx => hb x (List.mem_of_mem_take hx)
  have hk := refcheck_con (zeroK_bd hb2) (by rw [zeroK_len, List.length_take]; omega)
  have hl2 : (zeroK (l.take n)).length = n := by rw [zeroK_len, List.length_take]; omega
  rw [hl2] at hk
  replace hk : CallCon Tryz.prog 110 [.one (.sl 0 0 (0 + n))] [.row (ints .u8 (zeroK (l.take n))) 1 5 false] (.t (.one (.v (.int .u16 (65535 - sumW (zeroK (l.take n))))))) [] := by rw [Nat.zero_add]; exact hk
  have hs := sumW_bd (zeroK_bd hb2)
  refine con_of_call2 rfl ?_
  refine call_inline Tryz.func66 rfl rfl ?_
  intro _
  repeat' (first | (refine is_asked ?_; (first | (refine is_wrap ?_; refine asked _ (wrap_lohi (by simp only [lo, hi]; omega) (by simp only [lo, hi]; omega)) ?_) | (refine asked (ints .u8 ((l.drop 0).take n)) ⟨by rw [ints_view]; rfl, rfl, by rw [ints_view, ints_length, hln]; show _ = _ * 1; omega, by unfold maxLen; omega, by show _ * 1 ≤ _; omega⟩ ?_) | (refine asked (ints .u8 (((l.drop 0).take n).set 10 0)) ⟨setVals_set .u8 _ 10 0 (by omega), by rw [ints_length, hln]; show 11 ≤ _; omega⟩ ?_) | (refine asked (ints .u8 (zeroK (l.take n))) ⟨by rw [show l.take n = (l.drop 0).take n by simp]; exact setVals_set .u8 _ 11 0 (by rw [List.length_set]; omega), by rw [ints_length, List.length_set, hln]; show 12 ≤ _; omega⟩ ?_) | refine asked () ⟨by omega, by omega⟩ ?_); intro u; clear u) | (refine is_call ?_; refine call_auto (hk) (lets_rfl rfl) (by exact ⟨⟨_, rfl, rfl, rfl⟩, trivial⟩) rfl ?_; intro u; clear u))
  all_goals (refine con_end ?_ rfl; intro u; clear u; refine ⟨rfl, rfl, EntGoal.mk ?_ ?_⟩ <;> (repeat' (first | exact trivial | (with_reducible rfl) | apply And.intro | rfl)))
end Go.Proofs.S14.I2

namespace Go.Proofs.S14.I2
open Go Go.SE
set_option maxRecDepth 100000
set_option maxHeartbeats 4000000
attribute [local irreducible] specI

def baseL (t : Hd) (k : Int) : List Int := [69 + (t.opts.length : Int) / 4, t.service, (20 + t.opts.length + t.pay.length : Int) / 256, (20 + t.opts.length + t.pay.length : Int) % 256, t.number / 256, t.number % 256, t.flags / 256, t.flags % 256, t.hops, t.protocol, k / 256, k % 256,
  t.src / 65536 / 256, t.src / 65536 % 256, t.src % 65536 / 256, t.src % 65536 % 256, t.dst / 65536 / 256, t.dst / 65536 % 256, t.dst % 65536 / 256, t.dst % 65536 % 256]
def headL (t : Hd) (k : Int) : List Int := baseL t k ++ t.opts
def putK (t : Hd) : Int := 65535 - sumW (headL t 0)
def putL (t : Hd) : List Int := if okHd t then headL t (putK t) ++ t.pay else []

theorem head_len {t : Hd} {k : Int} : (headL t k).length = 20 + t.opts.length := by simp [headL, baseL]; omega
theorem head_bytes {t : Hd} {k : Int} (h : t.Wf) (hok : okHd t) (hk : 0 ≤ k ∧ k ≤ 65535) : ∀ x ∈ headL t k, 0 ≤ x ∧ x ≤ 255 := by
  obtain ⟨⟨h1, h2, h3, h4, h5, h6, h7, h8, h9⟩, h10, h11⟩ := h
  unfold okHd at hok
  intro x hx
  rcases List.mem_append.mp hx with hx | hx
  · simp only [baseL, List.mem_cons, List.not_mem_nil, or_false] at hx
    omega
  · exact h8 x hx
theorem putK_bd {t : Hd} (h : t.Wf) (hok : okHd t) : 0 ≤ putK t ∧ putK t ≤ 65535 := by
  have := sumW_bd (head_bytes (k := 0) h hok (by omega))
  unfold putK; omega

theorem put_con {t : Hd} (h : t.Wf) : CallCon Tryz.prog 127 [hdT t 0 1] [.row (ints .u8 t.opts) 1 5 false, .row (ints .u8 t.pay) 1 5 false] (.tup [.one (.sl 0 0 (putL t).length), .one (.b (okHd t))]) [.row (ints .u8 (putL t)) 1 5 true] := by
  have hr := hright_con h
  by_cases hok : okHd t
  · have hr2 := con_yes hr hok
    have hsz := size_con h
    rw [show sizeN t = 20 + t.opts.length + t.pay.length by simp [sizeN, hok]] at hsz
    have hk := putK_bd h hok
    have hb0 := head_bytes (k := 0) h hok (by omega)
    have hC := check_con hb0 (by rw [head_len]; have := h.olen; omega)
    rw [head_len] at hC
    change CallCon _ _ _ _ (.t (.one (.v (.int .u16 (putK t))))) _ at hC
    have hlen : (putL t).length = 20 + t.opts.length + t.pay.length := by simp [putL, hok, head_len]
    have e1 : putL t = headL t (putK t) ++ t.pay := by simp [putL, hok]
    rw [hlen, e1, decide_eq_true hok]
    obtain ⟨⟨h1, h2, h3, h4, h5, h6, h7, h8, h9⟩, h10, h11⟩ := h
    unfold okHd at hok
    generalize putK t = k at *
    refine con_of_call2 rfl ?_
    refine call_inline Tryz.func127 rfl rfl ?_
    intro _
    have hl0 : (headL t 0).length = 20 + t.opts.length := head_len
    repeat' (first | (refine is_draw (id := 8) ?_; refine bar_start mixed ?_; refine rest_bar 4 (by kernel_rfl) rfl (by rfl) (by kernel_rfl) ?_; intro u; clear u) | (refine is_asked ?_; (first | (refine is_spec ?_; (first | (refine asked _ (sp_quo (by omega) (by omega) (by simp only [lo, hi]; omega)) ?_) | (refine asked _ (sp_or 4 (by omega) (by simp only [lo, hi]; omega) (by omega) (by omega) (by omega) (by simp only [lo, hi]; omega)) ?_) | (with_reducible refine asked _ (sp_add (by simp only [lo, hi]; omega) (by simp only [lo, hi]; omega)) ?_) | (refine is_op (op := .shr) ?_; (first | refine asked _ (sp_shrL 8 256 (by decide) (by rfl) (by decide)) ?_ | refine asked _ (sp_shrL 16 65536 (by decide) (by rfl) (by decide)) ?_)) | (refine is_op (op := .shl) ?_; refine asked _ (sp_shlL 8 256 (by decide) (by rfl) (by decide) (by simp only [lo, hi]; omega) (by simp only [lo, hi]; omega)) ?_) | (with_reducible refine asked _ (sp_or 8 (by omega) (by simp only [lo, hi]; omega) (by omega) (by omega) (by omega) (by simp only [lo, hi]; omega)) ?_))) | (refine is_wrap ?_; (first | refine asked _ (wrap_lohi (by simp only [lo, hi]; omega) (by simp only [lo, hi]; omega)) ?_ | refine asked _ (wrap_u8' _) ?_ | refine asked _ (wrap_u16' _) ?_)) | (refine asked (0, (20 + t.opts.length + t.pay.length : Nat), []) ⟨rfl, by simp only; omega, by simp only; omega, by show (20 + t.opts.length + t.pay.length) * 1 ≤ _; omega, by unfold maxLen; simp only; omega, rfl⟩ ?_) | (refine asked _ (append_ask rfl rfl (of_decide_eq_true rfl) (of_decide_eq_true rfl)) ?_) | (refine asked (ints .u8 (headL t 0)) ⟨by rw [ints_all, headL, ints_append]; congr 1; simp [ints, baseL]; omega, rfl, by rw [ints_all, ints_length]; show _ = _ * 1; omega, by unfold maxLen; simp only; omega, by show _ * 1 ≤ _; simp only; omega⟩ ?_) | (refine asked (ints .u8 (headL t (k / 256 * 256))) ⟨by unfold headL baseL; rw [show k / 256 * 256 / 256 = k / 256 by omega, show k / 256 * 256 % 256 = 0 by omega]; rfl, by rw [ints_length, hl0]; show 11 ≤ _; omega⟩ ?_) | (refine asked (ints .u8 (headL t k)) ⟨by unfold headL baseL; rw [show k / 256 * 256 / 256 = k / 256 by omega]; rfl, by rw [ints_length, head_len]; show 12 ≤ _; omega⟩ ?_) | (refine asked (ints .u8 (headL t k ++ t.pay)) ⟨by rw [ints_all, ints_append], by rw [ints_length, head_len]; show _ = _ * 1; simp only; omega, by rw [ints_all, ints_length]; show _ = _ * 1; omega, by unfold maxLen; simp only; omega, by show _ * 1 ≤ _; simp only; omega⟩ ?_) | refine asked _ (slice_ask (by omega) (by omega) (by omega)) ?_ | refine asked () ⟨by omega, by omega⟩ ?_); intro u; clear u) | (refine is_loop ?_; refine loop_step ?_; intro u; clear u) | (refine is_yield ?_; refine yield_step rfl rfl rfl rfl ?_; intro u; clear u) | (refine is_draw ?_; refine draw_step mixed (by kernel_rfl) ?_; intro u; clear u) | (refine is_rest ?_; refine rest_dr (by kernel_rfl) (by rfl) ?_; intro u; clear u) | (refine is_range ?_; refine range_step rfl rfl ?_; intro u; clear u) | (refine is_call ?_; (first | refine call_auto (hr2) (lets_rfl rfl) (by exact ⟨⟨_, rfl, rfl, rfl⟩, ⟨_, rfl, rfl, rfl⟩, trivial⟩) rfl ?_ | refine call_auto (hsz) (lets_rfl rfl) (by exact ⟨⟨_, rfl, rfl, rfl⟩, ⟨_, rfl, rfl, rfl⟩, trivial⟩) rfl ?_ | refine call_inline Tryz.func166 rfl rfl ?_ | refine call_inline Tryz.func187 rfl rfl ?_ | refine call_inline Tryz.func167 rfl rfl ?_); intro u; clear u) | (refine is_dcall ?_; (first | refine dcall_auto (hsz) (lets_rfl rfl) (by exact ⟨⟨_, rfl, rfl, rfl⟩, ⟨_, rfl, rfl, rfl⟩, trivial⟩) rfl ?_ | refine dcall_auto (hC) (lets_rfl rfl) (by exact ⟨⟨_, rfl, rfl, rfl⟩, trivial⟩) rfl ?_); intro u; clear u))
    all_goals (refine con_end ?_ rfl; intro u; clear u; refine ⟨rfl, rfl, EntGoal.mk ?_ ?_⟩ <;> (repeat' (first | exact trivial | (with_reducible rfl) | apply And.intro | rfl)))
  · rw [decide_eq_false hok, show putL t = [] by simp [putL, hok]]
    have hr2 := con_no hr hok
    refine con_of_call2 rfl ?_
    refine call_inline Tryz.func127 rfl rfl ?_
    intro _
    repeat' (refine is_call ?_; refine call_auto (hr2) (lets_rfl rfl) (by exact ⟨⟨_, rfl, rfl, rfl⟩, ⟨_, rfl, rfl, rfl⟩, trivial⟩) rfl ?_; intro u; clear u)
    all_goals (refine con_end ?_ rfl; intro u; clear u; refine ⟨rfl, rfl, EntGoal.mk ?_ ?_⟩ <;> (repeat' (first | exact trivial | (with_reducible rfl) | apply And.intro | rfl)))
end Go.Proofs.S14.I2
