/- Contracts of functions of the program, or a row of the seat, proved out of them. No condition beyond those that stand in each statement. -/
import Derived.Test.YtcnijhilkemplaaSeD
import Derived.KernelRfl
import Derived.Test.YtcnijhilkemplaaProg
namespace Go.Proofs.S07.I2
open Go Go.SE
set_option maxRecDepth 100000
set_option maxHeartbeats 4000000
attribute [local irreducible] specI
theorem mixed : Try.prog.follows .mixedOrders = true := by kernel_rfl

/-- Ones' complement: what a sum comes to when what is above 16 bits is brought round. -/
def fold (n : Int) : Int := if n = 0 then 0 else (n - 1) % 65535 + 1

def total : List Int → Int
  | [] => 0
  | x :: l => x + total l

theorem total_append : ∀ (l r : List Int), total (l ++ r) = total l + total r
  | [], r => by simp [total]
  | x :: l, r => by simp only [List.cons_append, total, total_append l r]; omega
theorem take_succ_getD (l : List Int) (k : Nat) (h : k < l.length) : l.take (k + 1) = l.take k ++ [l.getD k 0] := by
  rw [List.take_succ_eq_append_getElem h]
  simp [List.getD_eq_getElem?_getD, List.getElem?_eq_getElem h]
theorem getD_bd {l : List Int} {a b : Int} (hb : ∀ x ∈ l, a ≤ x ∧ x ≤ b) (h0 : a ≤ 0 ∧ 0 ≤ b) (k : Nat) : a ≤ l.getD k 0 ∧ l.getD k 0 ≤ b := by
  rw [List.getD_eq_getElem?_getD]
  cases h : l[k]? with
  | none => simpa using h0
  | some x => exact hb x (List.mem_of_getElem? h)
theorem total_bd {l : List Int} {b : Int} (hb : ∀ x ∈ l, 0 ≤ x ∧ x ≤ b) : 0 ≤ total l := by
  induction l with
  | nil => exact Int.le_refl _
  | cons x l ih =>
    have h1 := hb x (by simp)
    have h2 := ih fun y hy => hb y (by simp [hy])
    simp only [total]; omega
theorem fold_bd {n : Int} (h : 0 ≤ n) : 0 ≤ fold n ∧ fold n ≤ 65535 := by unfold fold; split <;> omega
theorem fold_add {n x : Int} (h : 0 ≤ n) (hx : 0 ≤ x) (hx2 : x ≤ 65535) : fold (n + x) = if fold n + x > 65535 then fold n + x - 65535 else fold n + x := by
  unfold fold; split <;> split <;> split <;> omega

theorem fold_con {l : List Int} (hb : ∀ x ∈ l, 0 ≤ x ∧ x ≤ 65535) (hl : l.length ≤ 1000000) : CallCon Try.prog 67 [.one (.sl 0 0 l.length)] [.row (ints .u16 l) 1 49 false] (.t (.one (.v (.int .u16 (fold (total l)))))) [] := by
  refine con_of_call2 rfl ?_
  refine call_inline Try.func67 rfl rfl ?_
  intro _
  refine loop_ind (fun k : Nat => l.length - k) (fun k => k ≤ l.length) (fun k => [(3, .t (.one (.v (.int .i64 (fold (total (l.take k))))))), (4, .t (.one (.v (.int .i64 k))))]) (fun _ => []) (fun _ => []) [] 0 0 (Nat.zero_le _) ?_ ?_
  · (intro u; clear u; refine ⟨rfl, rfl, EntGoal.mk ?_ ?_⟩ <;> (repeat' (first | exact trivial | (with_reducible rfl) | apply And.intro | rfl)))
  · intro k hk u
    clear u
    have hx := getD_bd hb (by decide) k
    have ht : 0 ≤ total (l.take k) := total_bd fun x hx => hb x (List.mem_of_mem_take hx)
    have hf := fold_bd ht
    repeat' (first | (refine is_split ?_; refine sp_dec (fun g => ?_) (fun g => ?_) <;> (intro u; clear u)) | (refine is_asked ?_; (first | (refine is_spec ?_; (first | (with_reducible refine asked _ (sp_add (by simp only [lo, hi]; omega) (by simp only [lo, hi]; omega)) ?_) | (with_reducible refine asked _ (sp_sub (by simp only [lo, hi]; omega) (by simp only [lo, hi]; omega)) ?_))) | (refine is_wrap ?_; refine asked _ (wrap_lohi (by simp only [lo, hi]; omega) (by simp only [lo, hi]; omega)) ?_) | refine asked () ⟨by omega, by omega⟩ ?_ | refine asked _ (ix_ints (by omega)) ?_); intro u; clear u))
    · have hs := fold_add ht hx.1 hx.2
      rw [if_pos (by omega)] at hs
      refine again (k + 1) (by omega) (by omega) ?_
      (intro u; clear u; refine ⟨rfl, rfl, EntGoal.mk ?_ ?_⟩ <;> (repeat' (first | exact trivial | (with_reducible rfl) | apply And.intro | rfl)))
      show _ = fold (total (l.take (k + 1)))
      rw [take_succ_getD l k (by omega), total_append]
      simpa [total] using hs.symm
    · have hs := fold_add ht hx.1 hx.2
      rw [if_neg (by omega)] at hs
      refine again (k + 1) (by omega) (by omega) ?_
      (intro u; clear u; refine ⟨rfl, rfl, EntGoal.mk ?_ ?_⟩ <;> (repeat' (first | exact trivial | (with_reducible rfl) | apply And.intro | rfl)))
      show _ = fold (total (l.take (k + 1)))
      rw [take_succ_getD l k (by omega), total_append]
      simpa [total] using hs.symm
    · (refine con_end ?_ rfl; intro u; clear u; refine ⟨rfl, rfl, EntGoal.mk ?_ ?_⟩ <;> (repeat' (first | exact trivial | (with_reducible rfl) | apply And.intro | rfl)))
      rw [List.take_of_length_le (by omega)]
