/- Contracts of functions of the program, or a row of the seat, proved out of them. No condition beyond those that stand in each statement. -/
import Derived.Test.YtbndohgobodagaaL10G
namespace Go.Proofs.L10
open Go Go.SE
set_option maxRecDepth 100000
set_option maxHeartbeats 4000000

theorem shr_bit {b : Int} {k : Nat} (hb : 0 ≤ b ∧ b ≤ 255) (hk : k < 8) : specI .shr .u8 b (k : Int) (b / 2 ^ k) := by
  unfold specI
  refine ⟨by omega, ?_⟩
  rw [show min (Int.toNat (k : Int)) (IntKind.bits .u8) = k by show min (Int.toNat (k : Int)) 8 = k; omega]
  exact Int.fdiv_eq_ediv_of_nonneg _ (Int.le_of_lt (Int.pow_pos (by decide)))
attribute [local irreducible] specI
theorem shr_bd {b : Int} {k : Nat} (hb : 0 ≤ b ∧ b ≤ 255) : 0 ≤ b / 2 ^ k ∧ b / 2 ^ k ≤ 255 := by
  have h2 : (0 : Int) < 2 ^ k := Int.pow_pos (by decide)
  refine ⟨Int.ediv_nonneg hb.1 (Int.le_of_lt h2), Int.le_trans (Int.ediv_le_self _ hb.1) hb.2⟩
def bitK (b : Int) (k : Nat) : Int := b / 2 ^ k % 2

structure Sp where
  first : Bool
  least : Int
  most : Int
def spK (l : List Int) (b : Int) : Nat → Sp
  | 0 => ⟨true, 0, 0⟩
  | k + 1 => if bitK b k = 0 then spK l b k else if (spK l b k).first = true then ⟨false, minMax false (l.getD k 0) (l.getD k 0), minMax true (l.getD k 0) (l.getD k 0)⟩
    else ⟨false, minMax false (spK l b k).least (l.getD k 0), minMax true (spK l b k).most (l.getD k 0)⟩
def spreadN (t : Tab) (b : Int) : Int := (spK (loadsT t) b 6).most - (spK (loadsT t) b 6).least
theorem agg3 : isAggT Try.prog 3 = some false := by kernel_rfl
theorem l_part (l : List Int) {j : Int} {n : Nat} (i : Nat) (hj : j = i) (hi : i < 6) (hn : n = 1 := by exact cells3) : (0 ≤ j ∧ j < (6 : Nat)) ∧ partT Try.prog 3 (lS l) (j.toNat * n) = some (.one (.v (.int .i64 (l.getD i 0)))) := by
  subst hn hj
  refine ⟨⟨by omega, by omega⟩, ?_⟩
  have := l_nth l (a := 0) (i := i) (n := 1) hi rfl rfl
  unfold partT
  rw [agg3]
  simp only [Int.toNat_natCast]
  rw [Nat.zero_add] at this
  rw [this]
theorem minMax_bd (c : Bool) (i j m : Int) (h1 : 0 ≤ i ∧ i ≤ m) (h2 : 0 ≤ j ∧ j ≤ m) : 0 ≤ minMax c i j ∧ minMax c i j ≤ m := by
  unfold minMax
  cases c <;> simp only <;> split <;> omega
theorem spK_bd (t : Tab) (b : Int) : ∀ k, (0 ≤ (spK (loadsT t) b k).least ∧ (spK (loadsT t) b k).least ≤ 16) ∧ (0 ≤ (spK (loadsT t) b k).most ∧ (spK (loadsT t) b k).most ≤ 16)
  | 0 => by show ((0 : Int) ≤ 0 ∧ (0 : Int) ≤ 16) ∧ ((0 : Int) ≤ 0 ∧ (0 : Int) ≤ 16); decide
  | k + 1 => by
    have h := spK_bd t b k
    have hb := loadsK_bd t 16 k
    change 0 ≤ (loadsT t).getD k 0 ∧ (loadsT t).getD k 0 ≤ 16 at hb
    unfold spK
    split
    · exact h
    · split
      · exact ⟨minMax_bd false _ _ _ hb hb, minMax_bd true _ _ _ hb hb⟩
      · exact ⟨minMax_bd false _ _ _ h.1 hb, minMax_bd true _ _ _ h.2 hb⟩
theorem spread_con (t : Tab) {b : Int} (hb : 0 ≤ b ∧ b ≤ 255) : CallCon Try.prog 15 [tabT t, .one (.v (.int .u8 b))] [] (.t (.one (.v (.int .i64 (spreadN t b))))) [] := by
  have hL := loads_con t
  have hbd := spK_bd t b
  have hb6 := hbd 6
  refine con_of_call2 rfl ?_
  refine call_inline Try.func15 rfl rfl ?_
  intro _
  repeat' (refine is_call ?_; refine call_auto (hL) (lets_rfl rfl) (by exact trivial) rfl ?_; intro u; clear u)
  refine loop_ind (ι := Nat × Sp) (fun | (k, _) => 6 - k) (fun | (k, m) => k ≤ 6 ∧ m = spK (loadsT t) b k) (fun | (k, m) => [(12, .t (.one (.v (.int .i64 k)))), (5, .t (.one (.b m.first))), (6, .t (.one (.v (.int .i64 m.least)))), (7, .t (.one (.v (.int .i64 m.most))))]) (fun _ => []) (fun _ => []) [] 0 (0, ⟨true, 0, 0⟩) ⟨by omega, rfl⟩ ?_ ?_
  · (intro u; clear u; refine ⟨rfl, rfl, EntGoal.mk ?_ ?_⟩ <;> (repeat' (first | exact trivial | (with_reducible rfl) | apply And.intro | rfl)))
  rintro ⟨k, m⟩ ⟨hk, hm⟩ u
  clear u
  have hs := shr_bd (k := k) hb
  have hmb := hbd k
  rw [← hm] at hmb
  have hbit : bitK b k = b / 2 ^ k % 2 := rfl
  repeat' (first | (refine is_split ?_; (first | refine sp_dec (fun g => ?_) (fun g => ?_) | refine Split.mk (fun g => ?_) (fun g => ?_)) <;> (intro u; clear u)) | (refine is_asked ?_; (first | (refine is_spec ?_; (first | (refine asked _ (shr_bit hb (by omega)) ?_) | (with_reducible refine asked _ (sp_add (by simp only [lo, hi]; omega) (by simp only [lo, hi]; omega)) ?_) | (with_reducible refine asked _ (sp_sub (by simp only [lo, hi]; omega) (by simp only [lo, hi]; omega)) ?_) | (with_reducible refine asked _ (sp_maskL 1 2 (by decide) (by decide) (by decide) (by simp only [lo, hi]; omega)) ?_))) | (refine asked _ (l_part (loadsT t) k rfl (by omega)) ?_)); intro u; clear u))
  · rename_i g
    refine again (k + 1, m) ⟨by omega, by show _ = if _ then _ else _; rw [if_pos (by rw [hbit]; exact g)]; exact hm⟩ (by show 6 - (k + 1) < 6 - k; omega) ?_
    (intro u; clear u; refine ⟨rfl, rfl, EntGoal.mk ?_ ?_⟩ <;> (repeat' (first | exact trivial | (with_reducible rfl) | apply And.intro | rfl)))
  · rename_i g2 g
    refine again (k + 1, ⟨false, minMax false ((loadsT t).getD k 0) ((loadsT t).getD k 0), minMax true ((loadsT t).getD k 0) ((loadsT t).getD k 0)⟩) ⟨by omega, by show _ = if _ then _ else _; rw [if_neg (by rw [hbit]; assumption), if_pos (by rw [← hm]; exact g)]⟩ (by show 6 - (k + 1) < 6 - k; omega) ?_
    (intro u; clear u; refine ⟨rfl, rfl, EntGoal.mk ?_ ?_⟩ <;> (repeat' (first | exact trivial | (with_reducible rfl) | apply And.intro | rfl)))
  · rename_i g2 g
    refine again (k + 1, ⟨false, minMax false m.least ((loadsT t).getD k 0), minMax true m.most ((loadsT t).getD k 0)⟩) ⟨by omega, by show _ = if _ then _ else _; rw [if_neg (by rw [hbit]; assumption), if_neg (by rw [← hm]; simpa using g), hm]⟩ (by show 6 - (k + 1) < 6 - k; omega) ?_
    (intro u; clear u; refine ⟨rfl, rfl, EntGoal.mk ?_ ?_⟩ <;> (repeat' (first | exact trivial | (with_reducible rfl) | apply And.intro | rfl)))
    all_goals exact g
  · obtain rfl : k = 6 := by omega
    (refine con_end ?_ rfl; intro u; clear u; refine ⟨rfl, rfl, EntGoal.mk ?_ ?_⟩ <;> (repeat' (first | exact trivial | (with_reducible rfl) | apply And.intro | rfl)))
    show _ = (spK (loadsT t) b 6).most - (spK (loadsT t) b 6).least
    rw [hm]
