/- Contracts of functions of the program, or a row of the seat, proved out of them. No condition beyond those that stand in each statement. -/
import Derived.Test.YtiijiofhofkhkaaSeD
import Derived.Test.YtiijiofhofkhkaaS19gT
namespace Go.Proofs.S19
open Go Go.SE
set_option maxRecDepth 100000
set_option maxHeartbeats 4000000
attribute [local irreducible] specI

def okTab (t : Tab) : Prop := (0 ≤ t.ver ∧ t.ver ≤ 1099511627776) ∧ ∀ i, i < 16 → okE (t.at i)
instance (t : Tab) : Decidable (okTab t) := by unfold okTab; infer_instance
theorem agg23 : isAggT Try.prog 58 = some true := by kernel_rfl
theorem rows_part (t : Tab) {j : Int} {n : Nat} (i : Nat) (hj : j = i) (hi : i < 16) (hn : n = 4 := by exact cells23) : (0 ≤ j ∧ j < (16 : Nat)) ∧ partT Try.prog 58 (rowsS t) (j.toNat * n) = some (entT (t.at i)) := by
  subst hn hj
  refine ⟨⟨by omega, by omega⟩, ?_⟩
  unfold partT
  rw [agg23, cells23]
  simp only [Int.toNat_natCast]
  rw [rows_cut t i hi]
  rfl
def newK : Nat → Tab
  | 0 => zeroTab
  | k + 1 => (newK k).set k noneE
theorem newK_len : ∀ k, (newK k).rows.length = 16
  | 0 => rfl
  | k + 1 => by simp only [newK, Tab.set, List.length_set]; exact newK_len k
def newTab : Tab := ⟨0, List.replicate 16 noneE⟩
theorem newK_16 : newK 16 = newTab := rfl
