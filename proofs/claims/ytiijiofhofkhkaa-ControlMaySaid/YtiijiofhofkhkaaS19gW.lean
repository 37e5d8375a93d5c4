/- Contracts of functions of the program, or a row of the seat, proved out of them. No condition beyond those that stand in each statement. -/
import Derived.Test.YtiijiofhofkhkaaS19gK
namespace Go.Proofs.S19
open Go Go.SE
set_option maxRecDepth 100000
set_option maxHeartbeats 4000000
attribute [local irreducible] specI

def aT : Tab := ⟨4, [⟨0, -1, 1, 0⟩, ⟨1, -1, 1, 0⟩, ⟨2, -1, 1, 0⟩, ⟨0, -1, 1, 0⟩, ⟨1, -1, 1, 0⟩, ⟨2, -1, 1, 0⟩, ⟨0, -1, 1, 0⟩, ⟨1, -1, 1, 0⟩, ⟨2, -1, 1, 0⟩, ⟨0, -1, 1, 0⟩, ⟨1, -1, 1, 0⟩, ⟨2, -1, 1, 0⟩, ⟨0, -1, 1, 0⟩, ⟨1, -1, 1, 0⟩, ⟨2, -1, 1, 0⟩, ⟨0, -1, 1, 0⟩]⟩
def bT : Tab := ⟨7, [⟨0, -1, 1, 0⟩, ⟨1, -1, 1, 0⟩, ⟨2, -1, 1, 0⟩, ⟨1, 0, 2, 9⟩, ⟨1, -1, 1, 0⟩, ⟨2, -1, 1, 0⟩, ⟨0, -1, 1, 0⟩, ⟨1, -1, 1, 0⟩, ⟨2, -1, 1, 0⟩, ⟨0, -1, 1, 0⟩, ⟨1, -1, 1, 0⟩, ⟨2, -1, 1, 0⟩, ⟨0, -1, 1, 0⟩, ⟨1, -1, 1, 0⟩, ⟨2, -1, 1, 0⟩, ⟨0, -1, 1, 0⟩]⟩
def dSh : Sh := ⟨4, 7, [⟨3, ⟨1, 0, 2, 9⟩⟩]⟩
def dP : List Int := [0, 0, 0, 0, 0, 5, 0, 0, 0, 0, 0, 7, 1, 3, 2, 1, 0, 0, 0, 2, 0, 0, 0, 0, 0, 9]
def uSh : Sh := ⟨-1, 7, [⟨0, ⟨0, -1, 1, 0⟩⟩, ⟨1, ⟨1, -1, 1, 0⟩⟩, ⟨2, ⟨2, -1, 1, 0⟩⟩, ⟨3, ⟨1, 0, 2, 9⟩⟩, ⟨4, ⟨1, -1, 1, 0⟩⟩, ⟨5, ⟨2, -1, 1, 0⟩⟩, ⟨6, ⟨0, -1, 1, 0⟩⟩, ⟨7, ⟨1, -1, 1, 0⟩⟩, ⟨8, ⟨2, -1, 1, 0⟩⟩, ⟨9, ⟨0, -1, 1, 0⟩⟩, ⟨10, ⟨1, -1, 1, 0⟩⟩, ⟨11, ⟨2, -1, 1, 0⟩⟩, ⟨12, ⟨0, -1, 1, 0⟩⟩, ⟨13, ⟨1, -1, 1, 0⟩⟩, ⟨14, ⟨2, -1, 1, 0⟩⟩, ⟨15, ⟨0, -1, 1, 0⟩⟩]⟩
theorem w1 : dlSh aT bT = dSh ∧ dlE aT bT = 0 := by decide +kernel
theorem w2 : putSh dSh = dP ∧ putE dSh = 0 := by decide +kernel
theorem w3 : tkSh dP = dSh ∧ tkE dP = 0 := by decide +kernel
theorem w4 : ofSh bT = uSh ∧ ofE bT = 0 := by decide +kernel
theorem w5 : dlSh bT aT = zeroSh ∧ dlE bT aT = 2 := by decide +kernel
theorem w6 : putSh zeroSh = [] ∧ putE zeroSh = 2 := by decide +kernel
theorem w7 : tkSh (dP.take 25) = zeroSh ∧ tkE (dP.take 25) = 61 := by decide +kernel
theorem w8 : tkSh (dP ++ [0]) = zeroSh ∧ tkE (dP ++ [0]) = 60 := by decide +kernel
theorem w9 : okSh dSh ∧ ¬ okSh zeroSh ∧ ¬ dSh = uSh := by decide +kernel
theorem bytes_of {l : List Int} (h : (l.all fun x => decide (0 ≤ x ∧ x ≤ 255)) = true) : Bytes l := by
  intro x hx
  have := List.all_eq_true.1 h x hx
  simpa using this

