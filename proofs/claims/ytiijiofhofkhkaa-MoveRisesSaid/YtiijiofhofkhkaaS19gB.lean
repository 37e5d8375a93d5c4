/- Contracts of functions of the program, or a row of the seat, proved out of them. No condition beyond those that stand in each statement. -/
import Derived.Test.YtiijiofhofkhkaaS19gS
namespace Go.Proofs.S19
open Go Go.SE
set_option maxRecDepth 100000
set_option maxHeartbeats 4000000
attribute [local irreducible] specI

/-- The rows of a table that are so. -/
def rowsK (so : Nat → Bool) (t : Tab) : Nat → List Row
  | 0 => []
  | k + 1 => bif so k then rowsK so t k ++ [⟨k, t.at k⟩] else rowsK so t k
theorem rowsK_len (so : Nat → Bool) (t : Tab) : ∀ k, (rowsK so t k).length ≤ k
  | 0 => Nat.le_refl _
  | k + 1 => by
    have := rowsK_len so t k
    unfold rowsK
    cases so k
    · show (rowsK so t k).length ≤ k + 1; omega
    · show (rowsK so t k ++ [_]).length ≤ k + 1; rw [List.length_append]; simp; omega
theorem rowsK_yes {so : Nat → Bool} {t : Tab} {k : Nat} {m : List Row} (hm : m = rowsK so t k) (h : so k = true) : m ++ [⟨(k : Int), t.at k⟩] = rowsK so t (k + 1) := by
  show _ = bif so k then _ else _
  rw [h, hm]; rfl
theorem rowsK_no {so : Nat → Bool} {t : Tab} {k : Nat} {m : List Row} (hm : m = rowsK so t k) (h : so k = false) : m = rowsK so t (k + 1) := by
  show _ = bif so k then _ else _
  rw [h, hm]; rfl
def snapL (t : Tab) : List Row := rowsK (fun _ => true) t 16
def deltaL (a b : Tab) : List Row := rowsK (fun i => !eqEnt (a.at i) (b.at i)) b 16
def ofSh (t : Tab) : Sh := if okTab t then ⟨-1, t.ver, snapL t⟩ else zeroSh
def ofE (t : Tab) : Int := if okTab t then 0 else 2
def okDl (a b : Tab) : Prop := a.ver < b.ver ∧ okTab a ∧ okTab b
instance (a b : Tab) : Decidable (okDl a b) := by unfold okDl; infer_instance
def dlSh (a b : Tab) : Sh := if okDl a b then ⟨a.ver, b.ver, deltaL a b⟩ else zeroSh
def dlE (a b : Tab) : Int := if okDl a b then 0 else 2

theorem row_app (m : List Row) (r : Row) (h : m.length ≤ 1000000) : rowsV m ++ rowV r = rowsV (m ++ [r]) ∧ (rowsV m).length = m.length * 5 ∧ (rowV r).length = 1 * 5 ∧ m.length + 1 ≤ maxLen ∧ (m.length + 1) * 40 ≤ 140737488355328 :=
  ⟨by rw [rowsV_app]; simp [rowsV], rowsV_length m, rfl, by unfold maxLen; omega, by omega⟩

def eqFrom (a b : Tab) : List Nat → Bool
  | [] => true
  | i :: l => eqEnt (a.at i) (b.at i) && eqFrom a b l
def eqRows (a b : Tab) : Bool := eqFrom a b [0, 1, 2, 3, 4, 5, 6, 7, 8, 9, 10, 11, 12, 13, 14, 15]
def eqTab (a b : Tab) : Bool := a.ver == b.ver && (eqRows a b && true)
def sameR (a b : Tab) : Prop := ∀ i, i < 16 → a.at i = b.at i
instance (a b : Tab) : Decidable (sameR a b) := by unfold sameR; infer_instance
theorem eqRows_iff {a b : Tab} : eqRows a b = true ↔ sameR a b := by
  unfold eqRows
  simp only [eqFrom, Bool.and_true, Bool.and_eq_true, eqEnt_iff]
  constructor
  · rintro ⟨h0, h1, h2, h3, h4, h5, h6, h7, h8, h9, h10, h11, h12, h13, h14, h15⟩
    exact lt16 ⟨h0, h1, h2, h3, h4, h5, h6, h7, h8, h9, h10, h11, h12, h13, h14, h15⟩
  · intro h
    exact ⟨h 0 (by omega), h 1 (by omega), h 2 (by omega), h 3 (by omega), h 4 (by omega), h 5 (by omega), h 6 (by omega), h 7 (by omega), h 8 (by omega), h 9 (by omega), h 10 (by omega), h 11 (by omega), h 12 (by omega), h 13 (by omega), h 14 (by omega), h 15 (by omega)⟩
theorem tab_ext {a b : Tab} (ha : a.rows.length = 16) (hb : b.rows.length = 16) (hv : a.ver = b.ver) (h : sameR a b) : a = b := by
  obtain ⟨v, l⟩ := a
  obtain ⟨w, r⟩ := b
  obtain rfl : v = w := hv
  congr 1
  apply List.ext_getElem (by rw [ha, hb])
  intro i h1 h2
  have := h i (by simp only at ha h1; omega)
  simpa [Tab.at, List.getD_eq_getElem?_getD, List.getElem?_eq_getElem h1, List.getElem?_eq_getElem h2] using this
theorem eqTab_iff {a b : Tab} (ha : a.rows.length = 16) (hb : b.rows.length = 16) : eqTab a b = true ↔ a = b := by
  unfold eqTab
  rw [Bool.and_true, Bool.and_eq_true, eqRows_iff, beq_iff_eq]
  exact ⟨fun h => tab_ext ha hb h.1 h.2, fun h => by subst h; exact ⟨rfl, fun _ _ => rfl⟩⟩
theorem rowsK_none {so : Nat → Bool} {t : Tab} : ∀ k, (∀ i, i < k → so i = false) → rowsK so t k = []
  | 0, _ => rfl
  | k + 1, h => by
    show (bif so k then _ else _) = _
    rw [h k (by omega)]
    exact rowsK_none k fun i hi => h i (by omega)
theorem delta_same {a b : Tab} (h : sameR a b) : deltaL a b = [] := rowsK_none 16 fun i hi => by rw [h i hi, eqEnt_iff.2 rfl]; rfl

