/- Contracts of functions of the program, or a row of the seat, proved out of them. No condition beyond those that stand in each statement. -/
import Derived.Test.YtiijiofhofkhkaaS19gE
namespace Go.Proofs.S19
open Go Go.SE
set_option maxRecDepth 100000
set_option maxHeartbeats 4000000
attribute [local irreducible] specI

structure Tab where
  ver : Int
  rows : List Ent
  deriving DecidableEq
def Tab.at (t : Tab) (i : Nat) : Ent := t.rows.getD i zeroE
def rowsOf (t : Tab) : List Nat → List S
  | [] => []
  | i :: l => .v (.int .i64 (t.at i).cur) :: .v (.int .i64 (t.at i).prev) :: .v (.int .i64 (t.at i).gen) :: .v (.int .i64 (t.at i).tick) :: rowsOf t l
def rowsS (t : Tab) : List S := rowsOf t [0, 1, 2, 3, 4, 5, 6, 7, 8, 9, 10, 11, 12, 13, 14, 15]
def tabS (t : Tab) : List S := .v (.int .i64 t.ver) :: rowsS t
def tabT (t : Tab) : T := .agg (tabS t)
structure Tab.Wf (t : Tab) : Prop where
  ver : isI t.ver
  len : t.rows.length = 16
  rows : ∀ e ∈ t.rows, e.Wf
def zeroTab : Tab := ⟨0, List.replicate 16 zeroE⟩
def Tab.set (t : Tab) (i : Nat) (e : Ent) : Tab := ⟨t.ver, t.rows.set i e⟩

theorem lt16 {P : Nat → Prop} (h : P 0 ∧ P 1 ∧ P 2 ∧ P 3 ∧ P 4 ∧ P 5 ∧ P 6 ∧ P 7 ∧ P 8 ∧ P 9 ∧ P 10 ∧ P 11 ∧ P 12 ∧ P 13 ∧ P 14 ∧ P 15) : ∀ i, i < 16 → P i := by
  obtain ⟨h0, h1, h2, h3, h4, h5, h6, h7, h8, h9, h10, h11, h12, h13, h14, h15⟩ := h
  intro i hi
  match i, hi with
  | 0, _ => exact h0
  | 1, _ => exact h1
  | 2, _ => exact h2
  | 3, _ => exact h3
  | 4, _ => exact h4
  | 5, _ => exact h5
  | 6, _ => exact h6
  | 7, _ => exact h7
  | 8, _ => exact h8
  | 9, _ => exact h9
  | 10, _ => exact h10
  | 11, _ => exact h11
  | 12, _ => exact h12
  | 13, _ => exact h13
  | 14, _ => exact h14
  | 15, _ => exact h15
  | n + 16, h => omega
theorem tab_cut (t : Tab) : ∀ i, i < 16 → cut (tabS t) (1 + i * 4) 4 = entS (t.at i) := lt16 ⟨rfl, rfl, rfl, rfl, rfl, rfl, rfl, rfl, rfl, rfl, rfl, rfl, rfl, rfl, rfl, rfl⟩
theorem rows_cut (t : Tab) : ∀ i, i < 16 → cut (rowsS t) (i * 4) 4 = entS (t.at i) := lt16 ⟨rfl, rfl, rfl, rfl, rfl, rfl, rfl, rfl, rfl, rfl, rfl, rfl, rfl, rfl, rfl, rfl⟩
theorem tab_nth (t : Tab) : ∀ i, i < 16 → nth (tabS t) (1 + i * 4) = some (.v (.int .i64 (t.at i).cur)) := lt16 ⟨rfl, rfl, rfl, rfl, rfl, rfl, rfl, rfl, rfl, rfl, rfl, rfl, rfl, rfl, rfl, rfl⟩
theorem tab_nth2 (t : Tab) : ∀ i, i < 16 → nth (tabS t) (1 + i * 4 + 2) = some (.v (.int .i64 (t.at i).gen)) := lt16 ⟨rfl, rfl, rfl, rfl, rfl, rfl, rfl, rfl, rfl, rfl, rfl, rfl, rfl, rfl, rfl, rfl⟩
theorem len16 {l : List Ent} (h : l.length = 16) : ∃ a0 a1 a2 a3 a4 a5 a6 a7 a8 a9 a10 a11 a12 a13 a14 a15, l = [a0, a1, a2, a3, a4, a5, a6, a7, a8, a9, a10, a11, a12, a13, a14, a15] := by
  match l, h with
  | [a0, a1, a2, a3, a4, a5, a6, a7, a8, a9, a10, a11, a12, a13, a14, a15], _ => exact ⟨a0, a1, a2, a3, a4, a5, a6, a7, a8, a9, a10, a11, a12, a13, a14, a15, rfl⟩
theorem tab_set {t : Tab} (h : t.rows.length = 16) (e : Ent) : ∀ i, i < 16 → setAt (tabS t) (1 + i * 4) (entS e) = tabS (t.set i e) := by
  obtain ⟨v, l⟩ := t
  obtain ⟨a0, a1, a2, a3, a4, a5, a6, a7, a8, a9, a10, a11, a12, a13, a14, a15, rfl⟩ := len16 h
  exact lt16 ⟨rfl, rfl, rfl, rfl, rfl, rfl, rfl, rfl, rfl, rfl, rfl, rfl, rfl, rfl, rfl, rfl⟩
theorem cells23 : Try.prog.cellsOf 58 = 4 := by kernel_rfl
theorem tab_ask (t : Tab) {a i n : Nat} (hi : i < 16) (hn : n = 4 := by exact cells23) (ha : a = 1 := by rfl) : cut (tabS t) (a + i * n) n = entS (t.at i) ∧ a + i * n + n ≤ (tabS t).length := by
  subst hn ha
  exact ⟨tab_cut t i hi, by show _ ≤ 65; omega⟩
theorem tab_put {t : Tab} (h : t.rows.length = 16) {a i n : Nat} (e : Ent) (hi : i < 16) (hn : n = 4 := by exact cells23) (ha : a = 1 := by rfl) : setAt (tabS t) (a + i * n) (entS e) = tabS (t.set i e) ∧ a + i * n + (entS e).length ≤ (tabS t).length := by
  subst hn ha
  exact ⟨tab_set h e i hi, by show 1 + i * 4 + 4 ≤ 65; omega⟩
theorem tab_len (t : Tab) : (tabS t).length = 65 := rfl

def rowE (t : Tab) (b : Int) : Ent := if 0 ≤ b ∧ b < 16 then t.at b.toNat else zeroE
