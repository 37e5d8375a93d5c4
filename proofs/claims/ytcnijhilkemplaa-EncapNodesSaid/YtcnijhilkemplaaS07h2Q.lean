/- Contracts of functions of the program, or a row of the seat, proved out of them. No condition beyond those that stand in each statement. -/
import Derived.Test.YtcnijhilkemplaaS07h2M
namespace Go.Proofs.S07.I2
open Go Go.SE
set_option maxRecDepth 100000
set_option maxHeartbeats 4000000
attribute [local irreducible] specI

theorem getD_app {L : List Int} (r : List Int) {i : Nat} (h : i < L.length) : (L ++ r).getD i 0 = L.getD i 0 := by
  rw [List.getD_eq_getElem?_getD, List.getElem?_append_left h, ← List.getD_eq_getElem?_getD]
theorem getD_take {L : List Int} {i m : Nat} (h : i < m) : (L.take m).getD i 0 = L.getD i 0 := by
  rw [List.getD_eq_getElem?_getD, List.getElem?_take, if_pos h, ← List.getD_eq_getElem?_getD]
theorem getD_set_ne {L : List Int} {i j : Nat} {x : Int} (h : i ≠ j) : (L.set i x).getD j 0 = L.getD j 0 := by
  rw [List.getD_eq_getElem?_getD, List.getElem?_set_ne h, ← List.getD_eq_getElem?_getD]
theorem getD_set_eq {L : List Int} {i : Nat} {x : Int} (h : i < L.length) : (L.set i x).getD i 0 = x := by
  rw [List.getD_eq_getElem?_getD, List.getElem?_set_self h]; rfl

/-- What is so of bytes that are a head's. -/
structure Good (L : List Int) : Prop where
  len : 20 ≤ L.length
  ver : L.getD 0 0 / 16 = 4
  head : 20 ≤ hN L ∧ hN L ≤ L.length
  size : wN L 2 = L.length
  check : wN L 10 = kN L
  flags : wN L 6 = 0 ∨ wN L 6 = 16384
theorem good_iff {L : List Int} : parseE L = 0 ↔ Good L := by
  rcases parse_cases L with ⟨e, _, c1⟩ | ⟨e, _, c1, c2⟩ | ⟨e, _, c1, c2, c3⟩ | ⟨e, _, c1, c2, c3, c4⟩ | ⟨e, _, c1, c2, c3, c4, c5⟩ | ⟨e, _, c1, c2, c3, c4, c5, c6⟩ | ⟨e, _, c1, c2, c3, c4, c5, c6⟩ <;> rw [e]
  · exact ⟨fun h => absurd h (by decide), fun h => by have := h.len; omega⟩
  · exact ⟨fun h => absurd h (by decide), fun h => absurd h.ver c2⟩
  · exact ⟨fun h => absurd h (by decide), fun h => by have := h.head; omega⟩
  · exact ⟨fun h => absurd h (by decide), fun h => absurd h.size c4⟩
  · exact ⟨fun h => absurd h (by decide), fun h => absurd h.check c5⟩
  · exact ⟨fun h => absurd h (by decide), fun h => absurd h.flags c6⟩
  · exact ⟨fun _ => ⟨c1, c2, c3, c4, c5, c6⟩, fun _ => rfl⟩
theorem parse_not {L : List Int} (h : ¬ parseE L = 0) : parseS L = zeroHd := by unfold parseS; rw [if_neg h]
theorem parse_le (L : List Int) : 0 ≤ parseE L ∧ parseE L ≤ 6 := by
  rcases parse_cases L with ⟨e, _⟩ | ⟨e, _⟩ | ⟨e, _⟩ | ⟨e, _⟩ | ⟨e, _⟩ | ⟨e, _⟩ | ⟨e, _⟩ <;> rw [e] <;> decide
theorem parse_more {L : List Int} (h : Good L) (c : Int) : parseE (L ++ [c]) = 4 := by
  have hl := h.len
  have e0 : (L ++ [c]).getD 0 0 = L.getD 0 0 := getD_app _ (by omega)
  have eN : hN (L ++ [c]) = hN L := by unfold hN; rw [e0]
  have e2 : wN (L ++ [c]) 2 = wN L 2 := by unfold wN; rw [getD_app _ (by omega), getD_app _ (by omega)]
  have hv := h.ver
  have hh := h.head
  have hs := h.size
  have hln : (L ++ [c]).length = L.length + 1 := by simp
  unfold parseE
  rw [if_neg (by omega), if_neg (fun hn => hn (by rw [e0]; exact hv)), if_neg (by rw [eN, hln]; omega), if_pos (by rw [e2, hs, hln]; omega)]
theorem parse_less {L : List Int} (h : Good L) : ¬ parseE (L.take (L.length - 1)) = 0 := by
  intro h2
  have g := good_iff.1 h2
  have hl := h.len
  have gl := g.len
  have gs := g.size
  have e2 : wN (L.take (L.length - 1)) 2 = wN L 2 := by
    rw [List.length_take] at gl
    unfold wN; rw [getD_take (by omega), getD_take (by omega)]
  rw [e2, h.size, List.length_take] at gs
  omega

