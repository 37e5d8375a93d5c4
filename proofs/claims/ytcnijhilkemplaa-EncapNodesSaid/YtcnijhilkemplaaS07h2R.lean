/- Contracts of functions of the program, or a row of the seat, proved out of them. No condition beyond those that stand in each statement. -/
import Derived.Test.YtcnijhilkemplaaS07h2Q
namespace Go.Proofs.S07.I2
open Go Go.SE
set_option maxRecDepth 100000
set_option maxHeartbeats 4000000

theorem sp_addw8 {a b : Int} : specI .add .u8 a b ((a + b) % 256) := rfl
attribute [local irreducible] specI

def flipV (x y : Int) : Int := ((x.toNat ^^^ y.toNat : Nat) : Int)
theorem flipV_bd {x y : Int} (hx : 0 ≤ x ∧ x ≤ 255) (hy : 0 ≤ y ∧ y ≤ 255) : 0 ≤ flipV x y ∧ flipV x y ≤ 255 := by
  have h1 : x.toNat ^^^ y.toNat < 2 ^ 8 := Nat.xor_lt_two_pow (by omega) (by omega)
  exact ⟨by unfold flipV; omega, by unfold flipV; omega⟩
theorem flipV_ne {x y : Int} (hx : 0 ≤ x ∧ x ≤ 255) (hy : 1 ≤ y ∧ y ≤ 255) : flipV x y ≠ x := by
  intro h
  have h2 : x.toNat ^^^ y.toNat = x.toNat := by unfold flipV at h; omega
  have h3 : x.toNat ^^^ (x.toNat ^^^ y.toNat) = 0 := by rw [h2, Nat.xor_self]
  rw [← Nat.xor_assoc, Nat.xor_self, Nat.zero_xor] at h3
  omega
theorem byte_bad {L : List Int} (hb : ∀ x ∈ L, 0 ≤ x ∧ x ≤ 255) (h : Good L) {i : Nat} {x : Int} (hi : 1 ≤ i ∧ (i : Int) < hN L) (hx : 0 ≤ x ∧ x ≤ 255) (hne : x ≠ L.getD i 0) : ¬ parseE (L.set i x) = 0 := by
  intro h2
  have g := good_iff.1 h2
  have hh := h.head
  have eN : hN (L.set i x) = hN L := by unfold hN; rw [getD_set_ne (by omega)]
  obtain ⟨m, hm⟩ : ∃ m : Nat, hN L = m := ⟨(hN L).toNat, by omega⟩
  have ht : ((L.set i x).take m) = (L.take m).set i x := by rw [List.take_set]
  have hl : (L.take m).length = m := by rw [List.length_take]; omega
  have w1 : wN L 10 = wN (L.take m) 10 := by unfold wN; rw [getD_take (by omega), getD_take (by omega)]
  have w2 : wN (L.set i x) 10 = wN ((L.take m).set i x) 10 := by
    rw [← ht]; unfold wN; rw [getD_take (by omega), getD_take (by omega)]
  have k1 := h.check
  have k2 := g.check
  unfold kN at k1 k2
  rw [eN, hm] at k2
  rw [hm] at k1
  rw [show ((m : Nat) : Int).toNat = m by omega] at k1 k2
  rw [w1] at k1
  rw [w2, ht] at k2
  have e0 : (L.take m).getD 0 0 = L.getD 0 0 := getD_take (by omega)
  exact hd_set (by omega) (fun y hy => hb y (List.mem_of_mem_take hy)) (by rw [e0]; have := h.ver; omega) (by omega) hx (by rw [getD_take (by omega)]; exact hne) k1 k2
theorem ver_iff {L : List Int} (h : 20 ≤ L.length) : parseE L = 2 ↔ ¬ L.getD 0 0 / 16 = 4 := by
  rcases parse_cases L with ⟨e, _, c1⟩ | ⟨e, _, c1, c2⟩ | ⟨e, _, c1, c2, c3⟩ | ⟨e, _, c1, c2, c3, c4⟩ | ⟨e, _, c1, c2, c3, c4, c5⟩ | ⟨e, _, c1, c2, c3, c4, c5, c6⟩ | ⟨e, _, c1, c2, c3, c4, c5, c6⟩ <;> rw [e]
  · omega
  · exact ⟨fun _ => c2, fun _ => rfl⟩
  all_goals exact ⟨fun h => absurd h (by decide), fun h => absurd c2 h⟩

theorem tmod_bd {x m : Int} (hm : 0 < m) : -m < x.tmod m ∧ x.tmod m < m := by
  have e1 := Int.emod_lt_of_pos x hm
  have e2 := Int.emod_nonneg x (show m ≠ 0 by omega)
  rcases Int.lt_or_le x 0 with h | h
  · have e3 : x.tmod m = -((-x).tmod m) := by rw [Int.neg_tmod]; omega
    have e4 := Int.emod_lt_of_pos (-x) hm
    have e5 := Int.emod_nonneg (-x) (show m ≠ 0 by omega)
    rw [e3, Int.tmod_eq_emod_of_nonneg (by omega)]; omega
  · rw [Int.tmod_eq_emod_of_nonneg h]; omega
theorem tmod_nn {x m : Int} (hm : 0 < m) (h : 0 ≤ x) : 0 ≤ x.tmod m ∧ x.tmod m < m := by
  rw [Int.tmod_eq_emod_of_nonneg h]
  exact ⟨Int.emod_nonneg _ (by omega), Int.emod_lt_of_pos _ hm⟩

theorem con_len {f : FuncId} {n m : Nat} {pre post : List Reg} {res : X} (e : n = m) (h : CallCon Try.prog f [.one (.sl 0 0 n)] pre res post) : CallCon Try.prog f [.one (.sl 0 0 m)] pre res post := by
  subst e; exact h
