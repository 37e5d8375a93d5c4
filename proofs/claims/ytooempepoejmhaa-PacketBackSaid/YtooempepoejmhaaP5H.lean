/- Contracts of functions of the program, or a row of the seat, proved out of them. No condition beyond those that stand in each statement. -/
import Derived.Test.YtooempepoejmhaaP5G
namespace Go.Proofs.P2
open Go Go.SE
set_option maxRecDepth 100000
set_option maxHeartbeats 4000000

def bitV (s : Int) : Int := if s = 0 then 1 else if s = 1 then 2 else if s = 2 then 4 else if s = 3 then 8 else if s = 4 then 16 else if s = 5 then 32 else if s = 6 then 64 else 128
theorem sp_bit {s : Int} (h0 : 0 ≤ s) (h1 : s < 8) : specI .shl .u8 1 s (bitV s) := by
  have : s = 0 ∨ s = 1 ∨ s = 2 ∨ s = 3 ∨ s = 4 ∨ s = 5 ∨ s = 6 ∨ s = 7 := by omega
  unfold specI
  rcases this with h | h | h | h | h | h | h | h <;> subst h <;> exact ⟨by decide, by decide⟩
theorem bitV_bd (s : Int) : 1 ≤ bitV s ∧ bitV s ≤ 255 := by
  unfold bitV
  repeat' split
  all_goals decide
def flipV (x y : Int) : Int := ((x.toNat ^^^ y.toNat : Nat) : Int)
theorem flipV_bd {x y : Int} (hx : 0 ≤ x ∧ x ≤ 255) (hy : 0 ≤ y ∧ y ≤ 255) : 0 ≤ flipV x y ∧ flipV x y ≤ 255 := by
  have h1 : x.toNat ^^^ y.toNat < 2 ^ 8 := Nat.xor_lt_two_pow (by omega) (by omega)
  exact ⟨by unfold flipV; omega, by unfold flipV; omega⟩
theorem flipV_ne {x y : Int} (hx : 0 ≤ x ∧ x ≤ 255) (hy : 1 ≤ y ∧ y ≤ 255) : flipV x y ≠ x := by
  intro h
  have h2 : x.toNat ^^^ y.toNat = x.toNat := by unfold flipV at h; omega
  have h3 : x.toNat ^^^ (x.toNat ^^^ y.toNat) = 0 := by rw [h2, Nat.xor_self]
  rw [← Nat.xor_assoc, Nat.xor_self, Nat.zero_xor] at h3
  omega
theorem getD_app {L : List Int} (r : List Int) {i : Nat} (h : i < L.length) : (L ++ r).getD i 0 = L.getD i 0 := by
  rw [List.getD_eq_getElem?_getD, List.getElem?_append_left h, ← List.getD_eq_getElem?_getD]
theorem getD_take {L : List Int} {i m : Nat} (h : i < m) : (L.take m).getD i 0 = L.getD i 0 := by
  rw [List.getD_eq_getElem?_getD, List.getElem?_take, if_pos h, ← List.getD_eq_getElem?_getD]
theorem getD_set_ne {L : List Int} {i j : Nat} {x : Int} (h : i ≠ j) : (L.set i x).getD j 0 = L.getD j 0 := by
  rw [List.getD_eq_getElem?_getD, List.getElem?_set_ne h, ← List.getD_eq_getElem?_getD]
theorem getD_set_eq {L : List Int} {i : Nat} {x : Int} (h : i < L.length) : (L.set i x).getD i 0 = x := by
  rw [List.getD_eq_getElem?_getD, List.getElem?_set_self h]; rfl

/-- What is so of bytes that are a head's. -/
structure Good (L : List Int) : Prop where
  len : 20 ≤ L.length
  ver : L.getD 0 0 / 16 = 4
  head : 20 ≤ hN L ∧ hN L ≤ L.length
  size : wN L 2 = L.length
  check : wN L 10 = kN L
  flags : wN L 6 = 0 ∨ wN L 6 = 16384
theorem good_iff {L : List Int} : parseE L = 0 ↔ Good L := by
  rcases parse_cases L with ⟨e, _, c1⟩ | ⟨e, _, c1, c2⟩ | ⟨e, _, c1, c2, c3⟩ | ⟨e, _, c1, c2, c3, c4⟩ | ⟨e, _, c1, c2, c3, c4, c5⟩ | ⟨e, _, c1, c2, c3, c4, c5, c6⟩ | ⟨e, _, c1, c2, c3, c4, c5, c6⟩ <;> rw [e]
  · exact ⟨fun h => absurd h (by decide), fun h => by have := h.len; omega⟩
  · exact ⟨fun h => absurd h (by decide), fun h => absurd h.ver c2⟩
  · exact ⟨fun h => absurd h (by decide), fun h => by have := h.head; omega⟩
  · exact ⟨fun h => absurd h (by decide), fun h => absurd h.size c4⟩
  · exact ⟨fun h => absurd h (by decide), fun h => absurd h.check c5⟩
  · exact ⟨fun h => absurd h (by decide), fun h => absurd h.flags c6⟩
  · exact ⟨fun _ => ⟨c1, c2, c3, c4, c5, c6⟩, fun _ => rfl⟩
theorem parse_not {L : List Int} (h : ¬ parseE L = 0) : parseS L = zeroHd := by unfold parseS; rw [if_neg h]
theorem parse_le (L : List Int) : 0 ≤ parseE L ∧ parseE L ≤ 6 := by
  rcases parse_cases L with ⟨e, _⟩ | ⟨e, _⟩ | ⟨e, _⟩ | ⟨e, _⟩ | ⟨e, _⟩ | ⟨e, _⟩ | ⟨e, _⟩ <;> rw [e] <;> decide
theorem byte_bad {L : List Int} (hb : ∀ x ∈ L, 0 ≤ x ∧ x ≤ 255) (h : Good L) {i : Nat} {x : Int} (hi : 1 ≤ i ∧ (i : Int) < hN L) (hx : 0 ≤ x ∧ x ≤ 255) (hne : x ≠ L.getD i 0) : ¬ parseE (L.set i x) = 0 := by
  intro h2
  have g := good_iff.1 h2
  have hh := h.head
  have eN : hN (L.set i x) = hN L := by unfold hN; rw [getD_set_ne (by omega)]
  obtain ⟨m, hm⟩ : ∃ m : Nat, hN L = m := ⟨(hN L).toNat, by omega⟩
  have ht : ((L.set i x).take m) = (L.take m).set i x := by rw [List.take_set]
  have hl : (L.take m).length = m := by rw [List.length_take]; omega
  have w1 : wN L 10 = wN (L.take m) 10 := by unfold wN; rw [getD_take (by omega), getD_take (by omega)]
  have w2 : wN (L.set i x) 10 = wN ((L.take m).set i x) 10 := by
    rw [← ht]; unfold wN; rw [getD_take (by omega), getD_take (by omega)]
  have k1 := h.check
  have k2 := g.check
  unfold kN at k1 k2
  rw [eN, hm] at k2
  rw [hm] at k1
  rw [show ((m : Nat) : Int).toNat = m by omega] at k1 k2
  rw [w1] at k1
  rw [w2, ht] at k2
  have e0 : (L.take m).getD 0 0 = L.getD 0 0 := getD_take (by omega)
  exact hd_set (by omega) (fun y hy => hb y (List.mem_of_mem_take hy)) (by rw [e0]; have := h.ver; omega) (by omega) hx (by rw [getD_take (by omega)]; exact hne) k1 k2
theorem tmod_bd {x m : Int} (hm : 0 < m) : -m < x.tmod m ∧ x.tmod m < m := by
  have e1 := Int.emod_lt_of_pos x hm
  have e2 := Int.emod_nonneg x (show m ≠ 0 by omega)
  rcases Int.lt_or_le x 0 with h | h
  · have e3 : x.tmod m = -((-x).tmod m) := by rw [Int.neg_tmod]; omega
    have e4 := Int.emod_lt_of_pos (-x) hm
    have e5 := Int.emod_nonneg (-x) (show m ≠ 0 by omega)
    rw [e3, Int.tmod_eq_emod_of_nonneg (by omega)]; omega
  · rw [Int.tmod_eq_emod_of_nonneg h]; omega
theorem tmod_nn {x m : Int} (hm : 0 < m) (h : 0 ≤ x) : 0 ≤ x.tmod m ∧ x.tmod m < m := by
  rw [Int.tmod_eq_emod_of_nonneg h]
  exact ⟨Int.emod_nonneg _ (by omega), Int.emod_lt_of_pos _ hm⟩

end Go.Proofs.P2
namespace Go.Proofs.P5
open Go Go.SE
attribute [local irreducible] specI

theorem make_parse {t : Tu} {f : Int} {b : List Int} (h : t.Wf) (hb : ∀ x ∈ b, 0 ≤ x ∧ x ≤ 255) (hl : b.length ≤ 4000) :
    P2.parseE (P2.putL (hdOf t b)) = 0 ∧ P2.parseS (P2.putL (hdOf t b)) = hdOf t b := P2.put_parse (hd_wf h hb hl) (hd_ok t b)
theorem make_back {t : Tu} {f : Int} {d : List Int} (h : t.Wf) (hf : 0 ≤ f ∧ f ≤ 255) (hd : ∀ x ∈ d, 0 ≤ x ∧ x ≤ 255) (hl : d.length ≤ 3000) :
    pkE (makeL t f d) = 0 ∧ pkS (makeL t f d) = ⟨t.src, t.dst, t.sport, t.dport, f, makeL t f d⟩ := by
  obtain ⟨e1, e2⟩ := make_parse (f := f) h (tcp_bytes h hf hd hl) (by rw [tcp_len]; omega)
  obtain ⟨e3, e4⟩ := P3.parse_put (a := t.src) (b := t.dst) (seg_wf h hf hd hl) (seg_ok t f d)
  change P2.parseE (makeL t f d) = 0 at e1
  change P2.parseS (makeL t f d) = _ at e2
  have e5 : tcpE (makeL t f d) = 0 := by unfold tcpE; rw [e2]; exact e3
  have e6 : tcpS (makeL t f d) = segOf t f d := by unfold tcpS; rw [e2]; exact e4
  have e7 : pkE (makeL t f d) = 0 := by
    unfold pkE
    rw [if_neg (fun k => k e1), if_neg (fun k => k (by rw [e2]; rfl)), e5]
  refine ⟨e7, ?_⟩
  unfold pkS pkR
  rw [if_pos e7, e6, e2]
  rfl
theorem hd_head (t : Tu) (b : List Int) (k : Int) : (P2.headL (hdOf t b) k).length = 20 := rfl
theorem hd_same {t : Tu} {b c : List Int} (h : b.length = c.length) (k : Int) : P2.headL (hdOf t b) k = P2.headL (hdOf t c) k := by
  unfold P2.headL P2.baseL hdOf
  simp only [h]
theorem ip_put (t : Tu) (b : List Int) : P2.putL (hdOf t b) = P2.headL (hdOf t b) (P2.putK (hdOf t b)) ++ b := by
  unfold P2.putL
  rw [if_pos (hd_ok t b)]
  rfl
theorem make_set {t : Tu} {b : List Int} {i : Nat} {x : Int} (hi : 20 ≤ i) : (P2.putL (hdOf t b)).set i x = P2.putL (hdOf t (b.set (i - 20) x)) := by
  have e : P2.putK (hdOf t (b.set (i - 20) x)) = P2.putK (hdOf t b) := by
    unfold P2.putK
    rw [hd_same (List.length_set)]
  rw [ip_put, ip_put, e, hd_same (List.length_set), List.set_append_right _ _ (by rw [hd_head]; exact hi), hd_head]
theorem make_drop (t : Tu) (f : Int) (d : List Int) : (makeL t f d).drop 40 = d := by
  unfold makeL
  rw [ip_put, show 40 = 20 + 20 from rfl, ← List.drop_drop, ← hd_head t (tcpL t f d) (P2.putK (hdOf t (tcpL t f d))), List.drop_left, hd_head]
  unfold tcpL P3.putL
  rw [if_pos (seg_ok t f d)]
  rfl
/-- A byte behind the first one is another: it is told, of what it is. -/
theorem make_bad {t : Tu} {f : Int} {d : List Int} {i : Nat} {x : Int} (h : t.Wf) (hf : 0 ≤ f ∧ f ≤ 255) (hd : ∀ x ∈ d, 0 ≤ x ∧ x ≤ 255) (hl : d.length ≤ 3000) (h1 : 1 ≤ i) (h2 : i < (makeL t f d).length) (hx : 0 ≤ x ∧ x ≤ 255) (hne : x ≠ (makeL t f d).getD i 0) :
    ((i < 20 ∧ 1 ≤ pkE ((makeL t f d).set i x) ∧ pkE ((makeL t f d).set i x) ≤ 6) ∨ (20 ≤ i ∧ (pkE ((makeL t f d).set i x) = 8 ∨ pkE ((makeL t f d).set i x) = 9))) ∧ pkS ((makeL t f d).set i x) = zeroPk := by
  have hz : ∀ l, ¬ pkE l = 0 → pkS l = zeroPk := fun l k => by unfold pkS; rw [if_neg k]
  have hb := make_bytes h hf hd hl
  obtain ⟨e1, e2⟩ := make_parse (f := f) h (tcp_bytes h hf hd hl) (by rw [tcp_len]; omega)
  by_cases hi : i < 20
  · have hN : P2.hN (makeL t f d) = 20 := by
      unfold makeL
      rw [ip_put]
      show ((69 : Int) + ((0 : Nat) : Int) / 4) % 16 * 4 = 20
      decide
    have hbad := P2.byte_bad hb (P2.good_iff.1 e1) (i := i) (x := x) ⟨h1, by show (i : Int) < P2.hN (makeL t f d); rw [hN]; omega⟩ hx hne
    have hle := P2.parse_le ((makeL t f d).set i x)
    have e : pkE ((makeL t f d).set i x) = P2.parseE ((makeL t f d).set i x) := by unfold pkE; rw [if_pos hbad]
    refine ⟨.inl ⟨hi, ?_⟩, hz _ (by rw [e]; exact hbad)⟩
    rw [e]
    change ¬ P2.parseE ((makeL t f d).set i x) = 0 at hbad
    omega
  · have hlen := make_len (t := t) (f := f) (d := d)
    have htl := tcp_len (t := t) (f := f) (d := d)
    have hs : (makeL t f d).set i x = P2.putL (hdOf t ((tcpL t f d).set (i - 20) x)) := make_set (by omega)
    have htb := tcp_bytes h hf hd hl
    obtain ⟨p1, p2⟩ := make_parse (f := f) h (b := (tcpL t f d).set (i - 20) x) (P2.mem_set htb hx) (by rw [List.length_set, tcp_len]; omega)
    have hg : (makeL t f d).getD i 0 = (tcpL t f d).getD (i - 20) 0 := by
      unfold makeL
      rw [ip_put, List.getD_eq_getElem?_getD, List.getElem?_append_right (by rw [hd_head]; omega), hd_head, ← List.getD_eq_getElem?_getD]
    rw [hg] at hne
    have hsum : P3.okSum t.src t.dst (tcpL t f d) := by
      unfold tcpL P3.putL
      rw [if_pos (seg_ok t f d)]
      exact P3.okSum_seg (seg_wf h hf hd hl) (seg_ok t f d)
    obtain ⟨z1, z2⟩ := P3.parse_zero (P3.okSum_set (i := i - 20) htb (by omega) hx hne hsum)
    have e : pkE ((makeL t f d).set i x) = P3.parseE t.src t.dst ((tcpL t f d).set (i - 20) x) := by
      unfold pkE tcpE
      rw [hs, if_neg (fun k => k p1), if_neg (fun k => k (by rw [p2]; rfl)), p2]
      rfl
    refine ⟨.inr ⟨by omega, by rw [e]; exact z1⟩, hz _ ?_⟩
    rw [e]
    rcases z1 with z1 | z1 <;> rw [z1] <;> decide
