/- Contracts of functions of the program, or a row of the seat, proved out of them. No condition beyond those that stand in each statement. -/
import Derived.Test.YtiijiofhofkhkaaS19gX
namespace Go.Proofs.S19
open Go Go.SE
set_option maxRecDepth 100000
set_option maxHeartbeats 4000000

/-! ### the plain law of bytes -/

theorem getD_left {l r : List Int} {i : Nat} (h : i < l.length) : (l ++ r).getD i 0 = l.getD i 0 := by
  rw [List.getD_eq_getElem?_getD, List.getElem?_append_left h, ← List.getD_eq_getElem?_getD]
theorem getD_right {l r : List Int} {i : Nat} (h : l.length ≤ i) : (l ++ r).getD i 0 = r.getD (i - l.length) 0 := by
  rw [List.getD_eq_getElem?_getD, List.getElem?_append_right h, ← List.getD_eq_getElem?_getD]
theorem putK_hd (s : Sh) : ∀ n i, i < 13 → (putK s n).getD i 0 = (putHd s).getD i 0
  | 0, i, _ => rfl
  | n + 1, i, h => by
    show (putK s n ++ putRow (rAt s.rows n)).getD i 0 = _
    rw [getD_left (by rw [putK_len]; omega)]
    exact putK_hd s n i h
theorem putK_row (s : Sh) : ∀ n k j, k < n → j < 13 → (putK s n).getD (13 + 13 * k + j) 0 = (putRow (rAt s.rows k)).getD j 0
  | 0, k, j, h, _ => by omega
  | n + 1, k, j, h, hj => by
    show (putK s n ++ putRow (rAt s.rows n)).getD _ 0 = _
    by_cases e : k = n
    · subst e
      rw [getD_right (by rw [putK_len]; omega), putK_len, show 13 + 13 * k + j - (13 + 13 * k) = j by omega]
    · rw [getD_left (by rw [putK_len]; omega)]
      exact putK_row s n k j (by omega) hj
theorem be4_num {x : Int} (h : 0 ≤ x ∧ x < 4294967296) : ((x / 16777216 % 256 * 256 + x / 65536 % 256) * 256 + x / 256 % 256) * 256 + x / 1 % 256 = x := by omega
theorem be6_num {x : Int} (h : 0 ≤ x ∧ x < 281474976710656) : ((((x / 1099511627776 % 256 * 256 + x / 4294967296 % 256) * 256 + x / 16777216 % 256) * 256 + x / 65536 % 256) * 256 + x / 256 % 256) * 256 + x / 1 % 256 = x := by omega
theorem lt13 {P : Nat → Prop} (h : P 0 ∧ P 1 ∧ P 2 ∧ P 3 ∧ P 4 ∧ P 5 ∧ P 6 ∧ P 7 ∧ P 8 ∧ P 9 ∧ P 10 ∧ P 11 ∧ P 12) : ∀ i, i < 13 → P i := by
  obtain ⟨h0, h1, h2, h3, h4, h5, h6, h7, h8, h9, h10, h11, h12⟩ := h
  intro i hi
  match i, hi with
  | 0, _ => exact h0
  | 1, _ => exact h1
  | 2, _ => exact h2
  | 3, _ => exact h3
  | 4, _ => exact h4
  | 5, _ => exact h5
  | 6, _ => exact h6
  | 7, _ => exact h7
  | 8, _ => exact h8
  | 9, _ => exact h9
  | 10, _ => exact h10
  | 11, _ => exact h11
  | 12, _ => exact h12
  | n + 13, h => omega
theorem ent_ext {a b : Ent} (h1 : a.cur = b.cur) (h2 : a.prev = b.prev) (h3 : a.gen = b.gen) (h4 : a.tick = b.tick) : a = b := by
  cases a; cases b; simp_all
theorem row_ext {a b : Row} (h0 : a.bkt = b.bkt) (h : a.ent = b.ent) : a = b := by
  cases a; cases b; simp_all

/-- A row is in its bytes, wherever these stand. -/
theorem rowAt_of {l : List Int} {off : Nat} {r : Row} (h : ∀ j, j < 13 → l.getD (off + j) 0 = (putRow r).getD j 0) (hb : 0 ≤ r.bkt ∧ r.bkt < 16) (he : okE r.ent) : rowAt l off = r := by
  unfold okE at he
  have g0 : l.getD off 0 = r.bkt / 1 % 256 := h 0 (by decide)
  have g1 : l.getD (off + 1) 0 = (r.ent.cur + 1) / 1 % 256 := h 1 (by decide)
  have g2 : l.getD (off + 2) 0 = (r.ent.prev + 1) / 1 % 256 := h 2 (by decide)
  have g3 : l.getD (off + 3) 0 = r.ent.gen / 16777216 % 256 := h 3 (by decide)
  have g4 : l.getD (off + 4) 0 = r.ent.gen / 65536 % 256 := h 4 (by decide)
  have g5 : l.getD (off + 5) 0 = r.ent.gen / 256 % 256 := h 5 (by decide)
  have g6 : l.getD (off + 6) 0 = r.ent.gen / 1 % 256 := h 6 (by decide)
  have g7 : l.getD (off + 7) 0 = r.ent.tick / 1099511627776 % 256 := h 7 (by decide)
  have g8 : l.getD (off + 8) 0 = r.ent.tick / 4294967296 % 256 := h 8 (by decide)
  have g9 : l.getD (off + 9) 0 = r.ent.tick / 16777216 % 256 := h 9 (by decide)
  have g10 : l.getD (off + 10) 0 = r.ent.tick / 65536 % 256 := h 10 (by decide)
  have g11 : l.getD (off + 11) 0 = r.ent.tick / 256 % 256 := h 11 (by decide)
  have g12 : l.getD (off + 12) 0 = r.ent.tick / 1 % 256 := h 12 (by decide)
  refine row_ext ?_ (ent_ext ?_ ?_ ?_ ?_)
  · show l.getD off 0 = r.bkt
    rw [g0]; omega
  · show l.getD (off + 1) 0 - 1 = r.ent.cur
    rw [g1]; omega
  · show l.getD (off + 2) 0 - 1 = r.ent.prev
    rw [g2]; omega
  · show numAt l (off + 3) 4 = r.ent.gen
    rw [num_lit4, show off + 3 + 1 = off + 4 from rfl, show off + 3 + 2 = off + 5 from rfl, show off + 3 + 3 = off + 6 from rfl, g3, g4, g5, g6]
    exact be4_num (by omega)
  · show numAt l (off + 7) 6 = r.ent.tick
    rw [num_lit6, show off + 7 + 1 = off + 8 from rfl, show off + 7 + 2 = off + 9 from rfl, show off + 7 + 3 = off + 10 from rfl, show off + 7 + 4 = off + 11 from rfl, show off + 7 + 5 = off + 12 from rfl, g7, g8, g9, g10, g11, g12]
    exact be6_num (by omega)
theorem rows_take_get {l : List Row} {k : Nat} (h : k < l.length) : l.take (k + 1) = l.take k ++ [rAt l k] := by
  rw [List.take_succ_eq_append_getElem h]
  simp [rAt, List.getD_eq_getElem?_getD, List.getElem?_eq_getElem h]
theorem tkRows_put {s : Sh} {l : List Int} (hl : ∀ k j, k < s.rows.length → j < 13 → l.getD (13 + 13 * k + j) 0 = (putRow (rAt s.rows k)).getD j 0) (h : ∀ i, i < s.rows.length → okAt s.rows i) : ∀ k, k ≤ s.rows.length → tkRows l k = s.rows.take k
  | 0, _ => by simp [tkRows]
  | k + 1, hk => by
    have hr := h k (by omega)
    show tkRows l k ++ [rowAt l (13 + 13 * k)] = _
    rw [tkRows_put hl h k (by omega), rows_take_get (by omega), rowAt_of (fun j hj => hl k j (by omega) hj) hr.1 hr.2.2]

/-- Bytes that begin as those of a sheet that may be: what their number is. -/
theorem tkN_of {s : Sh} {l : List Int} (hh : l.getD 12 0 = (putHd s).getD 12 0) (hn : s.rows.length ≤ 16) : tkN l = s.rows.length := by
  unfold tkN
  rw [hh]
  show ((s.rows.length : Int) / 1 % 256).toNat = _
  omega
theorem tkRaw_of {s : Sh} {l : List Int} (hs : okSh s) (hh : ∀ i, i < 13 → l.getD i 0 = (putHd s).getD i 0)
    (hl : ∀ k j, k < s.rows.length → j < 13 → l.getD (13 + 13 * k + j) 0 = (putRow (rAt s.rows k)).getD j 0) : tkRaw l = s := by
  obtain ⟨h1, h2, h3⟩ := hs
  unfold okHd at h1
  have hn := tkN_of (hh 12 (by decide)) h1.2.2
  have g0 : l.getD 0 0 = (s.base + 1) / 1099511627776 % 256 := hh 0 (by decide)
  have g1 : l.getD 1 0 = (s.base + 1) / 4294967296 % 256 := hh 1 (by decide)
  have g2 : l.getD 2 0 = (s.base + 1) / 16777216 % 256 := hh 2 (by decide)
  have g3 : l.getD 3 0 = (s.base + 1) / 65536 % 256 := hh 3 (by decide)
  have g4 : l.getD 4 0 = (s.base + 1) / 256 % 256 := hh 4 (by decide)
  have g5 : l.getD 5 0 = (s.base + 1) / 1 % 256 := hh 5 (by decide)
  have g6 : l.getD 6 0 = s.to / 1099511627776 % 256 := hh 6 (by decide)
  have g7 : l.getD 7 0 = s.to / 4294967296 % 256 := hh 7 (by decide)
  have g8 : l.getD 8 0 = s.to / 16777216 % 256 := hh 8 (by decide)
  have g9 : l.getD 9 0 = s.to / 65536 % 256 := hh 9 (by decide)
  have g10 : l.getD 10 0 = s.to / 256 % 256 := hh 10 (by decide)
  have g11 : l.getD 11 0 = s.to / 1 % 256 := hh 11 (by decide)
  refine sh_ext ?_ ?_ ?_
  · show numAt l 0 6 - 1 = s.base
    rw [num_lit6]
    show ((((l.getD 0 0 * 256 + l.getD 1 0) * 256 + l.getD 2 0) * 256 + l.getD 3 0) * 256 + l.getD 4 0) * 256 + l.getD 5 0 - 1 = _
    rw [g0, g1, g2, g3, g4, g5, be6_num (by omega)]
    omega
  · show numAt l 6 6 = s.to
    rw [num_lit6]
    show ((((l.getD 6 0 * 256 + l.getD 7 0) * 256 + l.getD 8 0) * 256 + l.getD 9 0) * 256 + l.getD 10 0) * 256 + l.getD 11 0 = _
    rw [g6, g7, g8, g9, g10, g11, be6_num (by omega)]
  · show tkRows l (tkN l) = s.rows
    rw [hn, tkRows_put hl h3 _ (Nat.le_refl _), List.take_of_length_le (Nat.le_refl _)]

/-- What is put is taken. -/
theorem take_put {s : Sh} (hs : okSh s) : tkSh (putSh s) = s ∧ tkE (putSh s) = 0 := by
  have hp : putSh s = putL s := by unfold putSh; rw [if_pos hs]
  rw [hp]
  have hlen : (putL s).length = 13 + 13 * s.rows.length := putK_len s _
  have hhd := putK_hd s s.rows.length
  have hrow := putK_row s s.rows.length
  have hraw : tkRaw (putL s) = s := tkRaw_of hs (fun i hi => hhd i hi) (fun k j hk hj => hrow k j hk hj)
  have hn : tkN (putL s) = s.rows.length := tkN_of (hhd 12 (by decide)) hs.1.2.2
  have hok : tkOk (putL s) := ⟨⟨by omega, by rw [hn]; exact hlen⟩, by rw [hraw]; exact hs⟩
  have hsh : ¬ tkShort (putL s) := by unfold tkShort; omega
  unfold tkSh tkE
  rw [if_pos hok, if_neg hsh, if_pos hok]
  exact ⟨hraw, rfl⟩
theorem take_less {s : Sh} (hs : okSh s) : tkE ((putSh s).take ((putSh s).length - 1)) = 61 := by
  have hp : putSh s = putL s := by unfold putSh; rw [if_pos hs]
  rw [hp]
  have hlen : (putL s).length = 13 + 13 * s.rows.length := putK_len s _
  have hhd := putK_hd s s.rows.length 12 (by decide)
  have hsh : tkShort ((putL s).take ((putL s).length - 1)) := by
    unfold tkShort
    rw [List.length_take]
    by_cases h0 : s.rows.length = 0
    · left; omega
    · right
      have hn : tkN ((putL s).take ((putL s).length - 1)) = s.rows.length := by
        refine tkN_of ?_ hs.1.2.2
        rw [← hhd]
        show _ = (putL s).getD 12 0
        rw [List.getD_eq_getElem?_getD, List.getElem?_take, if_pos (by omega), ← List.getD_eq_getElem?_getD]
      rw [hn]; omega
  unfold tkE
  rw [if_pos hsh]
theorem take_more {s : Sh} (hs : okSh s) (x : Int) : tkE (putSh s ++ [x]) = 60 := by
  have hp : putSh s = putL s := by unfold putSh; rw [if_pos hs]
  rw [hp]
  have hlen : (putL s).length = 13 + 13 * s.rows.length := putK_len s _
  have hhd := putK_hd s s.rows.length 12 (by decide)
  have hn : tkN (putL s ++ [x]) = s.rows.length := by
    refine tkN_of ?_ hs.1.2.2
    rw [← hhd]
    show _ = (putL s).getD 12 0
    rw [getD_left (by omega)]
  have hl2 : (putL s ++ [x]).length = 14 + 13 * s.rows.length := by simp; omega
  have h1 : ¬ tkShort (putL s ++ [x]) := by unfold tkShort; omega
  have h2 : ¬ tkOk (putL s ++ [x]) := by unfold tkOk; omega
  unfold tkE
  rw [if_neg h1, if_neg h2]
theorem put_inj {s o : Sh} (hs : okSh s) (ho : okSh o) : putSh s = putSh o ↔ s = o := by
  constructor
  · intro h
    rw [← (take_put hs).1, ← (take_put ho).1, h]
  · intro h; rw [h]

/-- What is taken has just those bytes. -/
theorem putRow_at {b : List Int} (hb : Bytes b) (off : Nat) : ∀ j, j < 13 → (putRow (rowAt b off)).getD j 0 = b.getD (off + j) 0 := by
  have y := fun j => byte_bd hb (off + j)
  have y0 := y 0
  have y1 := y 1
  have y2 := y 2
  have y3 := y 3
  have y4 := y 4
  have y5 := y 5
  have y6 := y 6
  have y7 := y 7
  have y8 := y 8
  have y9 := y 9
  have y10 := y 10
  have y11 := y 11
  have y12 := y 12
  have e4 : numAt b (off + 3) 4 = ((b.getD (off + 3) 0 * 256 + b.getD (off + 4) 0) * 256 + b.getD (off + 5) 0) * 256 + b.getD (off + 6) 0 := num_lit4 b (off + 3)
  have e6 : numAt b (off + 7) 6 = ((((b.getD (off + 7) 0 * 256 + b.getD (off + 8) 0) * 256 + b.getD (off + 9) 0) * 256 + b.getD (off + 10) 0) * 256 + b.getD (off + 11) 0) * 256 + b.getD (off + 12) 0 := num_lit6 b (off + 7)
  refine lt13 ⟨?_, ?_, ?_, ?_, ?_, ?_, ?_, ?_, ?_, ?_, ?_, ?_, ?_⟩
  · show b.getD off 0 / 1 % 256 = b.getD (off + 0) 0
    simp only [Nat.add_zero] at y0 ⊢; omega
  · show (b.getD (off + 1) 0 - 1 + 1) / 1 % 256 = b.getD (off + 1) 0
    omega
  · show (b.getD (off + 2) 0 - 1 + 1) / 1 % 256 = b.getD (off + 2) 0
    omega
  · show numAt b (off + 3) 4 / 16777216 % 256 = b.getD (off + 3) 0
    rw [e4]; omega
  · show numAt b (off + 3) 4 / 65536 % 256 = b.getD (off + 4) 0
    rw [e4]; omega
  · show numAt b (off + 3) 4 / 256 % 256 = b.getD (off + 5) 0
    rw [e4]; omega
  · show numAt b (off + 3) 4 / 1 % 256 = b.getD (off + 6) 0
    rw [e4]; omega
  · show numAt b (off + 7) 6 / 1099511627776 % 256 = b.getD (off + 7) 0
    rw [e6]; omega
  · show numAt b (off + 7) 6 / 4294967296 % 256 = b.getD (off + 8) 0
    rw [e6]; omega
  · show numAt b (off + 7) 6 / 16777216 % 256 = b.getD (off + 9) 0
    rw [e6]; omega
  · show numAt b (off + 7) 6 / 65536 % 256 = b.getD (off + 10) 0
    rw [e6]; omega
  · show numAt b (off + 7) 6 / 256 % 256 = b.getD (off + 11) 0
    rw [e6]; omega
  · show numAt b (off + 7) 6 / 1 % 256 = b.getD (off + 12) 0
    rw [e6]; omega
theorem tkRows_at (b : List Int) : ∀ n k, k < n → rAt (tkRows b n) k = rowAt b (13 + 13 * k)
  | 0, k, h => by omega
  | n + 1, k, h => by
    show (tkRows b n ++ [rowAt b (13 + 13 * n)]).getD k zeroRow = _
    rw [List.getD_eq_getElem?_getD]
    by_cases e : k = n
    · subst e
      rw [List.getElem?_append_right (by rw [tkRows_len]; exact Nat.le_refl _), tkRows_len, Nat.sub_self]; rfl
    · rw [List.getElem?_append_left (by rw [tkRows_len]; omega), ← List.getD_eq_getElem?_getD]
      exact tkRows_at b n k (by omega)
theorem putHd_raw {b : List Int} (hb : Bytes b) : ∀ i, i < 13 → (putHd (tkRaw b)).getD i 0 = b.getD i 0 := by
  have y := fun j => byte_bd hb j
  have y0 := y 0
  have y1 := y 1
  have y2 := y 2
  have y3 := y 3
  have y4 := y 4
  have y5 := y 5
  have y6 := y 6
  have y7 := y 7
  have y8 := y 8
  have y9 := y 9
  have y10 := y 10
  have y11 := y 11
  have y12 := y 12
  have e0 : numAt b 0 6 = ((((b.getD 0 0 * 256 + b.getD 1 0) * 256 + b.getD 2 0) * 256 + b.getD 3 0) * 256 + b.getD 4 0) * 256 + b.getD 5 0 := num_lit6 b 0
  have e6 : numAt b 6 6 = ((((b.getD 6 0 * 256 + b.getD 7 0) * 256 + b.getD 8 0) * 256 + b.getD 9 0) * 256 + b.getD 10 0) * 256 + b.getD 11 0 := num_lit6 b 6
  refine lt13 ⟨?_, ?_, ?_, ?_, ?_, ?_, ?_, ?_, ?_, ?_, ?_, ?_, ?_⟩
  · show (numAt b 0 6 - 1 + 1) / 1099511627776 % 256 = b.getD 0 0
    rw [e0]; omega
  · show (numAt b 0 6 - 1 + 1) / 4294967296 % 256 = b.getD 1 0
    rw [e0]; omega
  · show (numAt b 0 6 - 1 + 1) / 16777216 % 256 = b.getD 2 0
    rw [e0]; omega
  · show (numAt b 0 6 - 1 + 1) / 65536 % 256 = b.getD 3 0
    rw [e0]; omega
  · show (numAt b 0 6 - 1 + 1) / 256 % 256 = b.getD 4 0
    rw [e0]; omega
  · show (numAt b 0 6 - 1 + 1) / 1 % 256 = b.getD 5 0
    rw [e0]; omega
  · show numAt b 6 6 / 1099511627776 % 256 = b.getD 6 0
    rw [e6]; omega
  · show numAt b 6 6 / 4294967296 % 256 = b.getD 7 0
    rw [e6]; omega
  · show numAt b 6 6 / 16777216 % 256 = b.getD 8 0
    rw [e6]; omega
  · show numAt b 6 6 / 65536 % 256 = b.getD 9 0
    rw [e6]; omega
  · show numAt b 6 6 / 256 % 256 = b.getD 10 0
    rw [e6]; omega
  · show numAt b 6 6 / 1 % 256 = b.getD 11 0
    rw [e6]; omega
  · show ((tkRows b (tkN b)).length : Int) / 1 % 256 = b.getD 12 0
    rw [tkRows_len]; unfold tkN; omega
theorem put_take {b : List Int} (hb : Bytes b) (h : tkOk b) : putSh (tkSh b) = b := by
  have hs : tkSh b = tkRaw b := by unfold tkSh; rw [if_pos h]
  rw [hs]
  obtain ⟨⟨h1, h2⟩, h3⟩ := h
  have hp : putSh (tkRaw b) = putL (tkRaw b) := by unfold putSh; rw [if_pos h3]
  rw [hp]
  have hr : (tkRaw b).rows.length = tkN b := tkRows_len b _
  have hlen : (putL (tkRaw b)).length = 13 + 13 * tkN b := by unfold putL; rw [putK_len, hr]
  have key : ∀ i, i < b.length → (putL (tkRaw b)).getD i 0 = b.getD i 0 := by
    intro i hi
    by_cases h13 : i < 13
    · unfold putL
      rw [putK_hd _ _ i h13]
      exact putHd_raw hb i h13
    · obtain ⟨k, j, hk, hj, rfl⟩ : ∃ k j, k < tkN b ∧ j < 13 ∧ i = 13 + 13 * k + j := ⟨(i - 13) / 13, (i - 13) % 13, by omega, by omega, by omega⟩
      unfold putL
      rw [putK_row _ _ k j (by omega) hj]
      show (putRow (rAt (tkRows b (tkN b)) k)).getD j 0 = _
      rw [tkRows_at b _ k hk]
      exact putRow_at hb _ j hj
  apply List.ext_getElem (by omega)
  intro i q1 q2
  have := key i q2
  simpa [List.getD_eq_getElem?_getD, List.getElem?_eq_getElem q1, List.getElem?_eq_getElem q2] using this
end Go.Proofs.S19
