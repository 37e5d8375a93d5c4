/- Contracts of functions of the program, or a row of the seat, proved out of them. No condition beyond those that stand in each statement. -/
import Derived.Test.YtcnijhilkemplaaS07h2K
namespace Go.Proofs.S07.I2
open Go Go.SE
set_option maxRecDepth 100000
set_option maxHeartbeats 4000000

theorem consx (l : List Int) (h : 1 ≤ l.length) : ∃ a r, l = a :: r := by
  cases l with
  | nil => simp at h
  | cons a r => exact ⟨a, r, rfl⟩
theorem len20 {l : List Int} (h : 20 ≤ l.length) : ∃ a0 a1 a2 a3 a4 a5 a6 a7 a8 a9 a10 a11 a12 a13 a14 a15 a16 a17 a18 a19 r, l = a0 :: a1 :: a2 :: a3 :: a4 :: a5 :: a6 :: a7 :: a8 :: a9 :: a10 :: a11 :: a12 :: a13 :: a14 :: a15 :: a16 :: a17 :: a18 :: a19 :: r := by
  obtain ⟨a0, l1, rfl⟩ := consx l (by omega)
  replace h : 19 ≤ l1.length := by simp only [List.length_cons] at h; omega
  obtain ⟨a1, l2, rfl⟩ := consx l1 (by omega)
  replace h : 18 ≤ l2.length := by simp only [List.length_cons] at h; omega
  obtain ⟨a2, l3, rfl⟩ := consx l2 (by omega)
  replace h : 17 ≤ l3.length := by simp only [List.length_cons] at h; omega
  obtain ⟨a3, l4, rfl⟩ := consx l3 (by omega)
  replace h : 16 ≤ l4.length := by simp only [List.length_cons] at h; omega
  obtain ⟨a4, l5, rfl⟩ := consx l4 (by omega)
  replace h : 15 ≤ l5.length := by simp only [List.length_cons] at h; omega
  obtain ⟨a5, l6, rfl⟩ := consx l5 (by omega)
  replace h : 14 ≤ l6.length := by simp only [List.length_cons] at h; omega
  obtain ⟨a6, l7, rfl⟩ := consx l6 (by omega)
  replace h : 13 ≤ l7.length := by simp only [List.length_cons] at h; omega
  obtain ⟨a7, l8, rfl⟩ := consx l7 (by omega)
  replace h : 12 ≤ l8.length := by simp only [List.length_cons] at h; omega
  obtain ⟨a8, l9, rfl⟩ := consx l8 (by omega)
  replace h : 11 ≤ l9.length := by simp only [List.length_cons] at h; omega
  obtain ⟨a9, l10, rfl⟩ := consx l9 (by omega)
  replace h : 10 ≤ l10.length := by simp only [List.length_cons] at h; omega
  obtain ⟨a10, l11, rfl⟩ := consx l10 (by omega)
  replace h : 9 ≤ l11.length := by simp only [List.length_cons] at h; omega
  obtain ⟨a11, l12, rfl⟩ := consx l11 (by omega)
  replace h : 8 ≤ l12.length := by simp only [List.length_cons] at h; omega
  obtain ⟨a12, l13, rfl⟩ := consx l12 (by omega)
  replace h : 7 ≤ l13.length := by simp only [List.length_cons] at h; omega
  obtain ⟨a13, l14, rfl⟩ := consx l13 (by omega)
  replace h : 6 ≤ l14.length := by simp only [List.length_cons] at h; omega
  obtain ⟨a14, l15, rfl⟩ := consx l14 (by omega)
  replace h : 5 ≤ l15.length := by simp only [List.length_cons] at h; omega
  obtain ⟨a15, l16, rfl⟩ := consx l15 (by omega)
  replace h : 4 ≤ l16.length := by simp only [List.length_cons] at h; omega
  obtain ⟨a16, l17, rfl⟩ := consx l16 (by omega)
  replace h : 3 ≤ l17.length := by simp only [List.length_cons] at h; omega
  obtain ⟨a17, l18, rfl⟩ := consx l17 (by omega)
  replace h : 2 ≤ l18.length := by simp only [List.length_cons] at h; omega
  obtain ⟨a18, l19, rfl⟩ := consx l18 (by omega)
  replace h : 1 ≤ l19.length := by simp only [List.length_cons] at h; omega
  obtain ⟨a19, l20, rfl⟩ := consx l19 (by omega)
  replace h : 0 ≤ l20.length := by simp only [List.length_cons] at h; omega
  exact ⟨a0, a1, a2, a3, a4, a5, a6, a7, a8, a9, a10, a11, a12, a13, a14, a15, a16, a17, a18, a19, l20, rfl⟩

def sumT (l : List Int) : Int := total (words l)
theorem sumT_set : ∀ (l : List Int) (i : Nat) (x : Int), i < l.length → sumT (l.set i x) = sumT l + (x - l.getD i 0) * (if i % 2 = 0 then 256 else 1)
  | [], i, x, h => by simp at h
  | [a], 0, x, _ => by simp [sumT, words, total]; omega
  | [a], i + 1, x, h => by simp at h
  | a :: b :: r, 0, x, _ => by simp [sumT, words, total]; omega
  | a :: b :: r, 1, x, _ => by simp [sumT, words, total]; omega
  | a :: b :: r, i + 2, x, h => by
    have := sumT_set r i x (by simpa using h)
    have e : (i + 2) % 2 = i % 2 := by omega
    simp only [sumT] at this
    simp only [List.set_cons_succ, sumT, words, total, List.getD_cons_succ, e, this]
    omega
theorem sumT_pos {l : List Int} (hb : ∀ x ∈ l, 0 ≤ x ∧ x ≤ 255) : 0 ≤ sumT l := total_bd (words_bd hb).1
theorem sumW_eq (l : List Int) : sumW l = fold (sumT l) := rfl

theorem sumT_zero {l : List Int} (h : 12 ≤ l.length) : sumT (zeroK l) + wN l 10 = sumT l := by
  unfold zeroK
  rw [sumT_set _ 11 0 (by rw [List.length_set]; omega), sumT_set _ 10 0 (by omega)]
  have e : (l.set 10 0).getD 11 0 = l.getD 11 0 := by simp [List.getD_eq_getElem?_getD]
  rw [e]
  simp only [wN, Nat.reduceAdd]
  try simp only [Nat.reduceMod, Nat.one_ne_zero, if_false, if_true]
  omega
theorem zero_pos {l : List Int} (h : 12 ≤ l.length) (hb : ∀ x ∈ l, 0 ≤ x ∧ x ≤ 255) (h0 : 1 ≤ l.getD 0 0) : 1 ≤ sumT (zeroK l) := by
  match l, h with
  | a :: b :: r, h =>
    have h1 : 1 ≤ a := h0
    have hz := zeroK_bd hb
    have e : zeroK (a :: b :: r) = a :: b :: ((r.set 8 0).set 9 0) := rfl
    rw [e] at hz ⊢
    have h2 := sumT_pos (l := (r.set 8 0).set 9 0) fun x hx => hz x (by simp [hx])
    have h3 := (hz b (by simp)).1
    simp only [sumT, words, total] at h2 ⊢
    omega
/-- Where the check is right, the sum of all words is 0 in ones' complement. -/
theorem hd_sum {h : List Int} (hl : 12 ≤ h.length) (hb : ∀ x ∈ h, 0 ≤ x ∧ x ≤ 255) (h0 : 1 ≤ h.getD 0 0) (hk : wN h 10 = 65535 - sumW (zeroK h)) : sumT h % 65535 = 0 ∧ sumW h = 65535 := by
  have h1 := sumT_zero hl
  have h2 := zero_pos hl hb h0
  rw [sumW_eq] at hk ⊢
  have h3 : fold (sumT (zeroK h)) = (sumT (zeroK h) - 1) % 65535 + 1 := by unfold fold; rw [if_neg (by omega)]
  rw [h3] at hk
  have h4 : sumT h % 65535 = 0 := by omega
  refine ⟨h4, ?_⟩
  unfold fold
  have : 0 < sumT h := by omega
  rw [if_neg (by omega)]
  omega
/-- With one byte changed it is not right. -/
theorem hd_set {h : List Int} {i : Nat} {x : Int} (hl : 12 ≤ h.length) (hb : ∀ x ∈ h, 0 ≤ x ∧ x ≤ 255) (h0 : 1 ≤ h.getD 0 0) (hi : 1 ≤ i ∧ i < h.length) (hx : 0 ≤ x ∧ x ≤ 255) (hne : x ≠ h.getD i 0) (hk : wN h 10 = 65535 - sumW (zeroK h)) : ¬ wN (h.set i x) 10 = 65535 - sumW (zeroK (h.set i x)) := by
  intro hk2
  have h1 := (hd_sum hl hb h0 hk).1
  have hg := getD_bd hb (by decide) i
  have e0 : (h.set i x).getD 0 0 = h.getD 0 0 := by
    rw [List.getD_eq_getElem?_getD, List.getElem?_set_ne (by omega), ← List.getD_eq_getElem?_getD]
  have h2 := (hd_sum (h := h.set i x) (by rw [List.length_set]; exact hl) (mem_set hb hx) (by rw [e0]; exact h0) hk2).1
  rw [sumT_set h i x hi.2] at h2
  generalize sumT h = s at *
  split at h2 <;> omega

theorem take_head {t : Hd} {k : Int} : (headL t k ++ t.pay).take (20 + t.opts.length) = headL t k := by
  rw [← head_len (t := t) (k := k), List.take_left]
theorem zero_head {t : Hd} {k : Int} : zeroK (headL t k) = headL t 0 := rfl
theorem hN_head {t : Hd} {k : Int} (hok : okHd t) : hN (headL t k ++ t.pay) = 20 + t.opts.length := by
  show (69 + (t.opts.length : Int) / 4) % 16 * 4 = _
  unfold okHd at hok; omega
theorem put_parse {t : Hd} (h : t.Wf) (hok : okHd t) : parseE (putL t) = 0 ∧ parseS (putL t) = t := by
  have e : putL t = headL t (putK t) ++ t.pay := by simp [putL, hok]
  have hk := putK_bd h hok
  have hh := hN_head (k := putK t) hok
  have hlen : (headL t (putK t) ++ t.pay).length = 20 + t.opts.length + t.pay.length := by rw [List.length_append, head_len]
  have hkn : kN (headL t (putK t) ++ t.pay) = putK t := by
    unfold kN
    rw [hh, show ((20 : Int) + t.opts.length).toNat = 20 + t.opts.length by omega, take_head, zero_head]; rfl
  rw [e]
  generalize putK t = k at *
  obtain ⟨⟨h1, h2, h3, h4, h5, h6, h7, h8, h9⟩, h10, h11⟩ := h
  have hok' := hok
  unfold okHd at hok
  have w2 : wN (headL t k ++ t.pay) 2 = 20 + t.opts.length + t.pay.length := by
    show (20 + t.opts.length + t.pay.length : Int) / 256 * 256 + (20 + t.opts.length + t.pay.length : Int) % 256 = _
    omega
  have w10 : wN (headL t k ++ t.pay) 10 = k := by
    show k / 256 * 256 + k % 256 = k
    omega
  have w6 : wN (headL t k ++ t.pay) 6 = t.flags := by
    show t.flags / 256 * 256 + t.flags % 256 = t.flags
    omega
  have g0 : (headL t k ++ t.pay).getD 0 0 / 16 = 4 := by
    show (69 + (t.opts.length : Int) / 4) / 16 = 4
    omega
  have hE : parseE (headL t k ++ t.pay) = 0 := by
    unfold parseE
    rw [if_neg (by omega), if_neg (fun hn => hn g0), if_neg (by rw [hh, hlen]; omega), if_neg (fun hn => hn (by rw [w2, hlen]; omega)), if_neg (fun hn => hn (by rw [w10, hkn])), if_neg (fun hn => hn (by rw [w6]; omega))]
  refine ⟨hE, ?_⟩
  unfold parseS
  rw [if_pos hE]
  unfold readS
  rw [hh, show ((20 : Int) + t.opts.length).toNat = 20 + t.opts.length by omega]
  have o1 : ((headL t k ++ t.pay).drop 20).take (20 + t.opts.length - 20) = t.opts := by
    show (t.opts ++ t.pay).take (20 + t.opts.length - 20) = t.opts
    rw [Nat.add_sub_cancel_left, List.take_left]
  have o2 : (headL t k ++ t.pay).drop (20 + t.opts.length) = t.pay := by
    rw [← head_len (t := t) (k := k), List.drop_left]
  rw [o1, o2, w6]
  have w4 : wN (headL t k ++ t.pay) 4 = t.number := by
    show t.number / 256 * 256 + t.number % 256 = _
    omega
  have s1 : wN (headL t k ++ t.pay) 12 * 65536 + wN (headL t k ++ t.pay) 14 = t.src := by
    show (t.src / 65536 / 256 * 256 + t.src / 65536 % 256) * 65536 + (t.src % 65536 / 256 * 256 + t.src % 65536 % 256) = _
    omega
  have s2 : wN (headL t k ++ t.pay) 16 * 65536 + wN (headL t k ++ t.pay) 18 = t.dst := by
    show (t.dst / 65536 / 256 * 256 + t.dst / 65536 % 256) * 65536 + (t.dst % 65536 / 256 * 256 + t.dst % 65536 % 256) = _
    omega
  rw [w4, s1, s2]
  rfl
theorem put_bytes {t : Hd} (h : t.Wf) : ∀ x ∈ putL t, 0 ≤ x ∧ x ≤ 255 := by
  unfold putL
  split
  · rename_i hok
    intro x hx
    rcases List.mem_append.mp hx with hx | hx
    · exact head_bytes h hok (putK_bd h hok) x hx
    · exact h.pay x hx
  · simp
theorem put_len {t : Hd} : (putL t).length = if okHd t then 20 + t.opts.length + t.pay.length else 0 := by
  unfold putL
  split
  · rw [List.length_append, head_len]
  · rfl
theorem zero_wf : zeroHd.Wf := ⟨⟨by decide, by decide, by decide, by decide, by decide, by decide, by decide, by simp [zeroHd], by simp [zeroHd]⟩, by decide, by decide⟩
theorem parse_wf {l : List Int} (hb : ∀ x ∈ l, 0 ≤ x ∧ x ≤ 255) (hl : l.length ≤ 4000) : (parseS l).Wf := by
  unfold parseS
  split
  · have g := fun i => getD_bd hb (by decide) i
    refine ⟨⟨g 1, ?_, ?_, g 8, g 9, ?_, ?_, fun x hx => hb x (List.mem_of_mem_drop (List.mem_of_mem_take hx)), fun x hx => hb x (List.mem_of_mem_drop hx)⟩, ?_, ?_⟩
    · have := g 4; have := g (4 + 1); simp only [readS, wN]; omega
    · have := g 6; have := g (6 + 1); simp only [readS, wN]; omega
    · have := g 12; have := g (12 + 1); have := g 14; have := g (14 + 1); simp only [readS, wN]; omega
    · have := g 16; have := g (16 + 1); have := g 18; have := g (18 + 1); simp only [readS, wN]; omega
    · simp only [readS, List.length_take, List.length_drop]; omega
    · simp only [readS, List.length_drop]; omega
  · exact zero_wf
theorem parse_back {l : List Int} (hb : ∀ x ∈ l, 0 ≤ x ∧ x ≤ 255) (hl : l.length ≤ 4000) (hE : parseE l = 0) : okHd (parseS l) ∧ putL (parseS l) = l := by
  have hS : parseS l = readS l := by unfold parseS; rw [if_pos hE]
  rcases parse_cases l with ⟨e, _⟩ | ⟨e, _⟩ | ⟨e, _⟩ | ⟨e, _⟩ | ⟨e, _⟩ | ⟨e, _⟩ | ⟨_, _, c1, c2, c3, c4, c5, c6⟩
  all_goals first | (rw [hE] at e; exact absurd e (by decide)) | skip
  rw [hS]
  obtain ⟨a0, a1, a2, a3, a4, a5, a6, a7, a8, a9, a10, a11, a12, a13, a14, a15, a16, a17, a18, a19, r, rfl⟩ := len20 c1
  have hb0 := hb a0 (by simp)
  have hb1 := hb a1 (by simp)
  have hb2 := hb a2 (by simp)
  have hb3 := hb a3 (by simp)
  have hb4 := hb a4 (by simp)
  have hb5 := hb a5 (by simp)
  have hb6 := hb a6 (by simp)
  have hb7 := hb a7 (by simp)
  have hb10 := hb a10 (by simp)
  have hb11 := hb a11 (by simp)
  have hb12 := hb a12 (by simp)
  have hb13 := hb a13 (by simp)
  have hb14 := hb a14 (by simp)
  have hb15 := hb a15 (by simp)
  have hb16 := hb a16 (by simp)
  have hb17 := hb a17 (by simp)
  have hb18 := hb a18 (by simp)
  have hb19 := hb a19 (by simp)
  change a0 / 16 = 4 at c2
  change 20 ≤ a0 % 16 * 4 ∧ a0 % 16 * 4 ≤ _ at c3
  change a2 * 256 + a3 = _ at c4
  change a6 * 256 + a7 = 0 ∨ a6 * 256 + a7 = 16384 at c6
  have c5' : a10 * 256 + a11 = kN (a0 :: a1 :: a2 :: a3 :: a4 :: a5 :: a6 :: a7 :: a8 :: a9 :: a10 :: a11 :: a12 :: a13 :: a14 :: a15 :: a16 :: a17 :: a18 :: a19 :: r) := c5
  obtain ⟨n, hn⟩ : ∃ n : Nat, a0 % 16 * 4 = 20 + n := ⟨(a0 % 16 * 4).toNat - 20, by omega⟩
  have hlr : (a0 :: a1 :: a2 :: a3 :: a4 :: a5 :: a6 :: a7 :: a8 :: a9 :: a10 :: a11 :: a12 :: a13 :: a14 :: a15 :: a16 :: a17 :: a18 :: a19 :: r).length = 20 + r.length := by simp only [List.length_cons]; omega
  rw [hlr] at c3 c4 hl
  have hread : readS (a0 :: a1 :: a2 :: a3 :: a4 :: a5 :: a6 :: a7 :: a8 :: a9 :: a10 :: a11 :: a12 :: a13 :: a14 :: a15 :: a16 :: a17 :: a18 :: a19 :: r) = ⟨a1, a4 * 256 + a5, a6 * 256 + a7, a8, a9, (a12 * 256 + a13) * 65536 + (a14 * 256 + a15), (a16 * 256 + a17) * 65536 + (a18 * 256 + a19), r.take n, r.drop n⟩ := by
    have e1 : (hN (a0 :: a1 :: a2 :: a3 :: a4 :: a5 :: a6 :: a7 :: a8 :: a9 :: a10 :: a11 :: a12 :: a13 :: a14 :: a15 :: a16 :: a17 :: a18 :: a19 :: r)).toNat = 20 + n := by show (a0 % 16 * 4).toNat = _; omega
    unfold readS
    rw [e1, show 20 + n - 20 = n by omega]
    have e2 : (a0 :: a1 :: a2 :: a3 :: a4 :: a5 :: a6 :: a7 :: a8 :: a9 :: a10 :: a11 :: a12 :: a13 :: a14 :: a15 :: a16 :: a17 :: a18 :: a19 :: r).drop (20 + n) = r.drop n := by rw [← List.drop_drop]; rfl
    rw [e2]
    rfl
  have hnl : (r.take n).length = n := by rw [List.length_take]; omega
  have hok : okHd (readS (a0 :: a1 :: a2 :: a3 :: a4 :: a5 :: a6 :: a7 :: a8 :: a9 :: a10 :: a11 :: a12 :: a13 :: a14 :: a15 :: a16 :: a17 :: a18 :: a19 :: r)) := by
    rw [hread]
    unfold okHd
    simp only [hnl]
    omega
  refine ⟨hok, ?_⟩
  have hk : kN (a0 :: a1 :: a2 :: a3 :: a4 :: a5 :: a6 :: a7 :: a8 :: a9 :: a10 :: a11 :: a12 :: a13 :: a14 :: a15 :: a16 :: a17 :: a18 :: a19 :: r) = putK (readS (a0 :: a1 :: a2 :: a3 :: a4 :: a5 :: a6 :: a7 :: a8 :: a9 :: a10 :: a11 :: a12 :: a13 :: a14 :: a15 :: a16 :: a17 :: a18 :: a19 :: r)) := by
    unfold kN putK
    have e1 : (hN (a0 :: a1 :: a2 :: a3 :: a4 :: a5 :: a6 :: a7 :: a8 :: a9 :: a10 :: a11 :: a12 :: a13 :: a14 :: a15 :: a16 :: a17 :: a18 :: a19 :: r)).toNat = 20 + n := by show (a0 % 16 * 4).toNat = _; omega
    rw [e1, hread]
    have e2 : (a0 :: a1 :: a2 :: a3 :: a4 :: a5 :: a6 :: a7 :: a8 :: a9 :: a10 :: a11 :: a12 :: a13 :: a14 :: a15 :: a16 :: a17 :: a18 :: a19 :: r).take (20 + n) = a0 :: a1 :: a2 :: a3 :: a4 :: a5 :: a6 :: a7 :: a8 :: a9 :: a10 :: a11 :: a12 :: a13 :: a14 :: a15 :: a16 :: a17 :: a18 :: a19 :: r.take n := by rw [show 20 + n = n + 1 + 1 + 1 + 1 + 1 + 1 + 1 + 1 + 1 + 1 + 1 + 1 + 1 + 1 + 1 + 1 + 1 + 1 + 1 + 1 by omega]; rfl
    rw [e2]
    congr 2
    show [a0, a1, a2, a3, a4, a5, a6, a7, a8, a9, 0, 0, a12, a13, a14, a15, a16, a17, a18, a19] ++ r.take n = _
    unfold headL baseL
    simp only [hnl, List.length_drop]
    congr 1
    simp only [List.cons.injEq, and_true]
    refine ⟨?_, ?_, ?_, ?_, ?_, ?_, ?_, ?_, ?_, ?_, ?_, ?_, ?_, ?_, ?_, ?_, ?_, ?_, ?_, ?_⟩ <;> first | exact trivial | omega
  unfold putL
  rw [if_pos hok, ← hk, ← c5', hread]
  unfold headL baseL
  simp only [hnl, List.length_drop]
  have hfin : ∀ (A : List Int), A = [a0, a1, a2, a3, a4, a5, a6, a7, a8, a9, a10, a11, a12, a13, a14, a15, a16, a17, a18, a19] → A ++ r.take n ++ r.drop n = a0 :: a1 :: a2 :: a3 :: a4 :: a5 :: a6 :: a7 :: a8 :: a9 :: a10 :: a11 :: a12 :: a13 :: a14 :: a15 :: a16 :: a17 :: a18 :: a19 :: r := by
    intro A hA
    rw [hA, List.append_assoc, List.take_append_drop]
    rfl
  refine hfin _ ?_
  simp only [List.cons.injEq, and_true]
  refine ⟨?_, ?_, ?_, ?_, ?_, ?_, ?_, ?_, ?_, ?_, ?_, ?_, ?_, ?_, ?_, ?_, ?_, ?_, ?_, ?_⟩ <;> first | exact trivial | omega
end Go.Proofs.S07.I2
