/- Contracts of functions of the program, or a row of the seat, proved out of them. No condition beyond those that stand in each statement. -/
import Derived.Test.YtooempepoejmhaaP3L
namespace Go.Proofs.P3
open Go Go.SE
set_option maxRecDepth 100000
set_option maxHeartbeats 4000000

def sumT (l : List Int) : Int := total (words l)

theorem sumT_set : ∀ (l : List Int) (i : Nat) (x : Int), i < l.length → sumT (l.set i x) = sumT l + (x - l.getD i 0) * (if i % 2 = 0 then 256 else 1)
  | [], i, x, h => by simp at h
  | [a], 0, x, _ => by simp [sumT, words, total]; omega
  | [a], i + 1, x, h => by simp at h
  | a :: b :: r, 0, x, _ => by simp [sumT, words, total]; omega
  | a :: b :: r, 1, x, _ => by simp [sumT, words, total]; omega
  | a :: b :: r, i + 2, x, h => by
    have := sumT_set r i x (by simpa using h)
    have e : (i + 2) % 2 = i % 2 := by omega
    simp only [sumT] at this
    simp only [List.set_cons_succ, sumT, words, total, List.getD_cons_succ, e, this]
    omega
theorem sumT_append {A B : List Int} (h : A.length % 2 = 0) : sumT (A ++ B) = sumT A + sumT B := by
  simp only [sumT]; rw [words_append A B h, total_append]
theorem sumT_pos {l : List Int} (hb : ∀ x ∈ l, 0 ≤ x ∧ x ≤ 255) : 0 ≤ sumT l := total_bd (words_bd hb).1
theorem sumT_pseudo (a b n : Int) : 6 ≤ sumT (pseudoL a b n) := by
  simp only [sumT, pseudoL, words, total]; omega
theorem sumT_turned (a b n : Int) : sumT (pseudoL a b n) = sumT (pseudoL b a n) := by
  simp only [sumT, pseudoL, words, total]; omega
theorem okSum_iff {a b : Int} {l : List Int} (hb : ∀ x ∈ l, 0 ≤ x ∧ x ≤ 255) : okSum a b l ↔ (sumT (pseudoL a b l.length) + sumT l) % 65535 = 0 := by
  have h1 := sumT_pseudo a b l.length
  have h2 := sumT_pos hb
  have e : sumW (pseudoL a b l.length ++ l) = fold (sumT (pseudoL a b l.length) + sumT l) := by
    rw [← sumT_append (by rw [pseudo_len])]; rfl
  unfold okSum
  rw [e]
  unfold fold
  generalize sumT (pseudoL a b l.length) = p at *
  generalize sumT l = s at *
  split <;> omega
theorem okSum_set {a b x : Int} {l : List Int} {i : Nat} (hb : ∀ x ∈ l, 0 ≤ x ∧ x ≤ 255) (hi : i < l.length) (hx : 0 ≤ x ∧ x ≤ 255) (hne : x ≠ l.getD i 0) (h : okSum a b l) : ¬ okSum a b (l.set i x) := by
  have hb2 : ∀ y ∈ l.set i x, 0 ≤ y ∧ y ≤ 255 := by
    intro y hy
    rcases List.mem_or_eq_of_mem_set hy with h | h
    · exact hb y h
    · rw [h]; exact hx
  have hg := getD_bd hb (by decide) i
  rw [okSum_iff hb] at h
  rw [okSum_iff hb2, List.length_set, sumT_set l i x hi]
  generalize sumT (pseudoL a b l.length) = p at *
  generalize sumT l = s at *
  split <;> omega
theorem okSum_pseudo {a b x y : Int} {l : List Int} (hb : ∀ x ∈ l, 0 ≤ x ∧ x ≤ 255) (h : okSum a b l) : okSum x y l ↔ sumW (pseudoL a b l.length) = sumW (pseudoL x y l.length) := by
  have h1 := sumT_pseudo a b l.length
  have h2 := sumT_pseudo x y l.length
  rw [okSum_iff hb] at h ⊢
  show _ ↔ fold (sumT (pseudoL a b l.length)) = fold (sumT (pseudoL x y l.length))
  unfold fold
  generalize sumT (pseudoL a b l.length) = p at *
  generalize sumT (pseudoL x y l.length) = q at *
  rw [if_neg (by omega), if_neg (by omega)]
  omega
theorem okSum_turned {a b : Int} {l : List Int} (hb : ∀ x ∈ l, 0 ≤ x ∧ x ≤ 255) (h : okSum a b l) : okSum b a l := by
  rw [okSum_iff hb] at h ⊢
  rw [sumT_turned]; exact h

theorem putK_bd {a b : Int} {t : Seg} (hw : t.Wf) (hok : okSeg t) : 0 ≤ putK a b t ∧ putK a b t ≤ 65535 := by
  have hP : ∀ x ∈ pseudoL a b (t.head.toNat + t.data.length : Nat) ++ segL t 0, 0 ≤ x ∧ x ≤ 255 := by
    intro x hx
    rcases List.mem_append.mp hx with h | h
    · exact pseudo_bytes _ _ _ x h
    · exact seg_bytes hw hok (by omega) x h
  have := sumW_bd hP
  unfold putK; omega
theorem sumT_seg {t : Seg} {k : Int} : sumT (segL t k) = sumT (segL t 0) + k := by
  have e : ∀ k, sumT (segL t k) = sumT (baseL t k) + sumT (zsL t ++ t.data) := fun k => sumT_append (by simp only [baseL, List.length_cons, List.length_nil])
  rw [e, e]
  simp only [sumT, baseL, words, total]
  omega
theorem okSum_seg {a b : Int} {t : Seg} (hw : t.Wf) (hok : okSeg t) : okSum a b (segL t (putK a b t)) := by
  have hk := putK_bd (a := a) (b := b) hw hok
  have hb := seg_bytes (k := putK a b t) hw hok hk
  have hb0 := seg_bytes (k := 0) hw hok (by omega)
  have hp := sumT_pos hb0
  rw [okSum_iff hb, seg_len hok, sumT_seg]
  have hq := sumT_pseudo a b (t.head.toNat + t.data.length : Nat)
  have e : putK a b t = 65535 - fold (sumT (pseudoL a b (t.head.toNat + t.data.length : Nat)) + sumT (segL t 0)) := by
    rw [← sumT_append (by rw [pseudo_len])]; rfl
  rw [e]
  unfold fold
  generalize sumT (pseudoL a b (t.head.toNat + t.data.length : Nat)) = p at *
  generalize sumT (segL t 0) = s at *
  rw [if_neg (by omega)]
  omega
theorem head_seg {t : Seg} {k : Int} (hok : okSeg t) : headN (segL t k) = t.head := by
  show t.head * 4 / 16 * 4 = t.head
  unfold okSeg at hok; omega
theorem parse_put {a b : Int} {t : Seg} (hw : t.Wf) (hok : okSeg t) : parseE a b (putL a b t) = 0 ∧ parseS a b (putL a b t) = t := by
  have hs := okSum_seg (a := a) (b := b) hw hok
  have hk := putK_bd (a := a) (b := b) hw hok
  have e : putL a b t = segL t (putK a b t) := by simp [putL, hok]
  rw [e]
  generalize putK a b t = k at *
  have hl := seg_len (k := k) hok
  have hh := head_seg (k := k) hok
  have hok' := hok
  unfold okSeg at hok'
  have hn : ¬ badHead (segL t k) := by unfold badHead; rw [hl, hh]; omega
  refine ⟨by simp [parseE, hn, hs], ?_⟩
  unfold parseS
  rw [if_neg hn, if_pos hs, hh]
  have hd : (segL t k).drop t.head.toNat = t.data := by
    have : t.head.toNat = (baseL t k ++ zsL t).length := by simp [baseL, zsL]; omega
    unfold segL
    rw [← List.append_assoc, this, List.drop_left]
  rw [hd]
  obtain ⟨s, d, f, h, l⟩ := t
  show Seg.mk (s / 256 * 256 + s % 256) (d / 256 * 256 + d % 256) f h l = _
  rw [show s / 256 * 256 + s % 256 = s by omega, show d / 256 * 256 + d % 256 = d by omega]
theorem put_bytes {a b : Int} {t : Seg} (hw : t.Wf) : ∀ x ∈ putL a b t, 0 ≤ x ∧ x ≤ 255 := by
  unfold putL
  split
  · rename_i h; exact seg_bytes hw h (putK_bd hw h)
  · simp
theorem put_len {a b : Int} {t : Seg} (hw : t.Wf) : (putL a b t).length ≤ 60 + t.data.length := by
  unfold putL
  split
  · rename_i h; rw [seg_len h]; unfold okSeg at h; omega
  · simp
theorem parse_wf {a b : Int} {l : List Int} (hb : ∀ x ∈ l, 0 ≤ x ∧ x ≤ 255) (hl : l.length ≤ 4000) : (parseS a b l).Wf := by
  have z : zeroSeg.Wf := ⟨by decide, by decide, by decide, by decide, by simp [zeroSeg], by decide⟩
  unfold parseS
  split
  · exact z
  · split
    · have h0 := getD_bd hb (by decide) 0
      have h1 := getD_bd hb (by decide) 1
      have h2 := getD_bd hb (by decide) 2
      have h3 := getD_bd hb (by decide) 3
      have h12 := getD_bd hb (by decide) 12
      have h13 := getD_bd hb (by decide) 13
      refine ⟨by simp only; omega, by simp only; omega, h13, by simp only [headN]; omega, fun x hx => hb x (List.mem_of_mem_drop hx), ?_⟩
      simp only [List.length_drop]; omega
    · exact z
theorem parse_zero {a b : Int} {l : List Int} (h : ¬ okSum a b l) : (parseE a b l = 8 ∨ parseE a b l = 9) ∧ parseS a b l = zeroSeg := by
  unfold parseE parseS
  by_cases hb : badHead l
  · simp [hb]
  · simp [hb, h]
end Go.Proofs.P3
