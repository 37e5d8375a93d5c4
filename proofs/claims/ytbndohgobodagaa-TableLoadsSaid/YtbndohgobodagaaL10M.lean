/- Contracts of functions of the program, or a row of the seat, proved out of them. No condition beyond those that stand in each statement. -/
import Derived.Test.YtbndohgobodagaaL10I
namespace Go.Proofs.L10
open Go Go.SE
set_option maxRecDepth 100000
set_option maxHeartbeats 4000000
attribute [local irreducible] specI

/-! ### the plain law -/

theorem loads_of {t : Tab} {j : Nat} (hj : j < 6) : ∀ k, (loadsK t k).getD j 0 = ((pickK (fun i => decide ((t.at i).cur = (j : Int))) k).length : Int)
  | 0 => by
    show ([0, 0, 0, 0, 0, 0] : List Int).getD j 0 = 0
    exact lt6 (P := fun j => ([0, 0, 0, 0, 0, 0] : List Int).getD j 0 = 0) ⟨rfl, rfl, rfl, rfl, rfl, rfl⟩ j hj
  | k + 1 => by
    have ih := loads_of (t := t) hj k
    have hl := loadsK_len t k
    by_cases h : (t.at k).cur = (j : Int)
    · rw [← pickK_yes (so := fun i => decide ((t.at i).cur = (j : Int))) (k := k) rfl (decide_eq_true h), ← loadsK_yes (t := t) (k := k) rfl (by unfold owned; omega), getD_set, List.length_append, if_pos ⟨by omega, by omega⟩]
      rw [show (t.at k).cur.toNat = j by omega, ih]
      simp
    · rw [← pickK_no (so := fun i => decide ((t.at i).cur = (j : Int))) (k := k) rfl (decide_eq_false h)]
      by_cases ho : owned (t.at k)
      · rw [← loadsK_yes (t := t) (k := k) rfl ho, getD_set, if_neg (by unfold owned at ho; omega)]
        exact ih
      · rw [← loadsK_no (t := t) (k := k) rfl ho]
        exact ih
def sumK (l : List Int) : Nat → Int
  | 0 => 0
  | i + 1 => sumK l i + l.getD i 0
def ownedK (t : Tab) : Nat → Int
  | 0 => 0
  | k + 1 => if 0 ≤ (t.at k).cur then ownedK t k + 1 else ownedK t k
theorem sum_set {l : List Int} (hl : l.length = 6) (x : Int) : ∀ c, c < 6 → sumK (l.set c x) 6 = sumK l 6 - l.getD c 0 + x := by
  obtain ⟨a0, a1, a2, a3, a4, a5, rfl⟩ := len6 hl
  refine lt6 ⟨?_, ?_, ?_, ?_, ?_, ?_⟩ <;> simp [sumK] <;> omega
theorem sum_owned {t : Tab} (h : ∀ i, i < 16 → okE (t.at i)) : ∀ k, k ≤ 16 → sumK (loadsK t k) 6 = ownedK t k
  | 0, _ => rfl
  | k + 1, hk => by
    have ih := sum_owned h k (by omega)
    have hl := loadsK_len t k
    have ho := h k (by omega)
    unfold okE at ho
    show _ = if 0 ≤ (t.at k).cur then ownedK t k + 1 else ownedK t k
    by_cases hc : 0 ≤ (t.at k).cur
    · rw [if_pos hc, ← loadsK_yes (t := t) (k := k) rfl (by unfold owned; omega), sum_set hl _ _ (by omega), ih]
      omega
    · rw [if_neg hc, ← loadsK_no (t := t) (k := k) rfl (by unfold owned; omega), ih]

def innerK (l : List Int) (b : Int) (i : Nat) (m : Int) : Nat → Int
  | 0 => m
  | k + 1 => if bitK b i = 1 ∧ bitK b k = 1 then minMax true (innerK l b i m k) (l.getD i 0 - l.getD k 0) else innerK l b i m k
def mostK (l : List Int) (b : Int) : Nat → Int
  | 0 => 0
  | i + 1 => innerK l b i (mostK l b i) 6
theorem bit_01 (b : Int) (k : Nat) : bitK b k = 0 ∨ bitK b k = 1 := by unfold bitK; omega
theorem max_is (a b : Int) : minMax true a b = max a b := by unfold minMax; simp only; split <;> omega
theorem min_is (a b : Int) : minMax false a b = min a b := by unfold minMax; simp only; split <;> omega
structure InnerOk (l : List Int) (b : Int) (i : Nat) (m : Int) (n : Nat) (r : Int) : Prop where
  ge : m ≤ r
  all : ∀ k, k < n → bitK b i = 1 → bitK b k = 1 → l.getD i 0 - l.getD k 0 ≤ r
  one : r = m ∨ ∃ k, k < n ∧ bitK b i = 1 ∧ bitK b k = 1 ∧ r = l.getD i 0 - l.getD k 0
theorem inner_ok (l : List Int) (b : Int) (i : Nat) (m : Int) : ∀ n, InnerOk l b i m n (innerK l b i m n)
  | 0 => ⟨Int.le_refl _, fun k h => by omega, .inl rfl⟩
  | n + 1 => by
    have ih := inner_ok l b i m n
    unfold innerK
    split
    · rename_i h
      rw [max_is]
      have h1 := ih.ge
      refine ⟨by omega, fun k hk c1 c2 => ?_, ?_⟩
      · by_cases e : k = n
        · subst e; omega
        · have := ih.all k (by omega) c1 c2; omega
      · by_cases hc : innerK l b i m n ≤ l.getD i 0 - l.getD n 0
        · exact .inr ⟨n, by omega, h.1, h.2, by omega⟩
        · rcases ih.one with e | ⟨k, h1, h2, h3, h4⟩
          · exact .inl (by omega)
          · exact .inr ⟨k, by omega, h2, h3, by omega⟩
    · rename_i h
      refine ⟨ih.ge, fun k hk c1 c2 => ?_, ?_⟩
      · by_cases e : k = n
        · subst e; exact absurd ⟨c1, c2⟩ h
        · exact ih.all k (by omega) c1 c2
      · rcases ih.one with e | ⟨k, h1, h2, h3, h4⟩
        · exact .inl e
        · exact .inr ⟨k, by omega, h2, h3, h4⟩
structure MostOk (l : List Int) (b : Int) (n : Nat) (r : Int) : Prop where
  ge : 0 ≤ r
  all : ∀ i k, i < n → k < 6 → bitK b i = 1 → bitK b k = 1 → l.getD i 0 - l.getD k 0 ≤ r
  one : r = 0 ∨ ∃ i k, i < n ∧ k < 6 ∧ bitK b i = 1 ∧ bitK b k = 1 ∧ r = l.getD i 0 - l.getD k 0
theorem most_ok (l : List Int) (b : Int) : ∀ n, MostOk l b n (mostK l b n)
  | 0 => ⟨Int.le_refl _, fun i k h => by omega, .inl rfl⟩
  | n + 1 => by
    have ih := most_ok l b n
    have hi := inner_ok l b n (mostK l b n) 6
    show MostOk l b (n + 1) (innerK l b n (mostK l b n) 6)
    refine ⟨Int.le_trans ih.ge hi.ge, fun i k h1 h2 c1 c2 => ?_, ?_⟩
    · by_cases e : i = n
      · subst e; exact hi.all k h2 c1 c2
      · exact Int.le_trans (ih.all i k (by omega) h2 c1 c2) hi.ge
    · rcases hi.one with e | ⟨k, h1, h2, h3, h4⟩
      · rw [e]
        rcases ih.one with e | ⟨i, k, h1, h2, h3, h4, h5⟩
        · exact .inl e
        · exact .inr ⟨i, k, by omega, h2, h3, h4, h5⟩
      · exact .inr ⟨n, k, by omega, h1, h2, h3, h4⟩
structure SpOk (l : List Int) (b : Int) (n : Nat) (s : Sp) : Prop where
  no : s.first = true → s.least = 0 ∧ s.most = 0 ∧ ∀ k, k < n → bitK b k = 0
  all : s.first = false → ∀ k, k < n → bitK b k = 1 → s.least ≤ l.getD k 0 ∧ l.getD k 0 ≤ s.most
  most : s.first = false → ∃ k, k < n ∧ bitK b k = 1 ∧ s.most = l.getD k 0
  least : s.first = false → ∃ k, k < n ∧ bitK b k = 1 ∧ s.least = l.getD k 0
theorem sp_ok (l : List Int) (b : Int) : ∀ n, SpOk l b n (spK l b n)
  | 0 => ⟨fun _ => ⟨rfl, rfl, fun k h => by omega⟩, fun h => by simp [spK] at h, fun h => by simp [spK] at h, fun h => by simp [spK] at h⟩
  | n + 1 => by
    have ih := sp_ok l b n
    have h01 := bit_01 b n
    unfold spK
    split
    · rename_i h0
      refine ⟨fun h => ?_, fun h k hk c => ?_, fun h => ?_, fun h => ?_⟩
      · obtain ⟨e1, e2, e3⟩ := ih.no h
        refine ⟨e1, e2, fun k hk => ?_⟩
        by_cases e : k = n
        · subst e; exact h0
        · exact e3 k (by omega)
      · exact ih.all h k (by by_cases e : k = n; (· subst e; omega); omega) c
      · obtain ⟨k, e1, e2, e3⟩ := ih.most h; exact ⟨k, by omega, e2, e3⟩
      · obtain ⟨k, e1, e2, e3⟩ := ih.least h; exact ⟨k, by omega, e2, e3⟩
    · rename_i h0
      split
      · rename_i hf
        obtain ⟨e1, e2, e3⟩ := ih.no hf
        rw [max_is, min_is]
        refine ⟨fun h => by simp at h, fun _ k hk c => ?_, fun _ => ⟨n, by omega, by omega, by simp⟩, fun _ => ⟨n, by omega, by omega, by simp⟩⟩
        by_cases e : k = n
        · subst e; simp
        · have := e3 k (by omega); omega
      · rename_i hf
        have hf2 : (spK l b n).first = false := by simpa using hf
        rw [max_is, min_is]
        refine ⟨fun h => by simp at h, fun _ k hk c => ?_, fun _ => ?_, fun _ => ?_⟩
        · simp only
          by_cases e : k = n
          · subst e; omega
          · have := ih.all hf2 k (by omega) c; omega
        · simp only
          obtain ⟨k, e1, e2, e3⟩ := ih.most hf2
          by_cases hc : (spK l b n).most ≤ l.getD n 0
          · exact ⟨n, by omega, by omega, by omega⟩
          · exact ⟨k, by omega, e2, by omega⟩
        · simp only
          obtain ⟨k, e1, e2, e3⟩ := ih.least hf2
          by_cases hc : l.getD n 0 ≤ (spK l b n).least
          · exact ⟨n, by omega, by omega, by omega⟩
          · exact ⟨k, by omega, e2, by omega⟩
theorem spread_most (t : Tab) (b : Int) : spreadN t b = mostK (loadsT t) b 6 := by
  unfold spreadN
  have hs := sp_ok (loadsT t) b 6
  have hm := most_ok (loadsT t) b 6
  generalize spK (loadsT t) b 6 = s at *
  generalize mostK (loadsT t) b 6 = r at *
  generalize loadsT t = l at *
  cases hf : s.first
  · obtain ⟨i, i1, i2, i3⟩ := hs.most hf
    obtain ⟨k, k1, k2, k3⟩ := hs.least hf
    have h1 := hm.all i k i1 k1 i2 k2
    have h2 := hs.all hf
    rcases hm.one with e | ⟨x, y, x1, y1, x2, y2, e⟩
    · have := h2 i i1 i2; omega
    · have := h2 x x1 x2; have := h2 y y1 y2; omega
  · obtain ⟨e1, e2, e3⟩ := hs.no hf
    rcases hm.one with e | ⟨x, y, x1, y1, x2, y2, e⟩
    · omega
    · have := e3 x x1; omega
