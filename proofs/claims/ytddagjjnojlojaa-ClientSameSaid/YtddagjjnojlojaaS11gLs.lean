/- Contracts of functions of the program, or a row of the seat, proved out of them. No condition beyond those that stand in each statement. -/
import Derived.Test.YtddagjjnojlojaaS11gGr
import Derived.Test.YtddagjjnojlojaaS11gCz
namespace Go.Proofs.S11
open Go Go.SE
set_option maxRecDepth 100000
set_option maxHeartbeats 4000000
attribute [local irreducible] specI

structure Chg where
  b : Int
  cur : Int
  prev : Int
def chB (c : Chg) : Int := ((c.b.tmod 16) + 16).tmod 16
def chE (t : Tab) (c : Chg) : Ent := ⟨c.cur, c.prev, (t.at (chB c).toNat).gen + 1, 0⟩
theorem tmod_wrap (x : Int) {n : Int} (hn : 0 < n) : 0 ≤ (x.tmod n + n).tmod n ∧ (x.tmod n + n).tmod n < n := by
  have h1 : -n < x.tmod n := by
    have := Int.lt_tmod_of_pos x hn
    omega
  exact ⟨Int.tmod_nonneg _ (by omega), Int.tmod_lt_of_pos _ hn⟩
theorem chB_in (c : Chg) : 0 ≤ chB c ∧ chB c < 16 := tmod_wrap c.b (by omega)
structure Grw where
  now : Tab
  out : List Tab
def grow1 (p : Grw) (c : Chg) : Grw := if okSet p.now (chB c) (chE p.now c) then ⟨setT p.now (chB c) (chE p.now c), p.out ++ [setT p.now (chB c) (chE p.now c)]⟩ else p
def zeroCh : Chg := ⟨0, 0, 0⟩
def growK (l : List Chg) : Nat → Grw
  | 0 => ⟨newTab, [newTab]⟩
  | k + 1 => grow1 (growK l k) (l.getD k zeroCh)
def tAt (L : List Tab) (j : Nat) : Tab := L.getD j newTab
theorem tAt_left {L : List Tab} {t : Tab} {j : Nat} (h : j < L.length) : tAt (L ++ [t]) j = tAt L j := by
  unfold tAt; rw [List.getD_eq_getElem?_getD, List.getElem?_append_left h, ← List.getD_eq_getElem?_getD]
theorem tAt_last {L : List Tab} {t : Tab} : tAt (L ++ [t]) L.length = t := by
  unfold tAt; rw [List.getD_eq_getElem?_getD, List.getElem?_append_right (Nat.le_refl _), Nat.sub_self]; rfl
/-- Rows go on: a generation never falls, and rows of one generation are the same. -/
def Goes (t u : Tab) : Prop := ∀ b, b < 16 → (t.at b).gen ≤ (u.at b).gen ∧ ((t.at b).gen = (u.at b).gen → t.at b = u.at b)
theorem Goes.rfl' {t : Tab} : Goes t t := fun b _ => ⟨Int.le_refl _, fun _ => rfl⟩
theorem Goes.trans {t u v : Tab} (h : Goes t u) (g : Goes u v) : Goes t v := fun b hb => by
  have h1 := h b hb
  have g1 := g b hb
  exact ⟨Int.le_trans h1.1 g1.1, fun e => by rw [h1.2 (by omega), g1.2 (by omega)]⟩
structure Good (L : List Tab) : Prop where
  len : 0 < L.length
  first : tAt L 0 = newTab
  ver : ∀ j, j < L.length → (tAt L j).ver = j
  ok : ∀ j, j < L.length → okTab (tAt L j)
  rows : ∀ j, j < L.length → (tAt L j).rows.length = 16
  goes : ∀ i j, i ≤ j → j < L.length → Goes (tAt L i) (tAt L j)
structure Grw.Ok (p : Grw) : Prop where
  good : Good p.out
  last : tAt p.out (p.out.length - 1) = p.now
theorem newTab_ok : okTab newTab := by decide +kernel
theorem grow0_ok (l : List Chg) : (growK l 0).Ok := ⟨⟨by show 0 < 1; omega, rfl, fun j h => by obtain rfl : j = 0 := (by change j < 1 at h; omega); rfl, fun j h => by obtain rfl : j = 0 := (by change j < 1 at h; omega); exact newTab_ok,
  fun j h => by obtain rfl : j = 0 := (by change j < 1 at h; omega); rfl, fun i j h1 h => by obtain rfl : j = 0 := (by change j < 1 at h; omega); obtain rfl : i = 0 := (by omega); exact Goes.rfl'⟩, rfl⟩
theorem setT_ok {t : Tab} {b : Int} {e : Ent} (hl : t.rows.length = 16) (h : okSet t b e) : okTab (setT t b e) ∧ (setT t b e).rows.length = 16 ∧ (setT t b e).ver = t.ver + 1 ∧ Goes t (setT t b e) := by
  have hs : setT t b e = ⟨t.ver + 1, t.rows.set b.toNat e⟩ := by unfold setT; rw [if_pos h]
  obtain ⟨h1, h2, h3, h4, h5⟩ := h
  have hat : ∀ i, (setT t b e).at i = (t.set b.toNat e).at i := fun i => by rw [hs]; rfl
  refine ⟨⟨?_, fun i hi => ?_⟩, by rw [hs]; simp only [List.length_set]; exact hl, by rw [hs], fun i hi => ?_⟩
  · rw [hs]; have := h2.1; exact ⟨by show 0 ≤ t.ver + 1; omega, by show t.ver + 1 ≤ _; omega⟩
  · rw [hat]
    by_cases c : b.toNat = i
    · rw [c, set_at_eq (by omega)]; exact h4
    · rw [set_at_ne c]; exact h2.2 i hi
  · rw [hat]
    by_cases c : b.toNat = i
    · rw [c, set_at_eq (by omega)]
      rw [c] at h5
      exact ⟨by omega, fun q => by omega⟩
    · rw [set_at_ne c]; exact ⟨Int.le_refl _, fun _ => rfl⟩
theorem grow1_ok {p : Grw} (h : p.Ok) (c : Chg) : (grow1 p c).Ok := by
  unfold grow1
  split
  rotate_left
  · exact h
  rename_i hs
  have hlast := h.last
  have hp := h.good.len
  have hn := h.good.rows (p.out.length - 1) (by omega)
  rw [hlast] at hn
  obtain ⟨s1, s2, s3, s4⟩ := setT_ok hn hs
  have hv := h.good.ver (p.out.length - 1) (by omega)
  rw [hlast] at hv
  generalize setT p.now (chB c) (chE p.now c) = u at *
  have key : ∀ j, j < (p.out ++ [u]).length → (j < p.out.length ∧ tAt (p.out ++ [u]) j = tAt p.out j) ∨ (j = p.out.length ∧ tAt (p.out ++ [u]) j = u) := fun j hj => by
    by_cases e : j < p.out.length
    · exact .inl ⟨e, tAt_left e⟩
    · have e2 : j = p.out.length := by rw [List.length_append] at hj; change j < _ + 1 at hj; omega
      subst e2; exact .inr ⟨rfl, tAt_last⟩
  refine ⟨⟨by rw [List.length_append]; omega, by rw [tAt_left hp]; exact h.good.first, fun j hj => ?_, fun j hj => ?_, fun j hj => ?_, fun i j hij hj => ?_⟩, ?_⟩
  · rcases key j hj with ⟨k1, k2⟩ | ⟨k1, k2⟩ <;> rw [k2]
    · exact h.good.ver j k1
    · rw [s3, hv]; omega
  · rcases key j hj with ⟨k1, k2⟩ | ⟨k1, k2⟩ <;> rw [k2]
    · exact h.good.ok j k1
    · exact s1
  · rcases key j hj with ⟨k1, k2⟩ | ⟨k1, k2⟩ <;> rw [k2]
    · exact h.good.rows j k1
    · exact s2
  · rcases key j hj with ⟨k1, k2⟩ | ⟨k1, k2⟩
    · rw [k2, tAt_left (by omega)]; exact h.good.goes i j hij k1
    · rw [k2]
      by_cases e : i < p.out.length
      · rw [tAt_left e]
        have := h.good.goes i (p.out.length - 1) (by omega) (by omega)
        rw [hlast] at this
        exact this.trans s4
      · obtain rfl : i = p.out.length := by omega
        rw [tAt_last]; exact Goes.rfl'
  · rw [show (p.out ++ [u]).length - 1 = p.out.length by rw [List.length_append]; rfl]; exact tAt_last
theorem growK_ok (l : List Chg) : ∀ k, (growK l k).Ok
  | 0 => grow0_ok l
  | k + 1 => grow1_ok (growK_ok l k) _
theorem growK_len (l : List Chg) : ∀ k, (growK l k).out.length ≤ k + 1
  | 0 => Nat.le_refl _
  | k + 1 => by
    have := growK_len l k
    show (grow1 _ _).out.length ≤ _
    unfold grow1
    split
    · show (_ ++ [_]).length ≤ _; rw [List.length_append]; show _ + 1 ≤ _; omega
    · omega

/-- A client that has the table of this version (none: -1). -/
def clAt (L : List Tab) (v : Option Nat) : Cl := match v with | none => zeroCl | some v => ⟨true, tAt L v⟩
def vIn (L : List Tab) (v : Option Nat) : Prop := ∀ n, v = some n → n < L.length
theorem mrg_all {t : Tab} {l : List Row} (h : ∀ i, i < l.length → okAt l i) (hl : t.rows.length = 16) : ∀ k, k ≤ l.length → ∀ j, j < k → (mrgK t l k).at (rAt l j).bkt.toNat = (if (t.at (rAt l j).bkt.toNat).gen < (rAt l j).ent.gen then (rAt l j).ent else t.at (rAt l j).bkt.toNat)
  | 0, _, j, hj => by omega
  | k + 1, hk, j, hj => by
    have hm : (mrgK t l k).rows.length = 16 := by rw [mrgK_len]; exact hl
    by_cases e : j = k
    · subst e
      have ho := mrg_own (t := t) h (by omega : j < l.length)
      have hb := (h j (by omega)).1
      show Tab.at (if _ then _ else _) _ = _
      rw [ho]
      split
      · rw [set_at_eq (by rw [hm]; omega)]
      · exact ho
    · have ih := mrg_all h hl k (by omega) j (by omega)
      have hr := ok_rising h k (by omega) j (by omega)
      have hb := (h j (by omega)).1
      rw [← ih]
      show Tab.at (if _ then _ else _) _ = _
      split
      · rw [set_at_ne (by omega)]
      · rfl
theorem rows_ext {t u : Tab} (ht : t.rows.length = 16) (hu : u.rows.length = 16) (h : ∀ b, b < 16 → t.at b = u.at b) : t.rows = u.rows := by
  apply List.ext_getElem (by omega)
  intro i h1 h2
  have := h i (by omega)
  unfold Tab.at at this
  rw [List.getD_eq_getElem?_getD, List.getD_eq_getElem?_getD, List.getElem?_eq_getElem h1, List.getElem?_eq_getElem h2] at this
  exact this
theorem rowsK_in {so : Nat → Bool} {u : Tab} {b : Nat} (hs : so b = true) : ∀ m, b < m → ∃ j, j < (rowsK so u m).length ∧ (rAt (rowsK so u m) j).bkt.toNat = b
  | 0, h => by omega
  | m + 1, h => by
    by_cases e : b = m
    · subst e
      rw [← rowsK_yes (so := so) (t := u) (k := b) rfl hs]
      refine ⟨(rowsK so u b).length, by rw [List.length_append]; show _ < _ + 1; omega, ?_⟩
      rw [rAt_last]; exact Int.toNat_natCast b
    · obtain ⟨j, h1, h2⟩ := rowsK_in hs m (by omega)
      cases hm : so m with
      | false => rw [← rowsK_no (so := so) (t := u) (k := m) rfl hm]; exact ⟨j, h1, h2⟩
      | true => rw [← rowsK_yes (so := so) (t := u) (k := m) rfl hm]; exact ⟨j, by rw [List.length_append]; omega, by rw [rAt_left h1]; exact h2⟩
/-- Rows of `u`, laid into an elder table that has all else already: that is `u`. -/
theorem laid {so : Nat → Bool} {t u : Tab} (ht : t.rows.length = 16) (hu : u.rows.length = 16) (hok : ∀ i, i < 16 → okE (u.at i)) (hg : Goes t u) (hno : ∀ b, b < 16 → so b = false → t.at b = u.at b) :
    (mrgK t (rowsK so u 16) (rowsK so u 16).length).rows = u.rows := by
  refine rows_ext (by rw [mrgK_len]; exact ht) hu fun b hb => ?_
  have ho := rowsK_ok (so := so) hok
  by_cases hx : ∃ j, j < (rowsK so u 16).length ∧ (rAt (rowsK so u 16) j).bkt.toNat = b
  · obtain ⟨j, h1, h2⟩ := hx
    have := mrg_all (t := t) ho ht _ (Nat.le_refl _) j h1
    obtain ⟨m, g1, g2, -⟩ := rowsK_get so u 16 j h1
    rw [g2] at this h2
    change Int.toNat (m : Int) = b at h2
    have hmb : m = b := by omega
    subst hmb
    change Tab.at _ (Int.toNat (m : Int)) = (if (t.at (Int.toNat (m : Int))).gen < (u.at m).gen then u.at m else t.at (Int.toNat (m : Int))) at this
    rw [Int.toNat_natCast] at this
    rw [this]
    split
    · rfl
    · rename_i hn
      have := hg m hb
      exact this.2 (by omega)
  · rw [mrgK_at t _ _ b fun i hi q => hx ⟨i, hi, q⟩]
    cases hs : so b with
    | false => exact hno b hb hs
    | true => exact absurd (rowsK_in hs 16 hb) hx
end Go.Proofs.S11
