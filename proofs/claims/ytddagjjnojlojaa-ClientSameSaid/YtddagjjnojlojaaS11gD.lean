/- Contracts of functions of the program, or a row of the seat, proved out of them. No condition beyond those that stand in each statement. -/
import Derived.Test.YtddagjjnojlojaaS11gZ
namespace Go.Proofs.S11
open Go Go.SE
set_option maxRecDepth 100000
set_option maxHeartbeats 4000000
attribute [local irreducible] specI

theorem rAt_left {l r : List Row} {k : Nat} (h : k < l.length) : rAt (l ++ r) k = rAt l k := by
  unfold rAt; rw [List.getD_eq_getElem?_getD, List.getElem?_append_left h, ← List.getD_eq_getElem?_getD]
theorem rAt_last {l : List Row} {r : Row} : rAt (l ++ [r]) l.length = r := by
  unfold rAt; rw [List.getD_eq_getElem?_getD, List.getElem?_append_right (Nat.le_refl _), Nat.sub_self]; rfl
theorem rowsK_get (so : Nat → Bool) (t : Tab) : ∀ m k, k < (rowsK so t m).length → ∃ j, j < m ∧ rAt (rowsK so t m) k = ⟨(j : Int), t.at j⟩ ∧ so j = true ∧ (rowsK so t m).take k = rowsK so t j
  | 0, k, h => by simp [rowsK] at h
  | m + 1, k, h => by
    cases hs : so m with
    | false =>
      rw [← rowsK_no (so := so) (t := t) (k := m) rfl hs] at h ⊢
      obtain ⟨j, h1, h2⟩ := rowsK_get so t m k h
      exact ⟨j, by omega, h2⟩
    | true =>
      rw [← rowsK_yes (so := so) (t := t) (k := m) rfl hs] at h ⊢
      by_cases e : k < (rowsK so t m).length
      · obtain ⟨j, h1, h2, h3, h4⟩ := rowsK_get so t m k e
        refine ⟨j, by omega, by rw [rAt_left e]; exact h2, h3, ?_⟩
        rw [List.take_append_of_le_length (by omega)]; exact h4
      · have e2 : k = (rowsK so t m).length := by simp at h; omega
        subst e2
        exact ⟨m, by omega, rAt_last, hs, by simp⟩
theorem rowsK_mono (so : Nat → Bool) (t : Tab) : ∀ m j, j ≤ m → (rowsK so t j).length ≤ (rowsK so t m).length
  | 0, j, h => by obtain rfl : j = 0 := (by omega); exact Nat.le_refl _
  | m + 1, j, h => by
    by_cases e : j = m + 1
    · subst e; exact Nat.le_refl _
    · have ih := rowsK_mono so t m j (by omega)
      cases hs : so m with
      | false => rw [← rowsK_no (so := so) (t := t) (k := m) rfl hs]; exact ih
      | true => rw [← rowsK_yes (so := so) (t := t) (k := m) rfl hs, List.length_append]; omega
theorem rowsK_ok {so : Nat → Bool} {t : Tab} (h : ∀ i, i < 16 → okE (t.at i)) : ∀ i, i < (rowsK so t 16).length → okAt (rowsK so t 16) i := by
  intro i hi
  obtain ⟨j, h1, h2, h3, h4⟩ := rowsK_get so t 16 i hi
  unfold okAt
  rw [h2]
  refine ⟨⟨by show (0 : Int) ≤ j; omega, by show (j : Int) < 16; omega⟩, fun h0 => ?_, h j h1⟩
  obtain ⟨j', g1, g2, g3, g4⟩ := rowsK_get so t 16 (i - 1) (by omega)
  rw [g2]
  show (j' : Int) < j
  have l1 := congrArg List.length h4
  have l2 := congrArg List.length g4
  rw [List.length_take] at l1 l2
  by_cases hc : j ≤ j'
  · have := rowsK_mono so t j' j hc; omega
  · omega
theorem delta_ok {a b : Tab} (h : okDl a b) : okSh ⟨a.ver, b.ver, deltaL a b⟩ := by
  obtain ⟨h1, h2, h3⟩ := h
  have ha := h2.1
  have hb := h3.1
  exact ⟨⟨⟨by show 0 ≤ b.ver; omega, by show b.ver ≤ _; omega⟩, ⟨by show -1 ≤ a.ver; omega, h1⟩, rowsK_len (fun i => !eqEnt (a.at i) (b.at i)) b 16⟩, fun e => by change a.ver = -1 at e; omega, rowsK_ok (so := fun i => !eqEnt (a.at i) (b.at i)) h3.2⟩

def foldR : Tab → List Row → Tab
  | o, [] => o
  | o, r :: l => foldR (o.set r.bkt.toNat r.ent) l
theorem foldR_app : ∀ (l : List Row) (o : Tab) (r : Row), foldR o (l ++ [r]) = (foldR o l).set r.bkt.toNat r.ent
  | [], o, r => rfl
  | x :: l, o, r => foldR_app l (o.set x.bkt.toNat x.ent) r
theorem foldR_len : ∀ (l : List Row) (o : Tab), (foldR o l).rows.length = o.rows.length
  | [], o => rfl
  | x :: l, o => by show (foldR (o.set x.bkt.toNat x.ent) l).rows.length = _; rw [foldR_len l]; simp [Tab.set]
theorem foldR_ver : ∀ (l : List Row) (o : Tab), (foldR o l).ver = o.ver
  | [], o => rfl
  | x :: l, o => by show (foldR (o.set x.bkt.toNat x.ent) l).ver = _; rw [foldR_ver l]; rfl
theorem set_at_ne {t : Tab} {i j : Nat} {e : Ent} (h : i ≠ j) : (t.set i e).at j = t.at j := by
  unfold Tab.at Tab.set
  simp only
  rw [List.getD_eq_getElem?_getD, List.getElem?_set_ne h, ← List.getD_eq_getElem?_getD]
theorem set_at_eq {t : Tab} {i : Nat} {e : Ent} (h : i < t.rows.length) : (t.set i e).at i = e := by
  unfold Tab.at Tab.set
  simp only
  rw [List.getD_eq_getElem?_getD, List.getElem?_set_self h]; rfl
theorem fold_at {o b : Tab} (hl : o.rows.length = 16) : ∀ j, j ≤ 16 → ∀ m, m < 16 → (foldR o (rowsK (fun i => !eqEnt (o.at i) (b.at i)) b j)).at m = if m < j then b.at m else o.at m
  | 0, _, m, _ => rfl
  | j + 1, hj, m, hm => by
    have ih := fold_at hl (b := b) j (by omega) m hm
    by_cases hq : eqEnt (o.at j) (b.at j) = true
    · rw [← rowsK_no (so := fun i => !eqEnt (o.at i) (b.at i)) (t := b) (k := j) rfl (by rw [hq]; rfl), ih]
      by_cases e : m = j
      · subst e; rw [if_neg (by omega), if_pos (by omega), eqEnt_iff.1 hq]
      · by_cases h2 : m < j
        · rw [if_pos h2, if_pos (by omega)]
        · rw [if_neg h2, if_neg (by omega)]
    · rw [← rowsK_yes (so := fun i => !eqEnt (o.at i) (b.at i)) (t := b) (k := j) rfl (by rw [Bool.eq_false_iff.2 hq]; rfl), foldR_app]
      show ((foldR o _).set (Int.toNat j) (b.at j)).at m = _
      rw [Int.toNat_natCast]
      by_cases e : m = j
      · subst e
        rw [set_at_eq (by rw [foldR_len, hl]; omega), if_pos (by omega)]
      · rw [set_at_ne (fun h => e h.symm), ih]
        by_cases h2 : m < j
        · rw [if_pos h2, if_pos (by omega)]
        · rw [if_neg h2, if_neg (by omega)]

theorem lawdelta_con {a b : Tab} (ha : a.rows.length = 16) (hb : b.rows.length = 16) : CallCon Try.prog 6 [tabT a, tabT b] [] (.t (.one (.v (.bool true)))) [] := by
  have hD := delta_con a b
  have hR := reftabright_con a
  have hS := reftabright_con b
  by_cases hok : okDl a b
  rotate_left
  · rw [show dlSh a b = zeroSh by unfold dlSh; rw [if_neg hok], show dlE a b = 2 by unfold dlE; rw [if_neg hok]] at hD
    unfold okDl at hok
    by_cases h1 : okTab a
    · have hR2 := con_yes hR h1
      by_cases h2 : okTab b
      · have hS2 := con_yes hS h2
        have h3 : ¬ a.ver < b.ver := fun h => hok ⟨h, h1, h2⟩
        clear hok
        refine con_of_call2 rfl ?_
        refine call_inline Try.func6 rfl rfl ?_
        intro _
        repeat' (first | (refine is_split ?_; refine sp_yes (by (first | rfl | exact dec_t (by omega))) ?_ <;> (intro u; clear u)) | (refine is_call ?_; (first | refine call_auto (wakes_con) (lets_rfl rfl) (by exact trivial) rfl ?_ | refine call_auto (hD) (lets_rfl rfl) (by exact trivial) rfl ?_ | refine call_auto (hR2) (lets_rfl rfl) (by exact trivial) rfl ?_ | refine call_auto (hS2) (lets_rfl rfl) (by exact trivial) rfl ?_); intro u; clear u))
        all_goals (refine con_end ?_ rfl; intro u; clear u; refine ⟨rfl, rfl, EntGoal.mk ?_ ?_⟩ <;> (repeat' (first | exact trivial | (with_reducible rfl) | apply And.intro | rfl)))
      · have hS2 := con_no hS h2
        clear hok
        refine con_of_call2 rfl ?_
        refine call_inline Try.func6 rfl rfl ?_
        intro _
        repeat' (first | (refine is_split ?_; refine sp_yes (by rfl) ?_ <;> (intro u; clear u)) | (refine is_call ?_; (first | refine call_auto (wakes_con) (lets_rfl rfl) (by exact trivial) rfl ?_ | refine call_auto (hD) (lets_rfl rfl) (by exact trivial) rfl ?_ | refine call_auto (hR2) (lets_rfl rfl) (by exact trivial) rfl ?_ | refine call_auto (hS2) (lets_rfl rfl) (by exact trivial) rfl ?_); intro u; clear u))
        all_goals (refine con_end ?_ rfl; intro u; clear u; refine ⟨rfl, rfl, EntGoal.mk ?_ ?_⟩ <;> (repeat' (first | exact trivial | (with_reducible rfl) | apply And.intro | rfl)))
    · have hR2 := con_no hR h1
      clear hok
      refine con_of_call2 rfl ?_
      refine call_inline Try.func6 rfl rfl ?_
      intro _
      repeat' (first | (refine is_split ?_; refine sp_yes (by rfl) ?_ <;> (intro u; clear u)) | (refine is_call ?_; (first | refine call_auto (wakes_con) (lets_rfl rfl) (by exact trivial) rfl ?_ | refine call_auto (hD) (lets_rfl rfl) (by exact trivial) rfl ?_ | refine call_auto (hR2) (lets_rfl rfl) (by exact trivial) rfl ?_); intro u; clear u))
      all_goals (refine con_end ?_ rfl; intro u; clear u; refine ⟨rfl, rfl, EntGoal.mk ?_ ?_⟩ <;> (repeat' (first | exact trivial | (with_reducible rfl) | apply And.intro | rfl)))
  have hokS := delta_ok hok
  rw [show dlSh a b = ⟨a.ver, b.ver, deltaL a b⟩ by unfold dlSh; rw [if_pos hok], show dlE a b = 0 by unfold dlE; rw [if_pos hok]] at hD
  obtain ⟨s, hs⟩ : ∃ s : Sh, s = ⟨a.ver, b.ver, deltaL a b⟩ := ⟨_, rfl⟩
  rw [← hs] at hD hokS
  have hs1 : s.base = a.ver := by rw [hs]
  have hs2 : s.to = b.ver := by rw [hs]
  have hs3 : deltaL a b = s.rows := by rw [hs]
  clear hs
  have hDl : s.rows.length ≤ 16 := hokS.1.2.2
  have hRt := con_yes (shright_con s (by omega)) hokS
  obtain ⟨h1, h2, h3⟩ := hok
  have hR2 := con_yes hR h2
  have hS2 := con_yes hS h3
  have hget := rowsK_get (fun i => !eqEnt (a.at i) (b.at i)) b 16
  change ∀ k, k < (deltaL a b).length → ∃ j, j < 16 ∧ rAt (deltaL a b) k = _ ∧ _ ∧ (deltaL a b).take k = _ at hget
  have hfin : foldR ⟨s.to, a.rows⟩ (deltaL a b) = b := tab_ext (by rw [foldR_len]; exact ha) hb (by rw [foldR_ver]; exact hs2) fun i hi => by
    have := fold_at (o := ⟨s.to, a.rows⟩) (b := b) ha 16 (Nat.le_refl _) i hi
    rw [if_pos hi] at this
    exact this
  have hmid : ∀ j, j < 16 → (foldR ⟨s.to, a.rows⟩ (rowsK (fun i => !eqEnt (a.at i) (b.at i)) b j)).at j = a.at j := fun j hj => by
    have := fold_at (o := ⟨s.to, a.rows⟩) (b := b) ha j (by omega) j hj
    rw [if_neg (by omega)] at this
    exact this
  rw [hs3] at hget hfin
  refine con_of_call2 rfl ?_
  refine call_inline Try.func6 rfl rfl ?_
  intro _
  repeat' (first | (refine is_split ?_; refine sp_no (by exact dec_f (by omega)) ?_ <;> (intro u; clear u)) | (refine is_call ?_; (first | refine call_auto (hD) (lets_rfl rfl) (by exact trivial) rfl ?_ | refine call_auto (hR2) (lets_rfl rfl) (by exact trivial) rfl ?_ | refine call_auto (hS2) (lets_rfl rfl) (by exact trivial) rfl ?_); intro u; clear u))
  refine loop_keep (ι := Nat × Tab) (fun | (k, _) => s.rows.length - k) (fun | (k, o) => k ≤ s.rows.length ∧ o = foldR ⟨s.to, a.rows⟩ (s.rows.take k)) [2, 3, 5, 6, 7] (fun | (k, _) => [(8, .t (.one (.v (.int .i64 k))))]) (fun | (_, o) => [(4, .box (tabS o) 1 26)]) (fun _ => []) [] 0 (0, ⟨s.to, a.rows⟩) ⟨by omega, rfl⟩ ?_ ?_
  · (intro u; clear u; refine ⟨rfl, rfl, EntGoal.mk ?_ ?_⟩ <;> (repeat' (first | exact trivial | (with_reducible rfl) | apply And.intro | rfl)))
  rintro ⟨k, o⟩ ⟨hk, ho⟩ u
  clear u
  have hol : o.rows.length = 16 := by rw [ho, foldR_len]; exact ha
  by_cases hc : k < s.rows.length
  · obtain ⟨j, j1, j2, j3, j4⟩ := hget k hc
    have hbk : (rAt s.rows k).bkt = j := by rw [j2]
    have hen : (rAt s.rows k).ent = b.at j := by rw [j2]
    have hne : eqEnt (o.at (rAt s.rows k).bkt.toNat) (rAt s.rows k).ent = false := by
      rw [ho, hbk, hen, Int.toNat_natCast, j4, hmid j j1]
      simpa using j3
    have hnext : o.set (rAt s.rows k).bkt.toNat (rAt s.rows k).ent = foldR ⟨s.to, a.rows⟩ (s.rows.take (k + 1)) := by
      rw [rows_take_get hc, foldR_app, ho]
    repeat' (first | (refine is_split ?_; (first | (refine sp_no hne ?_) | refine sp_yes (by exact dec_t (by omega)) ?_ | refine sp_no (by exact dec_f (by omega)) ?_) <;> (intro u; clear u)) | (refine is_asked ?_; (first | (refine is_spec ?_; (with_reducible refine asked _ (sp_add (by simp only [lo, hi]; omega) (by simp only [lo, hi]; omega)) ?_)) | (refine asked _ (row_bkt s.rows k (by show (0 + Int.toNat (k : Int)) * 5 + 0 = _; omega) (by omega)) ?_) | (refine asked _ (row_ent s.rows k (by show (0 + Int.toNat (k : Int)) * 5 + 1 = _; omega) (by omega)) ?_) | (refine asked _ (tab_ask o (i := (rAt s.rows k).bkt.toNat) (by omega)) ?_) | (refine asked _ (tab_put hol (i := (rAt s.rows k).bkt.toNat) (rAt s.rows k).ent (by omega)) ?_) | refine asked () ⟨by omega, by omega⟩ ?_ | refine asked () (by show heldFree Try.prog _ _ = true; decide +kernel) ?_); intro u; clear u) | (refine is_draw ?_; refine draw_step mixed (by kernel_rfl) ?_; intro u; clear u))
    refine again (k + 1, o.set (rAt s.rows k).bkt.toNat (rAt s.rows k).ent) ⟨by omega, hnext⟩ (by show s.rows.length - (k + 1) < s.rows.length - k; omega) ?_
    (intro u; clear u; refine ⟨rfl, rfl, EntGoal.mk ?_ ?_⟩ <;> (repeat' (first | exact trivial | (with_reducible rfl) | apply And.intro | rfl)))
  · obtain rfl : k = s.rows.length := by omega
    rw [List.take_of_length_le (Nat.le_refl _), hfin] at ho
    subst ho
    clear hget hmid hfin
    repeat' (first | (refine is_split ?_; (first | (refine sp_yes (show eqTab o o = true from (eqTab_iff hol hol).2 rfl) ?_) | refine sp_yes (by (first | rfl | exact dec_t (by omega))) ?_ | refine sp_no (by exact dec_f (by omega)) ?_) <;> (intro u; clear u)) | (refine is_asked ?_; refine asked () (by show heldFree Try.prog _ _ = true; decide +kernel) ?_; intro u; clear u) | (refine is_call ?_; (first | refine call_auto (hRt) (lets_rfl rfl) (by exact ⟨⟨_, rfl, rfl, rfl⟩, trivial⟩) rfl ?_ | refine call_auto (wakes_con) (lets_rfl rfl) (by exact trivial) rfl ?_); intro u; clear u))
    all_goals (refine con_end ?_ rfl; intro u; clear u; refine ⟨rfl, rfl, EntGoal.mk ?_ ?_⟩ <;> (repeat' (first | exact trivial | (with_reducible rfl) | apply And.intro | rfl)))
