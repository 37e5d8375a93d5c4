/- Contracts of functions of the program, or a row of the seat, proved out of them. No condition beyond those that stand in each statement. -/
import Derived.Test.YtddagjjnojlojaaS11gS
namespace Go.Proofs.S11
open Go Go.SE
set_option maxRecDepth 100000
set_option maxHeartbeats 4000000
attribute [local irreducible] specI

/-- The rows of a table that are so. -/
def rowsK (so : Nat → Bool) (t : Tab) : Nat → List Row
  | 0 => []
  | k + 1 => bif so k then rowsK so t k ++ [⟨k, t.at k⟩] else rowsK so t k
theorem rowsK_len (so : Nat → Bool) (t : Tab) : ∀ k, (rowsK so t k).length ≤ k
  | 0 => Nat.le_refl _
  | k + 1 => by
    have := rowsK_len so t k
    unfold rowsK
    cases so k
    · show (rowsK so t k).length ≤ k + 1; omega
    · show (rowsK so t k ++ [_]).length ≤ k + 1; rw [List.length_append]; simp; omega
theorem rowsK_yes {so : Nat → Bool} {t : Tab} {k : Nat} {m : List Row} (hm : m = rowsK so t k) (h : so k = true) : m ++ [⟨(k : Int), t.at k⟩] = rowsK so t (k + 1) := by
  show _ = bif so k then _ else _
  rw [h, hm]; rfl
theorem rowsK_no {so : Nat → Bool} {t : Tab} {k : Nat} {m : List Row} (hm : m = rowsK so t k) (h : so k = false) : m = rowsK so t (k + 1) := by
  show _ = bif so k then _ else _
  rw [h, hm]; rfl
def snapL (t : Tab) : List Row := rowsK (fun _ => true) t 16
def deltaL (a b : Tab) : List Row := rowsK (fun i => !eqEnt (a.at i) (b.at i)) b 16
def ofSh (t : Tab) : Sh := if okTab t then ⟨-1, t.ver, snapL t⟩ else zeroSh
def ofE (t : Tab) : Int := if okTab t then 0 else 2
def okDl (a b : Tab) : Prop := a.ver < b.ver ∧ okTab a ∧ okTab b
instance (a b : Tab) : Decidable (okDl a b) := by unfold okDl; infer_instance
def dlSh (a b : Tab) : Sh := if okDl a b then ⟨a.ver, b.ver, deltaL a b⟩ else zeroSh
def dlE (a b : Tab) : Int := if okDl a b then 0 else 2

theorem row_app (m : List Row) (r : Row) (h : m.length ≤ 1000000) : rowsV m ++ rowV r = rowsV (m ++ [r]) ∧ (rowsV m).length = m.length * 5 ∧ (rowV r).length = 1 * 5 ∧ m.length + 1 ≤ maxLen ∧ (m.length + 1) * 40 ≤ 140737488355328 :=
  ⟨by rw [rowsV_app]; simp [rowsV], rowsV_length m, rfl, by unfold maxLen; omega, by omega⟩

theorem of_con (t : Tab) : CallCon Try.prog 15 [tabT t] [] (.tup [shT 0 (ofSh t), .one (.v (.int .i64 (ofE t)))]) [.row (rowsV (ofSh t).rows) 5 48 true] := by
  have hR := tabright_con t
  by_cases hok : okTab t
  rotate_left
  · rw [show ofSh t = zeroSh by unfold ofSh; rw [if_neg hok], show ofE t = 2 by unfold ofE; rw [if_neg hok]]
    have hR2 := con_no hR hok
    refine con_of_call2 rfl ?_
    refine call_inline Try.func15 rfl rfl ?_
    intro _
    repeat' (refine is_call ?_; refine call_auto (hR2) (lets_rfl rfl) (by exact trivial) rfl ?_; intro u; clear u)
    all_goals (refine con_end ?_ rfl; intro u; clear u; refine ⟨rfl, rfl, EntGoal.mk ?_ ?_⟩ <;> (repeat' (first | exact trivial | (with_reducible rfl) | apply And.intro | rfl)))
  rw [show ofSh t = ⟨-1, t.ver, snapL t⟩ by unfold ofSh; rw [if_pos hok], show ofE t = 0 by unfold ofE; rw [if_pos hok]]
  have hR2 := con_yes hR hok
  refine con_of_call2 rfl ?_
  refine call_inline Try.func15 rfl rfl ?_
  intro _
  repeat' (first | (refine is_draw (id := 3) ?_; refine mask_start mixed rfl ?_) | (refine is_mask ?_; (first | (refine mask_take 0 (by rfl) (by decide +kernel) (by decide +kernel) ?_; intro u; clear u) | (refine held_start [1, 2] ?_; refine is_held ?_))) | (refine is_held ?_; (first | (refine held_load [1, 2] 1 _ (by rfl) (.head _) rfl (by decide +kernel) ?_; intro u; clear u) | (refine held_load [1, 2] 2 _ (by rfl) (.tail _ (.head _)) rfl (by decide +kernel) ?_; intro u; clear u) | (refine held_step [1, 2] 3 (by rfl) rfl (by decide +kernel) ?_; intro u; clear u) | (refine held_step [1, 2] 4 (by rfl) rfl (by decide +kernel) ?_; intro u; clear u))) | (refine is_kept ?_; refine Kept.mk ?_ ?_; focus (repeat' (first | exact trivial | apply And.intro | exact rfl))) | (refine is_draw ?_; refine draw_step mixed (by kernel_rfl) ?_; intro u; clear u) | (refine is_range ?_; refine range_step rfl rfl ?_; intro u; clear u) | (refine is_call ?_; (first | refine call_auto (hR2) (lets_rfl rfl) (by exact trivial) rfl ?_ | refine call_inline Try.func50 rfl rfl ?_ | refine call_inline Try.func49 rfl rfl ?_ | refine call_inline Try.func66 rfl rfl ?_ | refine call_inline Try.func67 rfl rfl ?_); intro u; clear u))
  refine loop_keep (ι := Nat × List Row) (fun | (k, _) => 16 - k) (fun | (k, m) => k ≤ 16 ∧ m = rowsK (fun _ => true) t k) [0, 1, 18] (fun | (k, _) => [(19, .t (.one (.v (.int .i64 k))))]) (fun | (_, m) => [(4, .box [.sl 7 0 m.length] 1 27), (7, .row (rowsV m) 5 48 true)]) (fun _ => [(6, [], [2])]) [] 1 (0, []) ⟨by omega, rfl⟩ ?_ ?_
  · (intro u; clear u; refine ⟨rfl, rfl, EntGoal.mk ?_ ?_⟩ <;> (repeat' (first | exact trivial | (with_reducible rfl) | apply And.intro | rfl)))
  rintro ⟨k, m⟩ ⟨hk, hm⟩ u
  clear u
  have hl := rowsK_len (fun _ => true) t k
  rw [← hm] at hl
  repeat' (first | (refine is_held ?_; (first | (refine held_end (by decide +kernel) ?_; intro u; clear u) | (refine held_step [1, 2] 5 (by rfl) rfl (by decide +kernel) ?_; intro u; clear u) | (refine held_step [1, 2] 6 (by rfl) rfl (by decide +kernel) ?_; intro u; clear u) | (refine held_step [1, 2] 7 (by rfl) rfl (by decide +kernel) ?_; intro u; clear u))) | (refine is_kept ?_; refine Kept.mk ?_ ?_; focus (repeat' (first | exact trivial | apply And.intro | exact rfl))) | (refine is_draw (id := 4) ?_; refine bar_start mixed ?_; refine rest_bar 17 (by kernel_rfl) rfl (by rfl) (by kernel_rfl) ?_; intro u; clear u) | (refine is_split ?_; refine sp_dec (fun g => ?_) (fun g => ?_) <;> (intro u; clear u)) | (refine is_asked ?_; (first | (refine is_spec ?_; (with_reducible refine asked _ (sp_add (by simp only [lo, hi]; omega) (by simp only [lo, hi]; omega)) ?_)) | (refine asked _ (rows_part t k rfl (by omega)) ?_) | (refine asked (rowsV (m ++ [Row.mk (k : Int) (t.at k)])) (row_app m (Row.mk (k : Int) (t.at k)) (by omega)) ?_)); intro u; clear u) | (refine is_yield ?_; refine yield_step rfl rfl rfl rfl ?_; intro u; clear u) | (refine is_rest ?_; refine rest_dr (by kernel_rfl) (by rfl) ?_; intro u; clear u))
  · refine again (k + 1, m ++ [Row.mk (k : Int) (t.at k)]) ⟨by omega, rowsK_yes hm rfl⟩ (by show 16 - (k + 1) < 16 - k; omega) ?_
    (intro u; clear u; refine ⟨rfl, rfl, EntGoal.mk ?_ ?_⟩ <;> (repeat' (first | exact trivial | (with_reducible rfl) | apply And.intro | rfl)))
    all_goals simp
  · obtain rfl : k = 16 := by omega
    change m = snapL t at hm
    rw [← hm]
    (refine con_end ?_ rfl; intro u; clear u; refine ⟨rfl, rfl, EntGoal.mk ?_ ?_⟩ <;> (repeat' (first | exact trivial | (with_reducible rfl) | apply And.intro | rfl)))

theorem refof_con (t : Tab) : CallCon Try.prog 16 [tabT t] [] (.tup [shT 0 (ofSh t), .one (.v (.int .i64 (ofE t)))]) [.row (rowsV (ofSh t).rows) 5 48 true] := by
  have hR := reftabright_con t
  by_cases hok : okTab t
  rotate_left
  · rw [show ofSh t = zeroSh by unfold ofSh; rw [if_neg hok], show ofE t = 2 by unfold ofE; rw [if_neg hok]]
    have hR2 := con_no hR hok
    refine con_of_call2 rfl ?_
    refine call_inline Try.func16 rfl rfl ?_
    intro _
    repeat' (refine is_call ?_; refine call_auto (hR2) (lets_rfl rfl) (by exact trivial) rfl ?_; intro u; clear u)
    all_goals (refine con_end ?_ rfl; intro u; clear u; refine ⟨rfl, rfl, EntGoal.mk ?_ ?_⟩ <;> (repeat' (first | exact trivial | (with_reducible rfl) | apply And.intro | rfl)))
  rw [show ofSh t = ⟨-1, t.ver, snapL t⟩ by unfold ofSh; rw [if_pos hok], show ofE t = 0 by unfold ofE; rw [if_pos hok]]
  have hR2 := con_yes hR hok
  refine con_of_call2 rfl ?_
  refine call_inline Try.func16 rfl rfl ?_
  intro _
  repeat' (refine is_call ?_; refine call_auto (hR2) (lets_rfl rfl) (by exact trivial) rfl ?_; intro u; clear u)
  refine loop_keep (ι := Nat × List Row) (fun | (k, _) => 16 - k) (fun | (k, m) => k ≤ 16 ∧ m = rowsK (fun _ => true) t k) [1, 2, 4] (fun | (k, _) => [(5, .t (.one (.v (.int .i64 k))))]) (fun | (_, m) => [(2, .box [.n .i64 (-1), .v (.int .i64 t.ver), .sl 3 0 m.length] 1 29), (3, .row (rowsV m) 5 48 true)]) (fun _ => []) [] 1 (0, []) ⟨by omega, rfl⟩ ?_ ?_
  · (intro u; clear u; refine ⟨rfl, rfl, EntGoal.mk ?_ ?_⟩ <;> (repeat' (first | exact trivial | (with_reducible rfl) | apply And.intro | rfl)))
  rintro ⟨k, m⟩ ⟨hk, hm⟩ u
  clear u
  have hl := rowsK_len (fun _ => true) t k
  rw [← hm] at hl
  repeat' (first | (refine is_split ?_; refine sp_dec (fun g => ?_) (fun g => ?_) <;> (intro u; clear u)) | (refine is_asked ?_; (first | (refine is_spec ?_; (with_reducible refine asked _ (sp_add (by simp only [lo, hi]; omega) (by simp only [lo, hi]; omega)) ?_)) | (refine asked _ (tab_ask t (i := k) (by omega)) ?_) | (refine asked (rowsV (m ++ [Row.mk (k : Int) (t.at k)])) (row_app m (Row.mk (k : Int) (t.at k)) (by omega)) ?_) | refine asked () ⟨by omega, by omega⟩ ?_); intro u; clear u) | (refine is_draw ?_; refine draw_step mixed (by kernel_rfl) ?_; intro u; clear u))
  · refine again (k + 1, m ++ [Row.mk (k : Int) (t.at k)]) ⟨by omega, rowsK_yes hm rfl⟩ (by show 16 - (k + 1) < 16 - k; omega) ?_
    (intro u; clear u; refine ⟨rfl, rfl, EntGoal.mk ?_ ?_⟩ <;> (repeat' (first | exact trivial | (with_reducible rfl) | apply And.intro | rfl)))
    all_goals simp
  · obtain rfl : k = 16 := by omega
    change m = snapL t at hm
    rw [← hm]
    (refine con_end ?_ rfl; intro u; clear u; refine ⟨rfl, rfl, EntGoal.mk ?_ ?_⟩ <;> (repeat' (first | exact trivial | (with_reducible rfl) | apply And.intro | rfl)))

def eqFrom (a b : Tab) : List Nat → Bool
  | [] => true
  | i :: l => eqEnt (a.at i) (b.at i) && eqFrom a b l
def eqRows (a b : Tab) : Bool := eqFrom a b [0, 1, 2, 3, 4, 5, 6, 7, 8, 9, 10, 11, 12, 13, 14, 15]
def eqTab (a b : Tab) : Bool := a.ver == b.ver && (eqRows a b && true)
def sameR (a b : Tab) : Prop := ∀ i, i < 16 → a.at i = b.at i
instance (a b : Tab) : Decidable (sameR a b) := by unfold sameR; infer_instance
theorem eqRows_iff {a b : Tab} : eqRows a b = true ↔ sameR a b := by
  unfold eqRows
  simp only [eqFrom, Bool.and_true, Bool.and_eq_true, eqEnt_iff]
  constructor
  · rintro ⟨h0, h1, h2, h3, h4, h5, h6, h7, h8, h9, h10, h11, h12, h13, h14, h15⟩
    exact lt16 ⟨h0, h1, h2, h3, h4, h5, h6, h7, h8, h9, h10, h11, h12, h13, h14, h15⟩
  · intro h
    exact ⟨h 0 (by omega), h 1 (by omega), h 2 (by omega), h 3 (by omega), h 4 (by omega), h 5 (by omega), h 6 (by omega), h 7 (by omega), h 8 (by omega), h 9 (by omega), h 10 (by omega), h 11 (by omega), h 12 (by omega), h 13 (by omega), h 14 (by omega), h 15 (by omega)⟩
theorem tab_ext {a b : Tab} (ha : a.rows.length = 16) (hb : b.rows.length = 16) (hv : a.ver = b.ver) (h : sameR a b) : a = b := by
  obtain ⟨v, l⟩ := a
  obtain ⟨w, r⟩ := b
  obtain rfl : v = w := hv
  congr 1
  apply List.ext_getElem (by rw [ha, hb])
  intro i h1 h2
  have := h i (by simp only at ha h1; omega)
  simpa [Tab.at, List.getD_eq_getElem?_getD, List.getElem?_eq_getElem h1, List.getElem?_eq_getElem h2] using this
theorem eqTab_iff {a b : Tab} (ha : a.rows.length = 16) (hb : b.rows.length = 16) : eqTab a b = true ↔ a = b := by
  unfold eqTab
  rw [Bool.and_true, Bool.and_eq_true, eqRows_iff, beq_iff_eq]
  exact ⟨fun h => tab_ext ha hb h.1 h.2, fun h => by subst h; exact ⟨rfl, fun _ _ => rfl⟩⟩
theorem rowsK_none {so : Nat → Bool} {t : Tab} : ∀ k, (∀ i, i < k → so i = false) → rowsK so t k = []
  | 0, _ => rfl
  | k + 1, h => by
    show (bif so k then _ else _) = _
    rw [h k (by omega)]
    exact rowsK_none k fun i hi => h i (by omega)
theorem delta_same {a b : Tab} (h : sameR a b) : deltaL a b = [] := rowsK_none 16 fun i hi => by rw [h i hi, eqEnt_iff.2 rfl]; rfl

theorem delta_con (a b : Tab) : CallCon Try.prog 17 [tabT a, tabT b] [] (.tup [shT 0 (dlSh a b), .one (.v (.int .i64 (dlE a b)))]) [.row (rowsV (dlSh a b).rows) 5 48 true] := by
  have hR := tabright_con a
  have hS := tabright_con b
  by_cases hok : okDl a b
  rotate_left
  · rw [show dlSh a b = zeroSh by unfold dlSh; rw [if_neg hok], show dlE a b = 2 by unfold dlE; rw [if_neg hok]]
    unfold okDl at hok
    by_cases h1 : okTab a
    · have hR2 := con_yes hR h1
      by_cases h2 : okTab b
      · have hS2 := con_yes hS h2
        have h3 : ¬ a.ver < b.ver := fun h => hok ⟨h, h1, h2⟩
        clear hok
        refine con_of_call2 rfl ?_
        refine call_inline Try.func17 rfl rfl ?_
        intro _
        repeat' (refine is_split ?_; refine sp_yes (by exact dec_t (by omega)) ?_ <;> (intro u; clear u))
        all_goals (refine con_end ?_ rfl; intro u; clear u; refine ⟨rfl, rfl, EntGoal.mk ?_ ?_⟩ <;> (repeat' (first | exact trivial | (with_reducible rfl) | apply And.intro | rfl)))
      · have hS2 := con_no hS h2
        clear hok
        refine con_of_call2 rfl ?_
        refine call_inline Try.func17 rfl rfl ?_
        intro _
        repeat' (first | (refine is_split ?_; refine sp_dec (fun g => ?_) (fun g => ?_) <;> (intro u; clear u)) | (refine is_call ?_; (first | refine call_auto (hR2) (lets_rfl rfl) (by exact trivial) rfl ?_ | refine call_auto (hS2) (lets_rfl rfl) (by exact trivial) rfl ?_); intro u; clear u))
        all_goals (refine con_end ?_ rfl; intro u; clear u; refine ⟨rfl, rfl, EntGoal.mk ?_ ?_⟩ <;> (repeat' (first | exact trivial | (with_reducible rfl) | apply And.intro | rfl)))
    · have hR2 := con_no hR h1
      clear hok
      refine con_of_call2 rfl ?_
      refine call_inline Try.func17 rfl rfl ?_
      intro _
      repeat' (first | (refine is_split ?_; refine sp_dec (fun g => ?_) (fun g => ?_) <;> (intro u; clear u)) | (refine is_call ?_; refine call_auto (hR2) (lets_rfl rfl) (by exact trivial) rfl ?_; intro u; clear u))
      all_goals (refine con_end ?_ rfl; intro u; clear u; refine ⟨rfl, rfl, EntGoal.mk ?_ ?_⟩ <;> (repeat' (first | exact trivial | (with_reducible rfl) | apply And.intro | rfl)))
  rw [show dlSh a b = ⟨a.ver, b.ver, deltaL a b⟩ by unfold dlSh; rw [if_pos hok], show dlE a b = 0 by unfold dlE; rw [if_pos hok]]
  obtain ⟨h1, h2, h3⟩ := hok
  have hR2 := con_yes hR h2
  have hS2 := con_yes hS h3
  by_cases h : sameR a b
  · rw [delta_same h]
    refine con_of_call2 rfl ?_
    refine call_inline Try.func17 rfl rfl ?_
    intro _
    repeat' (first | (refine is_draw (id := 3) ?_; refine mask_start mixed rfl ?_) | (refine is_mask ?_; (first | (refine mask_take 0 (by rfl) (by decide +kernel) (by decide +kernel) ?_; intro u; clear u) | (refine mask_take 2 (by rfl) (by decide +kernel) (by decide +kernel) ?_; intro u; clear u) | (refine held_start [1, 3, 4] ?_; refine is_held ?_))) | (refine is_held ?_; (first | (refine held_end (by decide +kernel) ?_; intro u; clear u) | (refine held_load [1, 3, 4] 1 _ (by rfl) (.head _) rfl (by decide +kernel) ?_; intro u; clear u) | (refine held_load [1, 3, 4] 3 _ (by rfl) (.tail _ (.head _)) rfl (by decide +kernel) ?_; intro u; clear u) | (refine held_load [1, 3, 4] 4 _ (by rfl) (.tail _ (.tail _ (.head _))) rfl (by decide +kernel) ?_; intro u; clear u) | (refine held_step [1, 3, 4] 5 (by rfl) rfl (by decide +kernel) ?_; intro u; clear u) | (refine held_step [1, 3, 4] 6 (by rfl) rfl (by decide +kernel) ?_; intro u; clear u) | (refine held_step [1, 3, 4] 7 (by rfl) rfl (by decide +kernel) ?_; intro u; clear u) | (refine held_step [1, 3, 4] 8 (by rfl) rfl (by decide +kernel) ?_; intro u; clear u) | (refine held_step [1, 3, 4] 9 (by rfl) rfl (by decide +kernel) ?_; intro u; clear u))) | (refine is_kept ?_; refine Kept.mk ?_ ?_; focus (repeat' (first | exact trivial | apply And.intro | exact rfl))) | (refine is_split ?_; (first | (refine sp_yes (eqRows_iff.2 h) ?_) | refine sp_no (by exact dec_f (by omega)) ?_) <;> (intro u; clear u)) | (refine is_asked ?_; refine asked () (by show heldFree Try.prog _ _ = true; decide +kernel) ?_; intro u; clear u) | (refine is_draw ?_; refine draw_step mixed (by kernel_rfl) ?_; intro u; clear u) | (refine is_range ?_; refine range_step rfl rfl ?_; intro u; clear u) | (refine is_call ?_; (first | refine call_auto (hR2) (lets_rfl rfl) (by exact trivial) rfl ?_ | refine call_auto (hS2) (lets_rfl rfl) (by exact trivial) rfl ?_ | refine call_inline Try.func50 rfl rfl ?_ | refine call_inline Try.func49 rfl rfl ?_ | refine call_inline Try.func66 rfl rfl ?_ | refine call_inline Try.func67 rfl rfl ?_); intro u; clear u))
    all_goals (refine con_end ?_ rfl; intro u; clear u; refine ⟨rfl, rfl, EntGoal.mk ?_ ?_⟩ <;> (repeat' (first | exact trivial | (with_reducible rfl) | apply And.intro | rfl)))
  have hf : eqRows a b = false := by rw [Bool.eq_false_iff]; exact fun e => h (eqRows_iff.1 e)
  refine con_of_call2 rfl ?_
  refine call_inline Try.func17 rfl rfl ?_
  intro _
  repeat' (first | (refine is_draw (id := 3) ?_; refine mask_start mixed rfl ?_) | (refine is_mask ?_; (first | (refine mask_take 0 (by rfl) (by decide +kernel) (by decide +kernel) ?_; intro u; clear u) | (refine mask_take 2 (by rfl) (by decide +kernel) (by decide +kernel) ?_; intro u; clear u) | (refine held_start [1, 3, 4] ?_; refine is_held ?_))) | (refine is_held ?_; (first | (refine held_load [1, 3, 4] 1 _ (by rfl) (.head _) rfl (by decide +kernel) ?_; intro u; clear u) | (refine held_load [1, 3, 4] 3 _ (by rfl) (.tail _ (.head _)) rfl (by decide +kernel) ?_; intro u; clear u) | (refine held_load [1, 3, 4] 4 _ (by rfl) (.tail _ (.tail _ (.head _))) rfl (by decide +kernel) ?_; intro u; clear u) | (refine held_step [1, 3, 4] 5 (by rfl) rfl (by decide +kernel) ?_; intro u; clear u) | (refine held_step [1, 3, 4] 6 (by rfl) rfl (by decide +kernel) ?_; intro u; clear u))) | (refine is_kept ?_; refine Kept.mk ?_ ?_; focus (repeat' (first | exact trivial | apply And.intro | exact rfl))) | (refine is_split ?_; (first | (refine sp_no hf ?_) | refine sp_no (by exact dec_f (by omega)) ?_) <;> (intro u; clear u)) | (refine is_asked ?_; refine asked () (by show heldFree Try.prog _ _ = true; decide +kernel) ?_; intro u; clear u) | (refine is_draw ?_; refine draw_step mixed (by kernel_rfl) ?_; intro u; clear u) | (refine is_range ?_; refine range_step rfl rfl ?_; intro u; clear u) | (refine is_call ?_; (first | refine call_auto (hR2) (lets_rfl rfl) (by exact trivial) rfl ?_ | refine call_auto (hS2) (lets_rfl rfl) (by exact trivial) rfl ?_ | refine call_inline Try.func50 rfl rfl ?_ | refine call_inline Try.func49 rfl rfl ?_ | refine call_inline Try.func66 rfl rfl ?_ | refine call_inline Try.func67 rfl rfl ?_); intro u; clear u))
  refine loop_keep (ι := Nat × List Row) (fun | (k, _) => 16 - k) (fun | (k, m) => k ≤ 16 ∧ m = rowsK (fun i => !eqEnt (a.at i) (b.at i)) b k) [0, 1, 18] (fun | (k, _) => [(19, .t (.one (.v (.int .i64 k))))]) (fun | (_, m) => [(5, .box [.sl 8 0 m.length] 1 27), (8, .row (rowsV m) 5 48 true)]) (fun _ => [(7, [], [2])]) [] 1 (0, []) ⟨by omega, rfl⟩ ?_ ?_
  · (intro u; clear u; refine ⟨rfl, rfl, EntGoal.mk ?_ ?_⟩ <;> (repeat' (first | exact trivial | (with_reducible rfl) | apply And.intro | rfl)))
  rintro ⟨k, m⟩ ⟨hk, hm⟩ u
  clear u
  have hl := rowsK_len (fun i => !eqEnt (a.at i) (b.at i)) b k
  rw [← hm] at hl
  by_cases hq : eqEnt (a.at k) (b.at k) = true
  · repeat' (first | (refine is_held ?_; (first | (refine held_end (by decide +kernel) ?_; intro u; clear u) | (refine held_step [1, 3, 4] 7 (by rfl) rfl (by decide +kernel) ?_; intro u; clear u) | (refine held_step [1, 3, 4] 8 (by rfl) rfl (by decide +kernel) ?_; intro u; clear u) | (refine held_step [1, 3, 4] 9 (by rfl) rfl (by decide +kernel) ?_; intro u; clear u))) | (refine is_kept ?_; refine Kept.mk ?_ ?_; focus (repeat' (first | exact trivial | apply And.intro | exact rfl))) | (refine is_draw (id := 4) ?_; refine bar_start mixed ?_; refine rest_bar 17 (by kernel_rfl) rfl (by rfl) (by kernel_rfl) ?_; intro u; clear u) | (refine is_split ?_; (first | (refine sp_no (by first | (show (!eqEnt (a.at k) (b.at k)) = false; rw [hq]; rfl) | fail) ?_) | refine sp_dec (fun g => ?_) (fun g => ?_)) <;> (intro u; clear u)) | (refine is_asked ?_; (first | (refine is_spec ?_; (with_reducible refine asked _ (sp_add (by simp only [lo, hi]; omega) (by simp only [lo, hi]; omega)) ?_)) | (refine asked _ (rows_part b k rfl (by omega)) ?_) | (refine asked _ (tab_ask a (i := k) (by omega)) ?_) | refine asked () ⟨by omega, by omega⟩ ?_ | refine asked () (by show heldFree Try.prog _ _ = true; decide +kernel) ?_); intro u; clear u) | (refine is_rest ?_; refine rest_dr (by kernel_rfl) (by rfl) ?_; intro u; clear u))
    · refine again (k + 1, m) ⟨by omega, rowsK_no hm (by rw [hq]; rfl)⟩ (by show 16 - (k + 1) < 16 - k; omega) ?_
      (intro u; clear u; refine ⟨rfl, rfl, EntGoal.mk ?_ ?_⟩ <;> (repeat' (first | exact trivial | (with_reducible rfl) | apply And.intro | rfl)))
    · obtain rfl : k = 16 := by omega
      change m = deltaL a b at hm
      rw [← hm]
      (refine con_end ?_ rfl; intro u; clear u; refine ⟨rfl, rfl, EntGoal.mk ?_ ?_⟩ <;> (repeat' (first | exact trivial | (with_reducible rfl) | apply And.intro | rfl)))
  · have hq2 := Bool.eq_false_iff.2 hq
    repeat' (first | (refine is_held ?_; (first | (refine held_end (by decide +kernel) ?_; intro u; clear u) | (refine held_step [1, 3, 4] 7 (by rfl) rfl (by decide +kernel) ?_; intro u; clear u) | (refine held_step [1, 3, 4] 8 (by rfl) rfl (by decide +kernel) ?_; intro u; clear u) | (refine held_step [1, 3, 4] 9 (by rfl) rfl (by decide +kernel) ?_; intro u; clear u))) | (refine is_kept ?_; refine Kept.mk ?_ ?_; focus (repeat' (first | exact trivial | apply And.intro | exact rfl))) | (refine is_draw (id := 4) ?_; refine bar_start mixed ?_; refine rest_bar 17 (by kernel_rfl) rfl (by rfl) (by kernel_rfl) ?_; intro u; clear u) | (refine is_split ?_; (first | (refine sp_yes (by first | (show (!eqEnt (a.at k) (b.at k)) = true; rw [hq2]; rfl) | fail) ?_) | refine sp_dec (fun g => ?_) (fun g => ?_)) <;> (intro u; clear u)) | (refine is_asked ?_; (first | (refine is_spec ?_; (with_reducible refine asked _ (sp_add (by simp only [lo, hi]; omega) (by simp only [lo, hi]; omega)) ?_)) | (refine asked _ (rows_part b k rfl (by omega)) ?_) | (refine asked _ (tab_ask a (i := k) (by omega)) ?_) | (refine asked (rowsV (m ++ [Row.mk (k : Int) (b.at k)])) (row_app m (Row.mk (k : Int) (b.at k)) (by omega)) ?_) | refine asked () ⟨by omega, by omega⟩ ?_ | refine asked () (by show heldFree Try.prog _ _ = true; decide +kernel) ?_); intro u; clear u) | (refine is_yield ?_; refine yield_step rfl rfl rfl rfl ?_; intro u; clear u) | (refine is_rest ?_; refine rest_dr (by kernel_rfl) (by rfl) ?_; intro u; clear u))
    · refine again (k + 1, m ++ [Row.mk (k : Int) (b.at k)]) ⟨by omega, rowsK_yes hm (by rw [hq2]; rfl)⟩ (by show 16 - (k + 1) < 16 - k; omega) ?_
      (intro u; clear u; refine ⟨rfl, rfl, EntGoal.mk ?_ ?_⟩ <;> (repeat' (first | exact trivial | (with_reducible rfl) | apply And.intro | rfl)))
      all_goals simp
    · obtain rfl : k = 16 := by omega
      change m = deltaL a b at hm
      rw [← hm]
      (refine con_end ?_ rfl; intro u; clear u; refine ⟨rfl, rfl, EntGoal.mk ?_ ?_⟩ <;> (repeat' (first | exact trivial | (with_reducible rfl) | apply And.intro | rfl)))

theorem refdelta_con (a b : Tab) : CallCon Try.prog 18 [tabT a, tabT b] [] (.tup [shT 0 (dlSh a b), .one (.v (.int .i64 (dlE a b)))]) [.row (rowsV (dlSh a b).rows) 5 48 true] := by
  have hR := reftabright_con a
  have hS := reftabright_con b
  by_cases hok : okDl a b
  rotate_left
  · rw [show dlSh a b = zeroSh by unfold dlSh; rw [if_neg hok], show dlE a b = 2 by unfold dlE; rw [if_neg hok]]
    unfold okDl at hok
    by_cases h1 : okTab a
    · have hR2 := con_yes hR h1
      by_cases h2 : okTab b
      · have hS2 := con_yes hS h2
        have h3 : ¬ a.ver < b.ver := fun h => hok ⟨h, h1, h2⟩
        clear hok
        refine con_of_call2 rfl ?_
        refine call_inline Try.func18 rfl rfl ?_
        intro _
        repeat' (first | (refine is_split ?_; refine sp_yes (by exact dec_t (by omega)) ?_ <;> (intro u; clear u)) | (refine is_call ?_; (first | refine call_auto (hR2) (lets_rfl rfl) (by exact trivial) rfl ?_ | refine call_auto (hS2) (lets_rfl rfl) (by exact trivial) rfl ?_); intro u; clear u))
        all_goals (refine con_end ?_ rfl; intro u; clear u; refine ⟨rfl, rfl, EntGoal.mk ?_ ?_⟩ <;> (repeat' (first | exact trivial | (with_reducible rfl) | apply And.intro | rfl)))
      · have hS2 := con_no hS h2
        clear hok
        refine con_of_call2 rfl ?_
        refine call_inline Try.func18 rfl rfl ?_
        intro _
        repeat' (refine is_call ?_; (first | refine call_auto (hR2) (lets_rfl rfl) (by exact trivial) rfl ?_ | refine call_auto (hS2) (lets_rfl rfl) (by exact trivial) rfl ?_); intro u; clear u)
        all_goals (refine con_end ?_ rfl; intro u; clear u; refine ⟨rfl, rfl, EntGoal.mk ?_ ?_⟩ <;> (repeat' (first | exact trivial | (with_reducible rfl) | apply And.intro | rfl)))
    · have hR2 := con_no hR h1
      clear hok
      refine con_of_call2 rfl ?_
      refine call_inline Try.func18 rfl rfl ?_
      intro _
      repeat' (refine is_call ?_; refine call_auto (hR2) (lets_rfl rfl) (by exact trivial) rfl ?_; intro u; clear u)
      all_goals (refine con_end ?_ rfl; intro u; clear u; refine ⟨rfl, rfl, EntGoal.mk ?_ ?_⟩ <;> (repeat' (first | exact trivial | (with_reducible rfl) | apply And.intro | rfl)))
  rw [show dlSh a b = ⟨a.ver, b.ver, deltaL a b⟩ by unfold dlSh; rw [if_pos hok], show dlE a b = 0 by unfold dlE; rw [if_pos hok]]
  obtain ⟨h1, h2, h3⟩ := hok
  have hR2 := con_yes hR h2
  have hS2 := con_yes hS h3
  refine con_of_call2 rfl ?_
  refine call_inline Try.func18 rfl rfl ?_
  intro _
  repeat' (first | (refine is_split ?_; refine sp_no (by exact dec_f (by omega)) ?_ <;> (intro u; clear u)) | (refine is_call ?_; (first | refine call_auto (hR2) (lets_rfl rfl) (by exact trivial) rfl ?_ | refine call_auto (hS2) (lets_rfl rfl) (by exact trivial) rfl ?_); intro u; clear u))
  refine loop_keep (ι := Nat × List Row) (fun | (k, _) => 16 - k) (fun | (k, m) => k ≤ 16 ∧ m = rowsK (fun i => !eqEnt (a.at i) (b.at i)) b k) [2, 3, 4, 6] (fun | (k, _) => [(7, .t (.one (.v (.int .i64 k))))]) (fun | (_, m) => [(3, .box [.v (.int .i64 a.ver), .v (.int .i64 b.ver), .sl 4 0 m.length] 1 29), (4, .row (rowsV m) 5 48 true)]) (fun _ => []) [] 1 (0, []) ⟨by omega, rfl⟩ ?_ ?_
  · (intro u; clear u; refine ⟨rfl, rfl, EntGoal.mk ?_ ?_⟩ <;> (repeat' (first | exact trivial | (with_reducible rfl) | apply And.intro | rfl)))
  rintro ⟨k, m⟩ ⟨hk, hm⟩ u
  clear u
  have hl := rowsK_len (fun i => !eqEnt (a.at i) (b.at i)) b k
  rw [← hm] at hl
  by_cases hq : eqEnt (a.at k) (b.at k) = true
  · repeat' (first | (refine is_split ?_; (first | (refine sp_no (by first | (show (!eqEnt (a.at k) (b.at k)) = false; rw [hq]; rfl) | fail) ?_) | refine sp_dec (fun g => ?_) (fun g => ?_)) <;> (intro u; clear u)) | (refine is_asked ?_; (first | (refine is_spec ?_; (with_reducible refine asked _ (sp_add (by simp only [lo, hi]; omega) (by simp only [lo, hi]; omega)) ?_)) | (refine asked _ (tab_ask a (i := k) (by omega)) ?_) | (refine asked _ (tab_ask b (i := k) (by omega)) ?_) | refine asked () ⟨by omega, by omega⟩ ?_ | refine asked () (by show heldFree Try.prog _ _ = true; decide +kernel) ?_); intro u; clear u) | (refine is_draw ?_; refine draw_step mixed (by kernel_rfl) ?_; intro u; clear u))
    · refine again (k + 1, m) ⟨by omega, rowsK_no hm (by rw [hq]; rfl)⟩ (by show 16 - (k + 1) < 16 - k; omega) ?_
      (intro u; clear u; refine ⟨rfl, rfl, EntGoal.mk ?_ ?_⟩ <;> (repeat' (first | exact trivial | (with_reducible rfl) | apply And.intro | rfl)))
    · obtain rfl : k = 16 := by omega
      change m = deltaL a b at hm
      rw [← hm]
      (refine con_end ?_ rfl; intro u; clear u; refine ⟨rfl, rfl, EntGoal.mk ?_ ?_⟩ <;> (repeat' (first | exact trivial | (with_reducible rfl) | apply And.intro | rfl)))
  · have hq2 := Bool.eq_false_iff.2 hq
    repeat' (first | (refine is_split ?_; (first | (refine sp_yes (by first | (show (!eqEnt (a.at k) (b.at k)) = true; rw [hq2]; rfl) | fail) ?_) | refine sp_dec (fun g => ?_) (fun g => ?_)) <;> (intro u; clear u)) | (refine is_asked ?_; (first | (refine is_spec ?_; (with_reducible refine asked _ (sp_add (by simp only [lo, hi]; omega) (by simp only [lo, hi]; omega)) ?_)) | (refine asked _ (tab_ask a (i := k) (by omega)) ?_) | (refine asked _ (tab_ask b (i := k) (by omega)) ?_) | (refine asked (rowsV (m ++ [Row.mk (k : Int) (b.at k)])) (row_app m (Row.mk (k : Int) (b.at k)) (by omega)) ?_) | refine asked () ⟨by omega, by omega⟩ ?_ | refine asked () (by show heldFree Try.prog _ _ = true; decide +kernel) ?_); intro u; clear u) | (refine is_draw ?_; refine draw_step mixed (by kernel_rfl) ?_; intro u; clear u))
    · refine again (k + 1, m ++ [Row.mk (k : Int) (b.at k)]) ⟨by omega, rowsK_yes hm (by rw [hq2]; rfl)⟩ (by show 16 - (k + 1) < 16 - k; omega) ?_
      (intro u; clear u; refine ⟨rfl, rfl, EntGoal.mk ?_ ?_⟩ <;> (repeat' (first | exact trivial | (with_reducible rfl) | apply And.intro | rfl)))
      all_goals simp
    · obtain rfl : k = 16 := by omega
      change m = deltaL a b at hm
      rw [← hm]
      (refine con_end ?_ rfl; intro u; clear u; refine ⟨rfl, rfl, EntGoal.mk ?_ ?_⟩ <;> (repeat' (first | exact trivial | (with_reducible rfl) | apply And.intro | rfl)))
