/- Contracts of functions of the program, or a row of the seat, proved out of them. No condition beyond those that stand in each statement. -/
import Derived.Test.YtbndohgobodagaaL10F
namespace Go.Proofs.L10
open Go Go.SE
set_option maxRecDepth 100000
set_option maxHeartbeats 4000000
attribute [local irreducible] specI

theorem ints_app (k : IntKind) : ∀ (A B : List Int), ints k (A ++ B) = ints k A ++ ints k B
  | [], _ => rfl
  | x :: A, B => by simp only [List.cons_append, ints, ints_app k A B]
theorem of_con (t : Tab) (b : Int) : CallCon Try.prog 14 [tabT t, .one (.v (.int .i64 b))] [] (.t (.one (.sl 0 0 (ofL t b).length))) [.row (ints .i64 (ofL t b)) 1 3 true] := by
  refine con_of_call2 rfl ?_
  refine call_inline Try.func14 rfl rfl ?_
  intro _
  repeat' (first | (refine is_range ?_; refine range_step rfl rfl ?_; intro u; clear u) | (refine is_call ?_; (first | refine call_inline Try.func23 rfl rfl ?_ | refine call_inline Try.func26 rfl rfl ?_ | refine call_inline Try.func31 rfl rfl ?_); intro u; clear u))
  refine loop_ind (ι := Nat × List Int) (fun | (k, _) => 16 - k) (fun | (k, m) => k ≤ 16 ∧ m = pickK (fun i => decide ((t.at i).cur = b)) k) (fun | (k, _) => [(8, .t (.one (.v (.int .i64 k))))]) (fun | (_, m) => [(4, .box [.sl 7 0 m.length] 1 38), (7, .row (ints .i64 m) 1 3 true)]) (fun _ => [(6, [])]) [] 1 (0, []) ⟨by omega, rfl⟩ ?_ ?_
  · (intro u; clear u; refine ⟨rfl, rfl, EntGoal.mk ?_ ?_⟩ <;> (repeat' (first | exact trivial | (with_reducible rfl) | apply And.intro | rfl)))
  rintro ⟨k, m⟩ ⟨hk, hm⟩ u
  clear u
  have hl := pickK_len (fun i => decide ((t.at i).cur = b)) k
  rw [← hm] at hl
  have hw : (ints .i64 m).length = m.length := ints_length _ _
  repeat' (first | (refine is_split ?_; refine sp_dec (fun g => ?_) (fun g => ?_) <;> (intro u; clear u)) | (refine is_asked ?_; (first | (refine is_spec ?_; (with_reducible refine asked _ (sp_add (by simp only [lo, hi]; omega) (by simp only [lo, hi]; omega)) ?_)) | (refine asked _ (rows_part t k rfl (by omega)) ?_) | (refine asked (ints .i64 (m ++ [(k : Int)])) ⟨by rw [ints_app]; rfl, by show _ = _ * 1; omega, rfl, by unfold maxLen; omega, by show _ * 8 ≤ _; omega⟩ ?_)); intro u; clear u) | (refine is_yield ?_; refine yield_step rfl rfl rfl rfl ?_; intro u; clear u) | (refine is_call ?_; refine call_inline Try.func27 rfl rfl ?_; intro u; clear u))
  · refine again (k + 1, m ++ [(k : Int)]) ⟨by omega, pickK_yes hm (decide_eq_true (by assumption))⟩ (by show 16 - (k + 1) < 16 - k; omega) ?_
    (intro u; clear u; refine ⟨rfl, rfl, EntGoal.mk ?_ ?_⟩ <;> (repeat' (first | exact trivial | (with_reducible rfl) | apply And.intro | rfl)))
    all_goals simp
  · refine again (k + 1, m) ⟨by omega, pickK_no hm (decide_eq_false (by assumption))⟩ (by show 16 - (k + 1) < 16 - k; omega) ?_
    (intro u; clear u; refine ⟨rfl, rfl, EntGoal.mk ?_ ?_⟩ <;> (repeat' (first | exact trivial | (with_reducible rfl) | apply And.intro | rfl)))
  · obtain rfl : k = 16 := by omega
    change m = ofL t b at hm
    rw [← hm]
    (refine con_end ?_ rfl; intro u; clear u; refine ⟨rfl, rfl, EntGoal.mk ?_ ?_⟩ <;> (repeat' (first | exact trivial | (with_reducible rfl) | apply And.intro | rfl)))

/-! ### the same rows -/

def eqEnt (a b : Ent) : Bool := a.cur == b.cur && (a.prev == b.prev && (a.gen == b.gen && (a.tick == b.tick && true)))
def eqFrom (a b : Tab) : List Nat → Bool
  | [] => true
  | i :: l => eqEnt (a.at i) (b.at i) && eqFrom a b l
def eqRows (a b : Tab) : Bool := eqFrom a b [0, 1, 2, 3, 4, 5, 6, 7, 8, 9, 10, 11, 12, 13, 14, 15]
def eqTab (a b : Tab) : Bool := a.ver == b.ver && (eqRows a b && true)
def sameR (a b : Tab) : Prop := ∀ i, i < 16 → a.at i = b.at i
instance (a b : Tab) : Decidable (sameR a b) := by unfold sameR; infer_instance
theorem eqEnt_iff {a b : Ent} : eqEnt a b = true ↔ a = b := by
  unfold eqEnt
  rw [ent_beq]; simp
theorem eqRows_iff {a b : Tab} : eqRows a b = true ↔ sameR a b := by
  unfold eqRows
  simp only [eqFrom, Bool.and_true, Bool.and_eq_true, eqEnt_iff]
  constructor
  · rintro ⟨h0, h1, h2, h3, h4, h5, h6, h7, h8, h9, h10, h11, h12, h13, h14, h15⟩
    exact lt16 ⟨h0, h1, h2, h3, h4, h5, h6, h7, h8, h9, h10, h11, h12, h13, h14, h15⟩
  · intro h
    exact ⟨h 0 (by omega), h 1 (by omega), h 2 (by omega), h 3 (by omega), h 4 (by omega), h 5 (by omega), h 6 (by omega), h 7 (by omega), h 8 (by omega), h 9 (by omega), h 10 (by omega), h 11 (by omega), h 12 (by omega), h 13 (by omega), h 14 (by omega), h 15 (by omega)⟩
theorem tab_ext {a b : Tab} (ha : a.rows.length = 16) (hb : b.rows.length = 16) (hv : a.ver = b.ver) (h : sameR a b) : a = b := by
  obtain ⟨v, l⟩ := a
  obtain ⟨w, r⟩ := b
  obtain rfl : v = w := hv
  congr 1
  apply List.ext_getElem (by rw [ha, hb])
  intro i h1 h2
  have := h i (by simp only at ha h1; omega)
  simpa [Tab.at, List.getD_eq_getElem?_getD, List.getElem?_eq_getElem h1, List.getElem?_eq_getElem h2] using this
theorem eqTab_iff {a b : Tab} (ha : a.rows.length = 16) (hb : b.rows.length = 16) : eqTab a b = true ↔ a = b := by
  unfold eqTab
  rw [Bool.and_true, Bool.and_eq_true, eqRows_iff, beq_iff_eq]
  exact ⟨fun h => tab_ext ha hb h.1 h.2, fun h => by subst h; exact ⟨rfl, fun _ _ => rfl⟩⟩

def changedL (a b : Tab) : List Int := pickK (fun i => !eqEnt (a.at i) (b.at i)) 16
theorem pickK_none {so : Nat → Bool} : ∀ k, (∀ i, i < k → so i = false) → pickK so k = []
  | 0, _ => rfl
  | k + 1, h => by
    show (bif so k then _ else _) = _
    rw [h k (by omega)]
    exact pickK_none k fun i hi => h i (by omega)
theorem changed_con (a b : Tab) : CallCon Try.prog 16 [tabT a, tabT b] [] (.t (.one (.sl 0 0 (changedL a b).length))) [.row (ints .i64 (changedL a b)) 1 3 true] := by
  by_cases h : sameR a b
  · rw [show changedL a b = [] from pickK_none 16 fun i hi => by rw [h i hi]; simp [eqEnt]]
    refine con_of_call2 rfl ?_
    refine call_inline Try.func16 rfl rfl ?_
    intro _
    repeat' (first | (refine is_split ?_; (refine sp_yes (eqRows_iff.2 h) ?_) <;> (intro u; clear u)) | (refine is_asked ?_; refine asked () (by show heldFree Try.prog _ _ = true; decide +kernel) ?_; intro u; clear u))
    all_goals (refine con_end ?_ rfl; intro u; clear u; refine ⟨rfl, rfl, EntGoal.mk ?_ ?_⟩ <;> (repeat' (first | exact trivial | (with_reducible rfl) | apply And.intro | rfl)))
  · have hf : eqRows a b = false := by rw [Bool.eq_false_iff]; exact fun e => h (eqRows_iff.1 e)
    refine con_of_call2 rfl ?_
    refine call_inline Try.func16 rfl rfl ?_
    intro _
    repeat' (first | (refine is_split ?_; (refine sp_no hf ?_) <;> (intro u; clear u)) | (refine is_asked ?_; refine asked () (by show heldFree Try.prog _ _ = true; decide +kernel) ?_; intro u; clear u) | (refine is_range ?_; refine range_step rfl rfl ?_; intro u; clear u) | (refine is_call ?_; (first | refine call_inline Try.func23 rfl rfl ?_ | refine call_inline Try.func26 rfl rfl ?_ | refine call_inline Try.func31 rfl rfl ?_); intro u; clear u))
    refine loop_ind (ι := Nat × List Int) (fun | (k, _) => 16 - k) (fun | (k, m) => k ≤ 16 ∧ m = pickK (fun i => !eqEnt (a.at i) (b.at i)) k) (fun | (k, _) => [(8, .t (.one (.v (.int .i64 k))))]) (fun | (_, m) => [(4, .box [.sl 7 0 m.length] 1 38), (7, .row (ints .i64 m) 1 3 true)]) (fun _ => [(6, [])]) [] 1 (0, []) ⟨by omega, rfl⟩ ?_ ?_
    · (intro u; clear u; refine ⟨rfl, rfl, EntGoal.mk ?_ ?_⟩ <;> (repeat' (first | exact trivial | (with_reducible rfl) | apply And.intro | rfl)))
    rintro ⟨k, m⟩ ⟨hk, hm⟩ u
    clear u
    have hl := pickK_len (fun i => !eqEnt (a.at i) (b.at i)) k
    rw [← hm] at hl
    have hw : (ints .i64 m).length = m.length := ints_length _ _
    by_cases hq : eqEnt (a.at k) (b.at k) = true
    · repeat' (first | (refine is_split ?_; (first | (refine sp_no (by first | (show (!eqEnt (a.at k) (b.at k)) = false; rw [hq]; rfl) | fail) ?_) | refine sp_dec (fun g => ?_) (fun g => ?_)) <;> (intro u; clear u)) | (refine is_asked ?_; (first | (refine is_spec ?_; (with_reducible refine asked _ (sp_add (by simp only [lo, hi]; omega) (by simp only [lo, hi]; omega)) ?_)) | (refine asked _ (rows_part a k rfl (by omega)) ?_) | (refine asked _ (tab_ask b (i := k) (by omega)) ?_) | refine asked () (by constructor <;> omega) ?_ | refine asked () (by show heldFree Try.prog _ _ = true; decide +kernel) ?_); intro u; clear u) | (refine is_draw ?_; refine draw_step mixed (by kernel_rfl) ?_; intro u; clear u) | (refine is_call ?_; refine call_inline Try.func28 rfl rfl ?_; intro u; clear u))
      · refine again (k + 1, m) ⟨by omega, pickK_no hm (by rw [hq]; rfl)⟩ (by show 16 - (k + 1) < 16 - k; omega) ?_
        (intro u; clear u; refine ⟨rfl, rfl, EntGoal.mk ?_ ?_⟩ <;> (repeat' (first | exact trivial | (with_reducible rfl) | apply And.intro | rfl)))
      · obtain rfl : k = 16 := by omega
        change m = changedL a b at hm
        rw [← hm]
        (refine con_end ?_ rfl; intro u; clear u; refine ⟨rfl, rfl, EntGoal.mk ?_ ?_⟩ <;> (repeat' (first | exact trivial | (with_reducible rfl) | apply And.intro | rfl)))
    · have hq2 := Bool.eq_false_iff.2 hq
      repeat' (first | (refine is_split ?_; (first | (refine sp_yes (by first | (show (!eqEnt (a.at k) (b.at k)) = true; rw [hq2]; rfl) | fail) ?_) | refine sp_dec (fun g => ?_) (fun g => ?_)) <;> (intro u; clear u)) | (refine is_asked ?_; (first | (refine is_spec ?_; (with_reducible refine asked _ (sp_add (by simp only [lo, hi]; omega) (by simp only [lo, hi]; omega)) ?_)) | (refine asked _ (rows_part a k rfl (by omega)) ?_) | (refine asked _ (tab_ask b (i := k) (by omega)) ?_) | (refine asked (ints .i64 (m ++ [(k : Int)])) ⟨by rw [ints_app]; rfl, by show _ = _ * 1; omega, rfl, by unfold maxLen; omega, by show _ * 8 ≤ _; omega⟩ ?_) | refine asked () (by constructor <;> omega) ?_ | refine asked () (by show heldFree Try.prog _ _ = true; decide +kernel) ?_); intro u; clear u) | (refine is_yield ?_; refine yield_step rfl rfl rfl rfl ?_; intro u; clear u) | (refine is_draw ?_; refine draw_step mixed (by kernel_rfl) ?_; intro u; clear u) | (refine is_call ?_; refine call_inline Try.func28 rfl rfl ?_; intro u; clear u))
      · refine again (k + 1, m ++ [(k : Int)]) ⟨by omega, pickK_yes hm (by rw [hq2]; rfl)⟩ (by show 16 - (k + 1) < 16 - k; omega) ?_
        (intro u; clear u; refine ⟨rfl, rfl, EntGoal.mk ?_ ?_⟩ <;> (repeat' (first | exact trivial | (with_reducible rfl) | apply And.intro | rfl)))
        all_goals simp
      · obtain rfl : k = 16 := by omega
        change m = changedL a b at hm
        rw [← hm]
        (refine con_end ?_ rfl; intro u; clear u; refine ⟨rfl, rfl, EntGoal.mk ?_ ?_⟩ <;> (repeat' (first | exact trivial | (with_reducible rfl) | apply And.intro | rfl)))
