/- Contracts of functions of the program, or a row of the seat, proved out of them. No condition beyond those that stand in each statement. -/
import Derived.Test.YtbndohgobodagaaL10E
namespace Go.Proofs.L10
open Go Go.SE
set_option maxRecDepth 100000
set_option maxHeartbeats 4000000
attribute [local irreducible] specI

def lS (l : List Int) : List S := [.v (.int .i64 (l.getD 0 0)), .v (.int .i64 (l.getD 1 0)), .v (.int .i64 (l.getD 2 0)), .v (.int .i64 (l.getD 3 0)), .v (.int .i64 (l.getD 4 0)), .v (.int .i64 (l.getD 5 0))]
theorem lt6 {P : Nat → Prop} (h : P 0 ∧ P 1 ∧ P 2 ∧ P 3 ∧ P 4 ∧ P 5) : ∀ i, i < 6 → P i := by
  obtain ⟨h0, h1, h2, h3, h4, h5⟩ := h
  intro i hi
  match i, hi with
  | 0, _ => exact h0
  | 1, _ => exact h1
  | 2, _ => exact h2
  | 3, _ => exact h3
  | 4, _ => exact h4
  | 5, _ => exact h5
  | n + 6, h => omega
theorem cells3 : Try.prog.cellsOf 3 = 1 := by kernel_rfl
theorem l_nth (l : List Int) {a i n : Nat} (hi : i < 6) (hn : n = 1 := by exact cells3) (ha : a = 0 := by rfl) : nth (lS l) (a + i * n) = some (.v (.int .i64 (l.getD i 0))) := by
  subst hn ha
  rw [Nat.zero_add, Nat.mul_one]
  exact lt6 (P := fun i => nth (lS l) i = some (.v (.int .i64 (l.getD i 0)))) ⟨rfl, rfl, rfl, rfl, rfl, rfl⟩ i hi
theorem len6 {l : List Int} (h : l.length = 6) : ∃ a0 a1 a2 a3 a4 a5, l = [a0, a1, a2, a3, a4, a5] := by
  match l, h with
  | [a0, a1, a2, a3, a4, a5], _ => exact ⟨a0, a1, a2, a3, a4, a5, rfl⟩
theorem l_put {l : List Int} (h : l.length = 6) {a i n : Nat} (x : Int) (hi : i < 6) (hn : n = 1 := by exact cells3) (ha : a = 0 := by rfl) : setAt (lS l) (a + i * n) [.v (.int .i64 x)] = lS (l.set i x) ∧ a + i * n + 1 ≤ (lS l).length := by
  subst hn ha
  rw [Nat.zero_add, Nat.mul_one]
  refine ⟨?_, by show i + 1 ≤ 6; omega⟩
  obtain ⟨a0, a1, a2, a3, a4, a5, rfl⟩ := len6 h
  exact lt6 (P := fun i => setAt (lS [a0, a1, a2, a3, a4, a5]) i [.v (.int .i64 x)] = lS ([a0, a1, a2, a3, a4, a5].set i x)) ⟨rfl, rfl, rfl, rfl, rfl, rfl⟩ i hi
theorem tab_cur (t : Tab) {a i n : Nat} (hi : i < 16) (hn : n = 4 := by exact cells23) (ha : a = 1 := by rfl) : nth (tabS t) (a + i * n + 0) = some (.v (.int .i64 (t.at i).cur)) := by
  subst hn ha
  exact tab_nth t i hi
theorem tab_gen (t : Tab) {a i n : Nat} (hi : i < 16) (hn : n = 4 := by exact cells23) (ha : a = 1 := by rfl) : nth (tabS t) (a + i * n + 2) = some (.v (.int .i64 (t.at i).gen)) := by
  subst hn ha
  exact tab_nth2 t i hi

def owned (e : Ent) : Prop := 0 ≤ e.cur ∧ e.cur < 6
instance (e : Ent) : Decidable (owned e) := by unfold owned; infer_instance
def loadsK (t : Tab) : Nat → List Int
  | 0 => [0, 0, 0, 0, 0, 0]
  | k + 1 => if owned (t.at k) then (loadsK t k).set (t.at k).cur.toNat ((loadsK t k).getD (t.at k).cur.toNat 0 + 1) else loadsK t k
theorem loadsK_len (t : Tab) : ∀ k, (loadsK t k).length = 6
  | 0 => rfl
  | k + 1 => by
    unfold loadsK
    split
    · rw [List.length_set]; exact loadsK_len t k
    · exact loadsK_len t k
theorem getD_set (l : List Int) (i j : Nat) (x : Int) : (l.set i x).getD j 0 = if i = j ∧ i < l.length then x else l.getD j 0 := by
  rw [List.getD_eq_getElem?_getD, List.getElem?_set]
  by_cases h : i = j
  · subst h
    by_cases h2 : i < l.length
    · simp [h2]
    · simp [h2]
  · simp [h]
theorem loadsK_bd (t : Tab) : ∀ k j, 0 ≤ (loadsK t k).getD j 0 ∧ (loadsK t k).getD j 0 ≤ k
  | 0, j => by
    have : (loadsK t 0).getD j 0 = 0 := by
      show ([0, 0, 0, 0, 0, 0] : List Int).getD j 0 = 0
      match j with
      | 0 | 1 | 2 | 3 | 4 | 5 => rfl
      | n + 6 => rfl
    omega
  | k + 1, j => by
    have h := loadsK_bd t k j
    unfold loadsK
    split
    · rw [getD_set]
      split
      · rename_i hh
        rw [hh.1]; omega
      · omega
    · omega
theorem loadsK_yes {t : Tab} {k : Nat} {m : List Int} (hm : m = loadsK t k) (h : owned (t.at k)) : m.set (t.at k).cur.toNat (m.getD (t.at k).cur.toNat 0 + 1) = loadsK t (k + 1) := by
  show _ = if _ then _ else _
  rw [if_pos h, hm]
theorem loadsK_no {t : Tab} {k : Nat} {m : List Int} (hm : m = loadsK t k) (h : ¬ owned (t.at k)) : m = loadsK t (k + 1) := by
  show _ = if _ then _ else _
  rw [if_neg h, hm]
def loadsT (t : Tab) : List Int := loadsK t 16
theorem loads_con (t : Tab) : CallCon Try.prog 13 [tabT t] [] (.t (.agg (lS (loadsT t)))) [] := by
  refine con_of_call2 rfl ?_
  refine call_inline Try.func13 rfl rfl ?_
  intro _
  repeat' (first | (refine is_range ?_; refine range_step rfl rfl ?_; intro u; clear u) | (refine is_call ?_; (first | refine call_inline Try.func23 rfl rfl ?_ | refine call_inline Try.func31 rfl rfl ?_); intro u; clear u))
  refine loop_ind (ι := Nat × List Int) (fun | (k, _) => 16 - k) (fun | (k, m) => k ≤ 16 ∧ m = loadsK t k) (fun | (k, _) => [(8, .t (.one (.v (.int .i64 k))))]) (fun | (_, m) => [(1, .box (lS m) 1 36)]) (fun _ => [(5, [])]) [] 0 (0, loadsK t 0) ⟨by omega, rfl⟩ ?_ ?_
  · (intro u; clear u; refine ⟨rfl, rfl, EntGoal.mk ?_ ?_⟩ <;> (repeat' (first | exact trivial | (with_reducible rfl) | apply And.intro | rfl)))
  rintro ⟨k, m⟩ ⟨hk, hm⟩ u
  clear u
  have hl := loadsK_len t k
  rw [← hm] at hl
  have hb := loadsK_bd t k (t.at k).cur.toNat
  rw [← hm] at hb
  repeat' (first | (refine is_split ?_; refine sp_dec (fun g => ?_) (fun g => ?_) <;> (intro u; clear u)) | (refine is_asked ?_; (first | (refine is_spec ?_; (with_reducible refine asked _ (sp_add (by simp only [lo, hi]; omega) (by simp only [lo, hi]; omega)) ?_)) | (refine asked _ (rows_part t k rfl (by omega)) ?_) | (refine asked _ (tab_cur t (i := k) (by omega)) ?_) | (refine asked _ (l_nth m (i := (t.at k).cur.toNat) (by omega)) ?_) | (refine asked _ (l_put hl (i := (t.at k).cur.toNat) _ (by omega)) ?_) | refine asked () (by constructor <;> omega) ?_); intro u; clear u) | (refine is_yield ?_; refine yield_step rfl rfl rfl rfl ?_; intro u; clear u) | (refine is_call ?_; refine call_inline Try.func25 rfl rfl ?_; intro u; clear u))
  · refine again (k + 1, m.set (t.at k).cur.toNat (m.getD (t.at k).cur.toNat 0 + 1)) ⟨by omega, loadsK_yes hm (by unfold owned; omega)⟩ (by show 16 - (k + 1) < 16 - k; omega) ?_
    (intro u; clear u; refine ⟨rfl, rfl, EntGoal.mk ?_ ?_⟩ <;> (repeat' (first | exact trivial | (with_reducible rfl) | apply And.intro | rfl)))
  · refine again (k + 1, m) ⟨by omega, loadsK_no hm (by unfold owned; omega)⟩ (by show 16 - (k + 1) < 16 - k; omega) ?_
    (intro u; clear u; refine ⟨rfl, rfl, EntGoal.mk ?_ ?_⟩ <;> (repeat' (first | exact trivial | (with_reducible rfl) | apply And.intro | rfl)))
  · refine again (k + 1, m) ⟨by omega, loadsK_no hm (by unfold owned; omega)⟩ (by show 16 - (k + 1) < 16 - k; omega) ?_
    (intro u; clear u; refine ⟨rfl, rfl, EntGoal.mk ?_ ?_⟩ <;> (repeat' (first | exact trivial | (with_reducible rfl) | apply And.intro | rfl)))
  · obtain rfl : k = 16 := by omega
    change m = loadsT t at hm
    rw [← hm]
    (refine con_end ?_ rfl; intro u; clear u; refine ⟨rfl, rfl, EntGoal.mk ?_ ?_⟩ <;> (repeat' (first | exact trivial | (with_reducible rfl) | apply And.intro | rfl)))

/-! ### which buckets -/

/-- The numbers that come of a test. -/
def pickK (so : Nat → Bool) : Nat → List Int
  | 0 => []
  | k + 1 => bif so k then pickK so k ++ [(k : Int)] else pickK so k
theorem pickK_len (so : Nat → Bool) : ∀ k, (pickK so k).length ≤ k
  | 0 => Nat.le_refl _
  | k + 1 => by
    have := pickK_len so k
    unfold pickK
    cases so k
    · show (pickK so k).length ≤ k + 1; omega
    · show (pickK so k ++ [(k : Int)]).length ≤ k + 1; rw [List.length_append]; simp; omega
theorem pickK_yes {so : Nat → Bool} {k : Nat} {m : List Int} (hm : m = pickK so k) (h : so k = true) : m ++ [(k : Int)] = pickK so (k + 1) := by
  show _ = bif so k then _ else _
  rw [h, hm]; rfl
theorem pickK_no {so : Nat → Bool} {k : Nat} {m : List Int} (hm : m = pickK so k) (h : so k = false) : m = pickK so (k + 1) := by
  show _ = bif so k then _ else _
  rw [h, hm]; rfl
def ofL (t : Tab) (b : Int) : List Int := pickK (fun i => decide ((t.at i).cur = b)) 16
