/- Contracts of functions of the program, or a row of the seat, proved out of them. No condition beyond those that stand in each statement. -/
import Derived.Test.YtlefpinmgabmfaaGreatSeD
import Derived.KernelRfl
import Derived.Test.YtlefpinmgabmfaaGreatProg
namespace Go.Proofs.S14.C1
open Go Go.SE
set_option maxRecDepth 100000
set_option maxHeartbeats 4000000
attribute [local irreducible] specI
theorem mixed : Tryz.prog.follows .mixedOrders = true := by kernel_rfl

structure Ent where
  cur : Int
  prev : Int
  gen : Int
  tick : Int
  deriving DecidableEq
def zeroE : Ent := ⟨0, 0, 0, 0⟩
def noneE : Ent := ⟨-1, -1, 0, 0⟩
def entS (e : Ent) : List S := [.v (.int .i64 e.cur), .v (.int .i64 e.prev), .v (.int .i64 e.gen), .v (.int .i64 e.tick)]
def entT (e : Ent) : T := .agg (entS e)
/-- What an int is. -/
def isI (x : Int) : Prop := -9223372036854775808 ≤ x ∧ x ≤ 9223372036854775807
structure Ent.Wf (e : Ent) : Prop where
  cur : isI e.cur
  prev : isI e.prev
  gen : isI e.gen
  tick : isI e.tick
def okE (e : Ent) : Prop := (0 ≤ e.gen ∧ e.gen < 2147483648 ∧ 0 ≤ e.tick ∧ e.tick ≤ 1099511627776) ∧ ((e.cur = -1 ∧ e.prev = -1) ∨ ((0 ≤ e.cur ∧ e.cur < 6) ∧ (-1 ≤ e.prev ∧ e.prev < 6) ∧ e.prev ≠ e.cur))
instance (e : Ent) : Decidable (okE e) := by unfold okE; infer_instance

theorem none_con : CallCon Tryz.prog 137 [] [] (.t (entT noneE)) [] := by
  refine con_of_call2 rfl ?_
  refine call_inline Tryz.func137 rfl rfl ?_
  intro _
  repeat' fail
  (refine con_end ?_ rfl; intro u; clear u; refine ⟨rfl, rfl, EntGoal.mk ?_ ?_⟩ <;> (repeat' (first | exact trivial | (with_reducible rfl) | apply And.intro | rfl)))
theorem newer_con (a b : Ent) : CallCon Tryz.prog 140 [entT a, entT b] [] (.t (.one (.b (b.gen < a.gen)))) [] := by
  refine con_of_call2 rfl ?_
  refine call_inline Tryz.func140 rfl rfl ?_
  intro _
  repeat' fail
  (refine con_end ?_ rfl; intro u; clear u; refine ⟨rfl, rfl, EntGoal.mk ?_ ?_⟩ <;> (repeat' (first | exact trivial | (with_reducible rfl) | apply And.intro | rfl)))
theorem within_con (a b c : Int) : CallCon Tryz.prog 174 [.one (.v (.int .i64 a)), .one (.v (.int .i64 b)), .one (.v (.int .i64 c))] [] (.t (.one (.b (b ≤ a ∧ a < c)))) [] := by
  by_cases h : b ≤ a
  · rw [show decide (b ≤ a ∧ a < c) = decide (a < c) by rw [decide_eq_decide]; omega]
    refine con_of_call2 rfl ?_
    refine call_inline Tryz.func174 rfl rfl ?_
    intro _
    repeat' (refine is_split ?_; refine sp_yes (by exact dec_t (by omega)) ?_ <;> (intro u; clear u))
    (refine con_end ?_ rfl; intro u; clear u; refine ⟨rfl, rfl, EntGoal.mk ?_ ?_⟩ <;> (repeat' (first | exact trivial | (with_reducible rfl) | apply And.intro | rfl)))
  · rw [show decide (b ≤ a ∧ a < c) = false by rw [decide_eq_false_iff_not]; omega]
    refine con_of_call2 rfl ?_
    refine call_inline Tryz.func174 rfl rfl ?_
    intro _
    repeat' (refine is_split ?_; refine sp_no (by exact dec_f (by omega)) ?_ <;> (intro u; clear u))
    (refine con_end ?_ rfl; intro u; clear u; refine ⟨rfl, rfl, EntGoal.mk ?_ ?_⟩ <;> (repeat' (first | exact trivial | (with_reducible rfl) | apply And.intro | rfl)))
theorem ent_beq (a b : Ent) : (a.cur == b.cur && (a.prev == b.prev && (a.gen == b.gen && (a.tick == b.tick && true)))) = decide (a = b) := by
  obtain ⟨a1, a2, a3, a4⟩ := a
  obtain ⟨b1, b2, b3, b4⟩ := b
  rw [Bool.eq_iff_iff]
  simp
theorem right_con (e : Ent) : CallCon Tryz.prog 138 [entT e] [] (.t (.one (.b (okE e)))) [] := by
  by_cases h : okE e
  · rw [decide_eq_true h]
    unfold okE at h
    by_cases hc : e.cur = -1
    · have hp : e.prev = -1 := by omega
      refine con_of_call2 rfl ?_
      refine call_inline Tryz.func138 rfl rfl ?_
      intro _
      repeat' (first | (refine is_split ?_; (first | refine sp_yes (by exact dec_t (by omega)) ?_ | refine sp_no (by exact ndec_f (by omega)) ?_) <;> (intro u; clear u)) | (refine is_asked ?_; refine asked () (by show heldFree Tryz.prog _ _ = true; decide +kernel) ?_; intro u; clear u) | (refine is_draw ?_; refine draw_step mixed (by kernel_rfl) ?_; intro u; clear u) | (refine is_scope ?_; refine scope_step ?_; intro u; clear u) | (refine is_call ?_; (first | refine call_inline Tryz.func174 rfl rfl ?_ | refine call_auto (none_con) (lets_rfl rfl) (by exact trivial) rfl ?_); intro u; clear u))
      all_goals (refine con_end ?_ rfl; intro u; clear u; refine ⟨rfl, rfl, EntGoal.mk ?_ ?_⟩ <;> (repeat' (first | exact trivial | (with_reducible rfl) | apply And.intro | rfl)))
      show (e.cur == -1 && (e.prev == -1 && (e.gen == e.gen && (e.tick == e.tick && true)))) = true
      simp [hc, hp]
    · refine con_of_call2 rfl ?_
      refine call_inline Tryz.func138 rfl rfl ?_
      intro _
      repeat' (first | (refine is_split ?_; (first | refine sp_yes (by exact dec_t (by omega)) ?_ | refine sp_no (by (first | exact dec_f (by omega) | exact ndec_f (by omega))) ?_) <;> (intro u; clear u)) | (refine is_scope ?_; refine scope_step ?_; intro u; clear u) | (refine is_call ?_; (first | refine call_inline Tryz.func174 rfl rfl ?_ | refine call_auto (none_con) (lets_rfl rfl) (by exact trivial) rfl ?_); intro u; clear u))
      all_goals (refine con_end ?_ rfl; intro u; clear u; refine ⟨rfl, rfl, EntGoal.mk ?_ ?_⟩ <;> (repeat' (first | exact trivial | (with_reducible rfl) | apply And.intro | rfl)))
      all_goals (show (_ : Bool) = _; simp; omega)
  · rw [decide_eq_false h]
    unfold okE at h
    by_cases hc : e.cur = -1
    · by_cases hp : e.prev = -1
      · refine con_of_call2 rfl ?_
        refine call_inline Tryz.func138 rfl rfl ?_
        intro _
        repeat' (first | (refine is_split ?_; (first | refine sp_yes (by exact ndec_t (by omega)) ?_ | refine sp_dec (fun g => ?_) (fun g => ?_) | refine sp_ndec (fun g => ?_) (fun g => ?_)) <;> (intro u; clear u)) | (refine is_scope ?_; refine scope_step ?_; intro u; clear u) | (refine is_call ?_; refine call_inline Tryz.func174 rfl rfl ?_; intro u; clear u))
        all_goals (refine con_end ?_ rfl; intro u; clear u; refine ⟨rfl, rfl, EntGoal.mk ?_ ?_⟩ <;> (repeat' (first | exact trivial | (with_reducible rfl) | apply And.intro | rfl)))
      · refine con_of_call2 rfl ?_
        refine call_inline Tryz.func138 rfl rfl ?_
        intro _
        repeat' (first | (refine is_split ?_; (first | refine sp_yes (by exact dec_t (by omega)) ?_ | refine sp_no (by exact ndec_f (by omega)) ?_ | refine sp_dec (fun g => ?_) (fun g => ?_) | refine sp_ndec (fun g => ?_) (fun g => ?_)) <;> (intro u; clear u)) | (refine is_asked ?_; refine asked () (by show heldFree Tryz.prog _ _ = true; decide +kernel) ?_; intro u; clear u) | (refine is_draw ?_; refine draw_step mixed (by kernel_rfl) ?_; intro u; clear u) | (refine is_scope ?_; refine scope_step ?_; intro u; clear u) | (refine is_call ?_; (first | refine call_inline Tryz.func174 rfl rfl ?_ | refine call_auto (none_con) (lets_rfl rfl) (by exact trivial) rfl ?_); intro u; clear u))
        all_goals (refine con_end ?_ rfl; intro u; clear u; refine ⟨rfl, rfl, EntGoal.mk ?_ ?_⟩ <;> (repeat' (first | exact trivial | (with_reducible rfl) | apply And.intro | rfl)))
        show (e.cur == -1 && (e.prev == -1 && (e.gen == e.gen && (e.tick == e.tick && true)))) = false
        simp [hc, hp]
    · refine con_of_call2 rfl ?_
      refine call_inline Tryz.func138 rfl rfl ?_
      intro _
      repeat' (first | (refine is_split ?_; (first | refine sp_no (by exact dec_f (by omega)) ?_ | refine sp_dec (fun g => ?_) (fun g => ?_) | refine sp_ndec (fun g => ?_) (fun g => ?_)) <;> (intro u; clear u)) | (refine is_scope ?_; refine scope_step ?_; intro u; clear u) | (refine is_call ?_; (first | refine call_inline Tryz.func174 rfl rfl ?_ | refine call_auto (none_con) (lets_rfl rfl) (by exact trivial) rfl ?_); intro u; clear u))
      all_goals (refine con_end ?_ rfl; intro u; clear u; refine ⟨rfl, rfl, EntGoal.mk ?_ ?_⟩ <;> (repeat' (first | exact trivial | (with_reducible rfl) | apply And.intro | rfl)))
      all_goals (show (_ : Bool) = _; simp; omega)
theorem refright_con (e : Ent) : CallCon Tryz.prog 55 [entT e] [] (.t (.one (.b (okE e)))) [] := by
  by_cases h : okE e
  · rw [decide_eq_true h]
    unfold okE at h
    refine con_of_call2 rfl ?_
    refine call_inline Tryz.func55 rfl rfl ?_
    intro _
    repeat' (first | (refine is_split ?_; (first | refine sp_yes (by exact dec_t (by omega)) ?_ | refine sp_no (by exact dec_f (by omega)) ?_ | refine sp_dec (fun g => ?_) (fun g => ?_)) <;> (intro u; clear u)) | (refine is_call ?_; refine call_inline Tryz.func109 rfl rfl ?_; intro u; clear u))
    all_goals (refine con_end ?_ rfl; intro u; clear u; refine ⟨rfl, rfl, EntGoal.mk ?_ ?_⟩ <;> (repeat' (first | exact trivial | (with_reducible rfl) | apply And.intro | rfl)))
    all_goals (show (_ : Bool) = _; simp; omega)
  · rw [decide_eq_false h]
    unfold okE at h
    refine con_of_call2 rfl ?_
    refine call_inline Tryz.func55 rfl rfl ?_
    intro _
    repeat' (first | (refine is_split ?_; (first | refine sp_no (by exact dec_f (by omega)) ?_ | refine sp_dec (fun g => ?_) (fun g => ?_)) <;> (intro u; clear u)) | (refine is_call ?_; refine call_inline Tryz.func109 rfl rfl ?_; intro u; clear u))
    all_goals (refine con_end ?_ rfl; intro u; clear u; refine ⟨rfl, rfl, EntGoal.mk ?_ ?_⟩ <;> (repeat' (first | exact trivial | (with_reducible rfl) | apply And.intro | rfl)))
    all_goals (show (_ : Bool) = _; simp; omega)
end Go.Proofs.S14.C1

namespace Go.Proofs.S14.C1
open Go Go.SE
set_option maxRecDepth 100000
set_option maxHeartbeats 4000000
attribute [local irreducible] specI

structure Tab where
  ver : Int
  rows : List Ent
  deriving DecidableEq
def Tab.at (t : Tab) (i : Nat) : Ent := t.rows.getD i zeroE
def rowsOf (t : Tab) : List Nat → List S
  | [] => []
  | i :: l => .v (.int .i64 (t.at i).cur) :: .v (.int .i64 (t.at i).prev) :: .v (.int .i64 (t.at i).gen) :: .v (.int .i64 (t.at i).tick) :: rowsOf t l
def rowsS (t : Tab) : List S := rowsOf t [0, 1, 2, 3, 4, 5, 6, 7, 8, 9, 10, 11, 12, 13, 14, 15]
def tabS (t : Tab) : List S := .v (.int .i64 t.ver) :: rowsS t
def tabT (t : Tab) : T := .agg (tabS t)
structure Tab.Wf (t : Tab) : Prop where
  ver : isI t.ver
  len : t.rows.length = 16
  rows : ∀ e ∈ t.rows, e.Wf
def zeroTab : Tab := ⟨0, List.replicate 16 zeroE⟩
def Tab.set (t : Tab) (i : Nat) (e : Ent) : Tab := ⟨t.ver, t.rows.set i e⟩

theorem lt16 {P : Nat → Prop} (h : P 0 ∧ P 1 ∧ P 2 ∧ P 3 ∧ P 4 ∧ P 5 ∧ P 6 ∧ P 7 ∧ P 8 ∧ P 9 ∧ P 10 ∧ P 11 ∧ P 12 ∧ P 13 ∧ P 14 ∧ P 15) : ∀ i, i < 16 → P i := by
  obtain ⟨h0, h1, h2, h3, h4, h5, h6, h7, h8, h9, h10, h11, h12, h13, h14, h15⟩ := h
  intro i hi
  match i, hi with
  | 0, _ => exact h0
  | 1, _ => exact h1
  | 2, _ => exact h2
  | 3, _ => exact h3
  | 4, _ => exact h4
  | 5, _ => exact h5
  | 6, _ => exact h6
  | 7, _ => exact h7
  | 8, _ => exact h8
  | 9, _ => exact h9
  | 10, _ => exact h10
  | 11, _ => exact h11
  | 12, _ => exact h12
  | 13, _ => exact h13
  | 14, _ => exact h14
  | 15, _ => exact h15
  | n + 16, h => omega
theorem tab_cut (t : Tab) : ∀ i, i < 16 → cut (tabS t) (1 + i * 4) 4 = entS (t.at i) := lt16 ⟨rfl, rfl, rfl, rfl, rfl, rfl, rfl, rfl, rfl, rfl, rfl, rfl, rfl, rfl, rfl, rfl⟩
theorem rows_cut (t : Tab) : ∀ i, i < 16 → cut (rowsS t) (i * 4) 4 = entS (t.at i) := lt16 ⟨rfl, rfl, rfl, rfl, rfl, rfl, rfl, rfl, rfl, rfl, rfl, rfl, rfl, rfl, rfl, rfl⟩
theorem tab_nth (t : Tab) : ∀ i, i < 16 → nth (tabS t) (1 + i * 4) = some (.v (.int .i64 (t.at i).cur)) := lt16 ⟨rfl, rfl, rfl, rfl, rfl, rfl, rfl, rfl, rfl, rfl, rfl, rfl, rfl, rfl, rfl, rfl⟩
theorem tab_nth2 (t : Tab) : ∀ i, i < 16 → nth (tabS t) (1 + i * 4 + 2) = some (.v (.int .i64 (t.at i).gen)) := lt16 ⟨rfl, rfl, rfl, rfl, rfl, rfl, rfl, rfl, rfl, rfl, rfl, rfl, rfl, rfl, rfl, rfl⟩
theorem len16 {l : List Ent} (h : l.length = 16) : ∃ a0 a1 a2 a3 a4 a5 a6 a7 a8 a9 a10 a11 a12 a13 a14 a15, l = [a0, a1, a2, a3, a4, a5, a6, a7, a8, a9, a10, a11, a12, a13, a14, a15] := by
  match l, h with
  | [a0, a1, a2, a3, a4, a5, a6, a7, a8, a9, a10, a11, a12, a13, a14, a15], _ => exact ⟨a0, a1, a2, a3, a4, a5, a6, a7, a8, a9, a10, a11, a12, a13, a14, a15, rfl⟩
theorem tab_set {t : Tab} (h : t.rows.length = 16) (e : Ent) : ∀ i, i < 16 → setAt (tabS t) (1 + i * 4) (entS e) = tabS (t.set i e) := by
  obtain ⟨v, l⟩ := t
  obtain ⟨a0, a1, a2, a3, a4, a5, a6, a7, a8, a9, a10, a11, a12, a13, a14, a15, rfl⟩ := len16 h
  exact lt16 ⟨rfl, rfl, rfl, rfl, rfl, rfl, rfl, rfl, rfl, rfl, rfl, rfl, rfl, rfl, rfl, rfl⟩
theorem cells23 : Tryz.prog.cellsOf 23 = 4 := by kernel_rfl
theorem tab_ask (t : Tab) {a i n : Nat} (hi : i < 16) (hn : n = 4 := by exact cells23) (ha : a = 1 := by rfl) : cut (tabS t) (a + i * n) n = entS (t.at i) ∧ a + i * n + n ≤ (tabS t).length := by
  subst hn ha
  exact ⟨tab_cut t i hi, by show _ ≤ 65; omega⟩
theorem tab_put {t : Tab} (h : t.rows.length = 16) {a i n : Nat} (e : Ent) (hi : i < 16) (hn : n = 4 := by exact cells23) (ha : a = 1 := by rfl) : setAt (tabS t) (a + i * n) (entS e) = tabS (t.set i e) ∧ a + i * n + (entS e).length ≤ (tabS t).length := by
  subst hn ha
  exact ⟨tab_set h e i hi, by show 1 + i * 4 + 4 ≤ 65; omega⟩
theorem tab_len (t : Tab) : (tabS t).length = 65 := rfl

def rowE (t : Tab) (b : Int) : Ent := if 0 ≤ b ∧ b < 16 then t.at b.toNat else zeroE
theorem row_con (t : Tab) (b : Int) : CallCon Tryz.prog 123 [tabT t, .one (.v (.int .i64 b))] [] (.tup [entT (rowE t b), .one (.b (0 ≤ b ∧ b < 16))]) [] := by
  by_cases h : 0 ≤ b ∧ b < 16
  · rw [decide_eq_true h, show rowE t b = t.at b.toNat by unfold rowE; rw [if_pos h]]
    refine con_of_call2 rfl ?_
    refine call_inline Tryz.func123 rfl rfl ?_
    intro _
    repeat' (first | (refine is_split ?_; refine sp_yes (by exact dec_t (by omega)) ?_ <;> (intro u; clear u)) | (refine is_asked ?_; (first | (refine asked _ (tab_ask t (by omega)) ?_) | refine asked () ⟨by omega, by omega⟩ ?_); intro u; clear u))
    all_goals (refine con_end ?_ rfl; intro u; clear u; refine ⟨rfl, rfl, EntGoal.mk ?_ ?_⟩ <;> (repeat' (first | exact trivial | (with_reducible rfl) | apply And.intro | rfl)))
  · rw [decide_eq_false h, show rowE t b = zeroE by unfold rowE; rw [if_neg h]]
    refine con_of_call2 rfl ?_
    refine call_inline Tryz.func123 rfl rfl ?_
    intro _
    repeat' (refine is_split ?_; (first | refine sp_no (by exact dec_f (by omega)) ?_ | refine sp_dec (fun g => ?_) (fun g => ?_)) <;> (intro u; clear u))
    all_goals (refine con_end ?_ rfl; intro u; clear u; refine ⟨rfl, rfl, EntGoal.mk ?_ ?_⟩ <;> (repeat' (first | exact trivial | (with_reducible rfl) | apply And.intro | rfl)))
end Go.Proofs.S14.C1

namespace Go.Proofs.S14.C1
open Go Go.SE
set_option maxRecDepth 100000
set_option maxHeartbeats 4000000
attribute [local irreducible] specI

def okTab (t : Tab) : Prop := (0 ≤ t.ver ∧ t.ver ≤ 1099511627776) ∧ ∀ i, i < 16 → okE (t.at i)
instance (t : Tab) : Decidable (okTab t) := by unfold okTab; infer_instance
theorem agg23 : isAggT Tryz.prog 23 = some true := by kernel_rfl
theorem rows_part (t : Tab) {j : Int} {n : Nat} (i : Nat) (hj : j = i) (hi : i < 16) (hn : n = 4 := by exact cells23) : (0 ≤ j ∧ j < (16 : Nat)) ∧ partT Tryz.prog 23 (rowsS t) (j.toNat * n) = some (entT (t.at i)) := by
  subst hn hj
  refine ⟨⟨by omega, by omega⟩, ?_⟩
  unfold partT
  rw [agg23, cells23]
  simp only [Int.toNat_natCast]
  rw [rows_cut t i hi]
  rfl
theorem tabright_con (t : Tab) : CallCon Tryz.prog 116 [tabT t] [] (.t (.one (.b (okTab t)))) [] := by
  by_cases hv : 0 ≤ t.ver ∧ t.ver ≤ 1099511627776
  rotate_left
  · rw [decide_eq_false (show ¬ okTab t from fun h => hv h.1)]
    refine con_of_call2 rfl ?_
    refine call_inline Tryz.func116 rfl rfl ?_
    intro _
    repeat' (first | (refine is_split ?_; (first | refine sp_yes (by exact dec_t (by omega)) ?_ | refine sp_dec (fun g => ?_) (fun g => ?_)) <;> (intro u; clear u)) | (refine is_scope ?_; refine scope_step ?_; intro u; clear u))
    all_goals (refine con_end ?_ rfl; intro u; clear u; refine ⟨rfl, rfl, EntGoal.mk ?_ ?_⟩ <;> (repeat' (first | exact trivial | (with_reducible rfl) | apply And.intro | rfl)))
  refine con_of_call2 rfl ?_
  refine call_inline Tryz.func116 rfl rfl ?_
  intro _
  repeat' (first | (refine is_split ?_; refine sp_no (by exact dec_f (by omega)) ?_ <;> (intro u; clear u)) | (refine is_scope ?_; refine scope_step ?_; intro u; clear u))
  refine loop_keep (fun k : Nat => 16 - k) (fun k => k ≤ 16 ∧ ∀ i, i < k → okE (t.at i)) [14] (fun k => [(15, .t (.one (.v (.int .i64 k))))]) (fun _ => []) (fun _ => []) [] 0 0 ⟨by omega, fun i hi => by omega⟩ ?_ ?_
  · (intro u; clear u; refine ⟨rfl, rfl, EntGoal.mk ?_ ?_⟩ <;> (repeat' (first | exact trivial | (with_reducible rfl) | apply And.intro | rfl)))
  intro k hk u
  clear u
  repeat' (first | (refine is_split ?_; (first | refine sp_dec (fun g => ?_) (fun g => ?_) | refine sp_ndec (fun g => ?_) (fun g => ?_)) <;> (intro u; clear u)) | (refine is_asked ?_; (first | (refine is_spec ?_; (with_reducible refine asked _ (sp_add (by simp only [lo, hi]; omega) (by simp only [lo, hi]; omega)) ?_)) | (refine asked _ (rows_part t k rfl (by omega)) ?_)); intro u; clear u) | (refine is_scope ?_; refine scope_step ?_; intro u; clear u) | (refine is_call ?_; refine call_auto (right_con (t.at k)) (lets_rfl rfl) (by exact trivial) rfl ?_; intro u; clear u))
  · rw [decide_eq_false (show ¬ okTab t from fun h => by exact absurd (h.2 k (by omega)) (by assumption))]
    (refine con_end ?_ rfl; intro u; clear u; refine ⟨rfl, rfl, EntGoal.mk ?_ ?_⟩ <;> (repeat' (first | exact trivial | (with_reducible rfl) | apply And.intro | rfl)))
  · refine again (k + 1) ⟨by omega, fun i hi => ?_⟩ (by omega) ?_
    · by_cases hik : i < k
      · exact hk.2 i hik
      · rw [show i = k by omega]; assumption
    · (intro u; clear u; refine ⟨rfl, rfl, EntGoal.mk ?_ ?_⟩ <;> (repeat' (first | exact trivial | (with_reducible rfl) | apply And.intro | rfl)))
  · rw [decide_eq_true (show okTab t from ⟨hv, fun i hi => hk.2 i (by omega)⟩)]
    (refine con_end ?_ rfl; intro u; clear u; refine ⟨rfl, rfl, EntGoal.mk ?_ ?_⟩ <;> (repeat' (first | exact trivial | (with_reducible rfl) | apply And.intro | rfl)))
theorem reftabright_con (t : Tab) : CallCon Tryz.prog 26 [tabT t] [] (.t (.one (.b (okTab t)))) [] := by
  by_cases hv : 0 ≤ t.ver ∧ t.ver ≤ 1099511627776
  rotate_left
  · rw [decide_eq_false (show ¬ okTab t from fun h => hv h.1)]
    refine con_of_call2 rfl ?_
    refine call_inline Tryz.func26 rfl rfl ?_
    intro _
    repeat' (refine is_split ?_; (first | refine sp_yes (by exact dec_t (by omega)) ?_ | refine sp_dec (fun g => ?_) (fun g => ?_)) <;> (intro u; clear u))
    all_goals (refine con_end ?_ rfl; intro u; clear u; refine ⟨rfl, rfl, EntGoal.mk ?_ ?_⟩ <;> (repeat' (first | exact trivial | (with_reducible rfl) | apply And.intro | rfl)))
  refine con_of_call2 rfl ?_
  refine call_inline Tryz.func26 rfl rfl ?_
  intro _
  repeat' (refine is_split ?_; refine sp_no (by exact dec_f (by omega)) ?_ <;> (intro u; clear u))
  refine loop_keep (fun k : Nat => 16 - k) (fun k => k ≤ 16 ∧ ∀ i, i < k → okE (t.at i)) [1] (fun k => [(3, .t (.one (.v (.int .i64 k))))]) (fun _ => []) (fun _ => []) [] 0 0 ⟨by omega, fun i hi => by omega⟩ ?_ ?_
  · (intro u; clear u; refine ⟨rfl, rfl, EntGoal.mk ?_ ?_⟩ <;> (repeat' (first | exact trivial | (with_reducible rfl) | apply And.intro | rfl)))
  intro k hk u
  clear u
  repeat' (first | (refine is_split ?_; (first | refine sp_dec (fun g => ?_) (fun g => ?_) | refine sp_ndec (fun g => ?_) (fun g => ?_)) <;> (intro u; clear u)) | (refine is_asked ?_; (first | (refine is_spec ?_; (with_reducible refine asked _ (sp_add (by simp only [lo, hi]; omega) (by simp only [lo, hi]; omega)) ?_)) | (refine asked _ (tab_ask t (i := k) (by omega)) ?_) | refine asked () ⟨by omega, by omega⟩ ?_); intro u; clear u) | (refine is_call ?_; refine call_auto (refright_con (t.at k)) (lets_rfl rfl) (by exact trivial) rfl ?_; intro u; clear u))
  · rw [decide_eq_false (show ¬ okTab t from fun h => by exact absurd (h.2 k (by omega)) (by assumption))]
    (refine con_end ?_ rfl; intro u; clear u; refine ⟨rfl, rfl, EntGoal.mk ?_ ?_⟩ <;> (repeat' (first | exact trivial | (with_reducible rfl) | apply And.intro | rfl)))
  · refine again (k + 1) ⟨by omega, fun i hi => ?_⟩ (by omega) ?_
    · by_cases hik : i < k
      · exact hk.2 i hik
      · rw [show i = k by omega]; assumption
    · (intro u; clear u; refine ⟨rfl, rfl, EntGoal.mk ?_ ?_⟩ <;> (repeat' (first | exact trivial | (with_reducible rfl) | apply And.intro | rfl)))
  · rw [decide_eq_true (show okTab t from ⟨hv, fun i hi => hk.2 i (by omega)⟩)]
    (refine con_end ?_ rfl; intro u; clear u; refine ⟨rfl, rfl, EntGoal.mk ?_ ?_⟩ <;> (repeat' (first | exact trivial | (with_reducible rfl) | apply And.intro | rfl)))

def newK : Nat → Tab
  | 0 => zeroTab
  | k + 1 => (newK k).set k noneE
theorem newK_len : ∀ k, (newK k).rows.length = 16
  | 0 => rfl
  | k + 1 => by simp only [newK, Tab.set, List.length_set]; exact newK_len k
def newTab : Tab := ⟨0, List.replicate 16 noneE⟩
theorem newK_16 : newK 16 = newTab := rfl
theorem new_con : CallCon Tryz.prog 89 [] [] (.t (tabT newTab)) [] := by
  refine con_of_call2 rfl ?_
  refine call_inline Tryz.func89 rfl rfl ?_
  intro _
  repeat' fail
  refine loop_keep (fun k : Nat => 16 - k) (fun k => k ≤ 16) [0] (fun k => [(2, .t (.one (.v (.int .i64 k))))]) (fun k => [(0, .box (tabS (newK k)) 1 26)]) (fun _ => []) [] 0 0 (by omega) ?_ ?_
  · (intro u; clear u; refine ⟨rfl, rfl, EntGoal.mk ?_ ?_⟩ <;> (repeat' (first | exact trivial | (with_reducible rfl) | apply And.intro | rfl)))
  intro k hk u
  clear u
  repeat' (first | (refine is_split ?_; refine sp_dec (fun g => ?_) (fun g => ?_) <;> (intro u; clear u)) | (refine is_asked ?_; (first | (refine is_spec ?_; (with_reducible refine asked _ (sp_add (by simp only [lo, hi]; omega) (by simp only [lo, hi]; omega)) ?_)) | (refine asked _ (tab_put (newK_len k) (i := k) noneE (by omega)) ?_) | refine asked () ⟨by omega, by omega⟩ ?_); intro u; clear u) | (refine is_call ?_; refine call_auto (none_con) (lets_rfl rfl) (by exact trivial) rfl ?_; intro u; clear u))
  · refine again (k + 1) (by omega) (by omega) ?_
    (intro u; clear u; refine ⟨rfl, rfl, EntGoal.mk ?_ ?_⟩ <;> (repeat' (first | exact trivial | (with_reducible rfl) | apply And.intro | rfl)))
  · obtain rfl : k = 16 := by omega
    (refine con_end ?_ rfl; intro u; clear u; refine ⟨rfl, rfl, EntGoal.mk ?_ ?_⟩ <;> (repeat' (first | exact trivial | (with_reducible rfl) | apply And.intro | rfl)))
end Go.Proofs.S14.C1
