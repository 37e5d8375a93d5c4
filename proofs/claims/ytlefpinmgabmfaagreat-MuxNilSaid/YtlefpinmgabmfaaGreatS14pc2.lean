/- Contracts of functions of the program, or a row of the seat, proved out of them. No condition beyond those that stand in each statement. -/
import Derived.Test.YtlefpinmgabmfaaGreatSeD
import Derived.Test.YtlefpinmgabmfaaGreatS14pc1
namespace Go.Proofs.S14.C1
open Go Go.SE
set_option maxRecDepth 100000
set_option maxHeartbeats 4000000
attribute [local irreducible] specI

structure Row where
  bkt : Int
  ent : Ent
  deriving DecidableEq
structure Sh where
  base : Int
  to : Int
  rows : List Row
  deriving DecidableEq
def zeroRow : Row := ⟨0, zeroE⟩
def zeroSh : Sh := ⟨0, 0, []⟩
def rowV (r : Row) : List Value := [.int .i64 r.bkt, .int .i64 r.ent.cur, .int .i64 r.ent.prev, .int .i64 r.ent.gen, .int .i64 r.ent.tick]
def rowsV : List Row → List Value
  | [] => []
  | r :: l => rowV r ++ rowsV l
def rAt (l : List Row) (i : Nat) : Row := l.getD i zeroRow
def shS (h : Nat) (s : Sh) : List S := [.v (.int .i64 s.base), .v (.int .i64 s.to), .sl h 0 s.rows.length]
def shT (h : Nat) (s : Sh) : T := .agg (shS h s)
theorem rowsV_length : ∀ l : List Row, (rowsV l).length = l.length * 5
  | [] => rfl
  | r :: l => by
    rw [rowsV, List.length_append, rowsV_length l, List.length_cons]
    show 5 + _ = _
    omega
theorem rowsV_app : ∀ A B : List Row, rowsV (A ++ B) = rowsV A ++ rowsV B
  | [], B => rfl
  | r :: A, B => by rw [List.cons_append, rowsV, rowsV, rowsV_app A B, List.append_assoc]
theorem rowsV_drop : ∀ (l : List Row) (k : Nat), k < l.length → ∃ R, (rowsV l).drop (k * 5) = rowV (rAt l k) ++ R
  | [], k, h => by simp at h
  | r :: l, 0, _ => ⟨rowsV l, rfl⟩
  | r :: l, k + 1, h => by
    obtain ⟨R, hR⟩ := rowsV_drop l k (by simpa using h)
    refine ⟨R, ?_⟩
    rw [show (k + 1) * 5 = 5 + k * 5 by omega, rowsV, show (5 : Nat) = (rowV r).length from rfl, List.drop_length_add_append, show (rowV r).length = 5 from rfl, hR]
    rfl
theorem cells48 : Tryz.prog.cellsOf 126 = 5 := by kernel_rfl
theorem rows_len (l : List Row) {k : Nat} (hk : k < l.length) : k * 5 + 5 ≤ (rowsV l).length := by rw [rowsV_length]; omega
theorem row_ask (l : List Row) {p n : Nat} (k : Nat) (hp : p = k * 5) (hk : k < l.length) (hn : n = 5 := by exact cells48) : ((rowsV l).drop p).take n = rowV (rAt l k) ∧ p + n ≤ (rowsV l).length := by
  subst hp hn
  obtain ⟨R, hR⟩ := rowsV_drop l k hk
  exact ⟨by rw [hR]; rfl, rows_len l hk⟩
theorem row_ent (l : List Row) {p n : Nat} (k : Nat) (hp : p = k * 5 + 1) (hk : k < l.length) (hn : n = 4 := by exact cells23) : ((rowsV l).drop p).take n = [.int .i64 (rAt l k).ent.cur, .int .i64 (rAt l k).ent.prev, .int .i64 (rAt l k).ent.gen, .int .i64 (rAt l k).ent.tick] ∧ p + n ≤ (rowsV l).length := by
  subst hp hn
  obtain ⟨R, hR⟩ := rowsV_drop l k hk
  refine ⟨?_, by have := rows_len l hk; omega⟩
  rw [← List.drop_drop, hR]; rfl
theorem row_bkt (l : List Row) {p : Nat} (k : Nat) (hp : p = k * 5) (hk : k < l.length) : (rowsV l)[p]? = some (.int .i64 (rAt l k).bkt) := by
  subst hp
  obtain ⟨R, hR⟩ := rowsV_drop l k hk
  rw [show k * 5 = k * 5 + 0 from rfl, ← List.getElem?_drop, hR]; rfl

def okAt (l : List Row) (i : Nat) : Prop := (0 ≤ (rAt l i).bkt ∧ (rAt l i).bkt < 16) ∧ (0 < i → (rAt l (i - 1)).bkt < (rAt l i).bkt) ∧ okE (rAt l i).ent
instance (l : List Row) (i : Nat) : Decidable (okAt l i) := by unfold okAt; infer_instance
def okHd (s : Sh) : Prop := (0 ≤ s.to ∧ s.to ≤ 1099511627776) ∧ (-1 ≤ s.base ∧ s.base < s.to) ∧ s.rows.length ≤ 16
instance (s : Sh) : Decidable (okHd s) := by unfold okHd; infer_instance
def okSh (s : Sh) : Prop := okHd s ∧ (s.base = -1 → s.rows.length = 16) ∧ ∀ i, i < s.rows.length → okAt s.rows i
instance (s : Sh) : Decidable (okSh s) := by unfold okSh; infer_instance
def lastB (l : List Row) : Nat → Int
  | 0 => -1
  | k + 1 => (rAt l k).bkt
theorem lastB_pos {l : List Row} {k : Nat} (h : ∀ i, i < k → okAt l i) : -1 ≤ lastB l k ∧ (0 < k → 0 ≤ lastB l k) := by
  cases k with
  | zero => exact ⟨by show (-1 : Int) ≤ -1; decide, fun h => by omega⟩
  | succ k => have := (h k (by omega)).1; exact ⟨by show -1 ≤ (rAt l k).bkt; omega, fun _ => this.1⟩
theorem lastB_eq {l : List Row} {k : Nat} (h : 0 < k) : lastB l k = (rAt l (k - 1)).bkt := by
  cases k with
  | zero => omega
  | succ k => rfl
theorem okAt_iff {l : List Row} {k : Nat} (h : ∀ i, i < k → okAt l i) : okAt l k ↔ (lastB l k < (rAt l k).bkt ∧ (rAt l k).bkt < 16) ∧ okE (rAt l k).ent := by
  have hp := lastB_pos h
  unfold okAt
  cases k with
  | zero =>
    constructor
    · rintro ⟨h1, h2, h3⟩; exact ⟨⟨by show (-1 : Int) < _; omega, h1.2⟩, h3⟩
    · rintro ⟨h1, h3⟩
      have h4 := h1.1
      change (-1 : Int) < _ at h4
      exact ⟨⟨by omega, h1.2⟩, fun h => by omega, h3⟩
  | succ k =>
    have h5 := hp.2 (by omega)
    change 0 ≤ (rAt l k).bkt at h5
    constructor
    · rintro ⟨h1, h2, h3⟩; exact ⟨⟨h2 (by omega), h1.2⟩, h3⟩
    · rintro ⟨h1, h3⟩
      have h4 := h1.1
      change (rAt l k).bkt < _ at h4
      exact ⟨⟨by omega, h1.2⟩, fun _ => h4, h3⟩
theorem ok_next {l : List Row} {k : Nat} (h : ∀ i, i < k → okAt l i) (h2 : okAt l k) : ∀ i, i < k + 1 → okAt l i := by
  intro i hi
  by_cases e : i < k
  · exact h i e
  · rw [show i = k by omega]; exact h2
theorem ent_eta (e : Ent) : Ent.mk e.cur e.prev e.gen e.tick = e := rfl

theorem shright_con (s : Sh) (hl : s.rows.length ≤ 1000000) : CallCon Tryz.prog 90 [shT 0 s] [.row (rowsV s.rows) 5 126 false] (.t (.one (.b (okSh s)))) [] := by
  by_cases h : okHd s
  rotate_left
  · rw [decide_eq_false (show ¬ okSh s from fun h2 => h h2.1)]
    unfold okHd at h
    refine con_of_call2 rfl ?_
    refine call_inline Tryz.func90 rfl rfl ?_
    intro _
    repeat' (first | (refine is_split ?_; (first | refine sp_yes (by exact dec_t (by omega)) ?_ | refine sp_dec (fun g => ?_) (fun g => ?_)) <;> (intro u; clear u)) | (refine is_scope ?_; refine scope_step ?_; intro u; clear u))
    all_goals (refine con_end ?_ rfl; intro u; clear u; refine ⟨rfl, rfl, EntGoal.mk ?_ ?_⟩ <;> (repeat' (first | exact trivial | (with_reducible rfl) | apply And.intro | rfl)))
  have h' := h
  unfold okHd at h'
  refine con_of_call2 rfl ?_
  refine call_inline Tryz.func90 rfl rfl ?_
  intro _
  repeat' (first | (refine is_split ?_; refine sp_no (by exact dec_f (by omega)) ?_ <;> (intro u; clear u)) | (refine is_scope ?_; refine scope_step ?_; intro u; clear u))
  refine loop_keep (fun k : Nat => s.rows.length - k) (fun k => k ≤ s.rows.length ∧ ∀ i, i < k → okAt s.rows i) [1, 33, 34] (fun k => [(35, .t (.one (.v (.int .i64 k)))), (3, .t (.one (.v (.int .i64 (lastB s.rows k)))))]) (fun _ => []) (fun _ => []) [] 0 0 ⟨by omega, fun i hi => by omega⟩ ?_ ?_
  · (intro u; clear u; refine ⟨rfl, rfl, EntGoal.mk ?_ ?_⟩ <;> (repeat' (first | exact trivial | (with_reducible rfl) | apply And.intro | rfl)))
  intro k hk u
  clear u
  have hiff := okAt_iff hk.2
  repeat' (first | (refine is_split ?_; (first | refine sp_dec (fun g => ?_) (fun g => ?_) | refine sp_ndec (fun g => ?_) (fun g => ?_)) <;> (intro u; clear u)) | (refine is_asked ?_; (first | (refine is_spec ?_; (with_reducible refine asked _ (sp_add (by simp only [lo, hi]; omega) (by simp only [lo, hi]; omega)) ?_)) | (refine asked _ (row_ask s.rows k (by show (0 + Int.toNat (k : Int)) * 5 = _; omega) (by omega)) ?_) | refine asked () ⟨by omega, by omega⟩ ?_); intro u; clear u) | (refine is_scope ?_; refine scope_step ?_; intro u; clear u) | (refine is_call ?_; refine call_auto (right_con (rAt s.rows k).ent) (lets_rfl rfl) (by exact trivial) rfl ?_; intro u; clear u))
  · rw [decide_eq_false (show ¬ okSh s from fun h2 => by have := hiff.1 (h2.2.2 k (by omega)); omega)]
    (refine con_end ?_ rfl; intro u; clear u; refine ⟨rfl, rfl, EntGoal.mk ?_ ?_⟩ <;> (repeat' (first | exact trivial | (with_reducible rfl) | apply And.intro | rfl)))
  · rw [decide_eq_false (show ¬ okSh s from fun h2 => by have := hiff.1 (h2.2.2 k (by omega)); omega)]
    (refine con_end ?_ rfl; intro u; clear u; refine ⟨rfl, rfl, EntGoal.mk ?_ ?_⟩ <;> (repeat' (first | exact trivial | (with_reducible rfl) | apply And.intro | rfl)))
  · rw [decide_eq_false (show ¬ okSh s from fun h2 => absurd (hiff.1 (h2.2.2 k (by omega))).2 (by assumption))]
    (refine con_end ?_ rfl; intro u; clear u; refine ⟨rfl, rfl, EntGoal.mk ?_ ?_⟩ <;> (repeat' (first | exact trivial | (with_reducible rfl) | apply And.intro | rfl)))
  · refine again (k + 1) ⟨by omega, ok_next hk.2 (hiff.2 ⟨by omega, by assumption⟩)⟩ (by omega) ?_
    (intro u; clear u; refine ⟨rfl, rfl, EntGoal.mk ?_ ?_⟩ <;> (repeat' (first | exact trivial | (with_reducible rfl) | apply And.intro | rfl)))
  · rw [decide_eq_true (show okSh s from ⟨h, fun e => by omega, fun i hi => hk.2 i (by omega)⟩)]
    (refine con_end ?_ rfl; intro u; clear u; refine ⟨rfl, rfl, EntGoal.mk ?_ ?_⟩ <;> (repeat' (first | exact trivial | (with_reducible rfl) | apply And.intro | rfl)))
  · (refine con_end ?_ rfl; intro u; clear u; refine ⟨rfl, rfl, EntGoal.mk ?_ ?_⟩ <;> (repeat' (first | exact trivial | (with_reducible rfl) | apply And.intro | rfl)))
    show decide _ = decide _
    rw [decide_eq_decide]
    constructor
    · intro e
      exact ⟨h, fun _ => by omega, fun i hi => hk.2 i (by omega)⟩
    · intro e
      have := e.2.1 (by omega)
      omega

theorem shref_con (s : Sh) (hl : s.rows.length ≤ 1000000) : CallCon Tryz.prog 44 [shT 0 s] [.row (rowsV s.rows) 5 126 false] (.t (.one (.b (okSh s)))) [] := by
  by_cases h : okHd s ∧ (s.base = -1 → s.rows.length = 16)
  rotate_left
  · rw [decide_eq_false (show ¬ okSh s from fun h2 => h ⟨h2.1, h2.2.1⟩)]
    unfold okHd at h
    refine con_of_call2 rfl ?_
    refine call_inline Tryz.func44 rfl rfl ?_
    intro _
    repeat' (refine is_split ?_; (first | refine sp_yes (by (first | exact dec_t (by omega) | exact ndec_t (by omega))) ?_ | refine sp_dec (fun g => ?_) (fun g => ?_)) <;> (intro u; clear u))
    all_goals (refine con_end ?_ rfl; intro u; clear u; refine ⟨rfl, rfl, EntGoal.mk ?_ ?_⟩ <;> (repeat' (first | exact trivial | (with_reducible rfl) | apply And.intro | rfl)))
  obtain ⟨h, hb⟩ := h
  have h' := h
  unfold okHd at h'
  refine con_of_call2 rfl ?_
  refine call_inline Tryz.func44 rfl rfl ?_
  intro _
  repeat' (refine is_split ?_; (first | refine sp_no (by (first | exact dec_f (by omega) | exact ndec_f (by omega))) ?_ | refine sp_dec (fun g => ?_) (fun g => ?_)) <;> (intro u; clear u))
  all_goals
    refine loop_keep (fun k : Nat => s.rows.length - k) (fun k => k ≤ s.rows.length ∧ ∀ i, i < k → okAt s.rows i) [1] (fun k => [(3, .t (.one (.v (.int .i64 k))))]) (fun _ => []) (fun _ => []) [] 0 0 ⟨by omega, fun i hi => by omega⟩ ?_ ?_
    · (intro u; clear u; refine ⟨rfl, rfl, EntGoal.mk ?_ ?_⟩ <;> (repeat' (first | exact trivial | (with_reducible rfl) | apply And.intro | rfl)))
    intro k hk u
    clear u
    repeat' (first | (refine is_split ?_; (first | refine sp_dec (fun g => ?_) (fun g => ?_) | refine sp_ndec (fun g => ?_) (fun g => ?_)) <;> (intro u; clear u)) | (refine is_asked ?_; (first | (refine is_spec ?_; (first | (with_reducible refine asked _ (sp_add (by simp only [lo, hi]; omega) (by simp only [lo, hi]; omega)) ?_) | (with_reducible refine asked _ (sp_sub (by simp only [lo, hi]; omega) (by simp only [lo, hi]; omega)) ?_))) | (refine asked _ (row_ent s.rows k (by show (0 + Int.toNat (k : Int)) * 5 + 1 = _; omega) (by omega)) ?_) | (refine asked _ (row_bkt s.rows k (by show (0 + Int.toNat (k : Int)) * 5 + 0 = _; omega) (by omega)) ?_) | (refine asked _ (row_bkt s.rows (k - 1) (by show (0 + Int.toNat ((k : Int) - 1)) * 5 + 0 = _; omega) (by omega)) ?_) | refine asked () ⟨by omega, by omega⟩ ?_); intro u; clear u) | (refine is_call ?_; refine call_auto (refright_con (rAt s.rows k).ent) (lets_rfl rfl) (by exact trivial) rfl ?_; intro u; clear u))
    all_goals first
      | (refine again (k + 1) ⟨by omega, ok_next hk.2 (by unfold okAt; first | exact ⟨by omega, by omega, by assumption⟩ | omega)⟩ (by omega) ?_; (intro u; clear u; refine ⟨rfl, rfl, EntGoal.mk ?_ ?_⟩ <;> (repeat' (first | exact trivial | (with_reducible rfl) | apply And.intro | rfl))); done)
      | (rw [decide_eq_false (show ¬ okSh s from fun h2 => by have h3 := h2.2.2 k (by omega); unfold okAt at h3; first | omega | exact absurd h3.2.2 (by assumption))]; (refine con_end ?_ rfl; intro u; clear u; refine ⟨rfl, rfl, EntGoal.mk ?_ ?_⟩ <;> (repeat' (first | exact trivial | (with_reducible rfl) | apply And.intro | rfl))); done)
      | (rw [decide_eq_true (show okSh s from ⟨h, hb, fun i hi => hk.2 i (by omega)⟩)]; (refine con_end ?_ rfl; intro u; clear u; refine ⟨rfl, rfl, EntGoal.mk ?_ ?_⟩ <;> (repeat' (first | exact trivial | (with_reducible rfl) | apply And.intro | rfl))); done)
end Go.Proofs.S14.C1

namespace Go.Proofs.S14.C1
open Go Go.SE
set_option maxRecDepth 100000
set_option maxHeartbeats 4000000
attribute [local irreducible] specI

def eqEnt (a b : Ent) : Bool := a.cur == b.cur && (a.prev == b.prev && (a.gen == b.gen && (a.tick == b.tick && true)))
theorem eqEnt_iff {a b : Ent} : eqEnt a b = true ↔ a = b := by
  unfold eqEnt
  rw [ent_beq]; simp
def eqRow (a b : Row) : Bool := a.bkt == b.bkt && (eqEnt a.ent b.ent && true)
theorem eqRow_iff {a b : Row} : eqRow a b = true ↔ a = b := by
  unfold eqRow
  rw [Bool.and_true, Bool.and_eq_true, eqEnt_iff, beq_iff_eq]
  obtain ⟨x, e⟩ := a
  obtain ⟨y, f⟩ := b
  simp
theorem neRow {a b : Row} (h : (!eqRow a b) = true) : a ≠ b := by
  intro e; rw [eqRow_iff.2 e] at h; cases h
theorem eqRowNo {a b : Row} (h : (!eqRow a b) = false) : a = b := by
  apply eqRow_iff.1; simpa using h
theorem rows_take {l r : List Row} {k : Nat} (h : l.take k = r.take k) (h1 : k < l.length) (h2 : k < r.length) (e : rAt l k = rAt r k) : l.take (k + 1) = r.take (k + 1) := by
  rw [List.take_succ_eq_append_getElem h1, List.take_succ_eq_append_getElem h2, h]
  simp only [rAt, List.getD_eq_getElem?_getD, List.getElem?_eq_getElem h1, List.getElem?_eq_getElem h2, Option.getD_some] at e
  rw [e]
theorem rows_eq {l r : List Row} {k : Nat} (h : l.take k = r.take k) (h1 : l.length ≤ k) (h2 : r.length ≤ k) : l = r := by
  rwa [List.take_of_length_le h1, List.take_of_length_le h2] at h

theorem sh_ext {s o : Sh} (h1 : s.base = o.base) (h2 : s.to = o.to) (h3 : s.rows = o.rows) : s = o := by
  cases s; cases o; simp_all
theorem rows_all (l : List Row) : ((rowsV l).drop (0 * 5)).take (l.length * 5) = rowsV l := by
  rw [Nat.zero_mul, List.drop_zero, List.take_of_length_le]
  rw [rowsV_length]; exact Nat.le_refl _
end Go.Proofs.S14.C1

namespace Go.Proofs.S14.C1
open Go Go.SE
set_option maxRecDepth 100000
set_option maxHeartbeats 4000000
attribute [local irreducible] specI

/-- The rows of a table that are so. -/
def rowsK (so : Nat → Bool) (t : Tab) : Nat → List Row
  | 0 => []
  | k + 1 => bif so k then rowsK so t k ++ [⟨k, t.at k⟩] else rowsK so t k
theorem rowsK_len (so : Nat → Bool) (t : Tab) : ∀ k, (rowsK so t k).length ≤ k
  | 0 => Nat.le_refl _
  | k + 1 => by
    have := rowsK_len so t k
    unfold rowsK
    cases so k
    · show (rowsK so t k).length ≤ k + 1; omega
    · show (rowsK so t k ++ [_]).length ≤ k + 1; rw [List.length_append]; simp; omega
theorem rowsK_yes {so : Nat → Bool} {t : Tab} {k : Nat} {m : List Row} (hm : m = rowsK so t k) (h : so k = true) : m ++ [⟨(k : Int), t.at k⟩] = rowsK so t (k + 1) := by
  show _ = bif so k then _ else _
  rw [h, hm]; rfl
theorem rowsK_no {so : Nat → Bool} {t : Tab} {k : Nat} {m : List Row} (hm : m = rowsK so t k) (h : so k = false) : m = rowsK so t (k + 1) := by
  show _ = bif so k then _ else _
  rw [h, hm]; rfl
def snapL (t : Tab) : List Row := rowsK (fun _ => true) t 16
def deltaL (a b : Tab) : List Row := rowsK (fun i => !eqEnt (a.at i) (b.at i)) b 16
def ofSh (t : Tab) : Sh := if okTab t then ⟨-1, t.ver, snapL t⟩ else zeroSh
def ofE (t : Tab) : Int := if okTab t then 0 else 2
def okDl (a b : Tab) : Prop := a.ver < b.ver ∧ okTab a ∧ okTab b
instance (a b : Tab) : Decidable (okDl a b) := by unfold okDl; infer_instance
def dlSh (a b : Tab) : Sh := if okDl a b then ⟨a.ver, b.ver, deltaL a b⟩ else zeroSh
def dlE (a b : Tab) : Int := if okDl a b then 0 else 2

theorem row_app (m : List Row) (r : Row) (h : m.length ≤ 1000000) : rowsV m ++ rowV r = rowsV (m ++ [r]) ∧ (rowsV m).length = m.length * 5 ∧ (rowV r).length = 1 * 5 ∧ m.length + 1 ≤ maxLen ∧ (m.length + 1) * 40 ≤ 140737488355328 :=
  ⟨by rw [rowsV_app]; simp [rowsV], rowsV_length m, rfl, by unfold maxLen; omega, by omega⟩

theorem refof_con (t : Tab) : CallCon Tryz.prog 27 [tabT t] [] (.tup [shT 0 (ofSh t), .one (.v (.int .i64 (ofE t)))]) [.row (rowsV (ofSh t).rows) 5 126 true] := by
  have hR := reftabright_con t
  by_cases hok : okTab t
  rotate_left
  · rw [show ofSh t = zeroSh by unfold ofSh; rw [if_neg hok], show ofE t = 2 by unfold ofE; rw [if_neg hok]]
    have hR2 := con_no hR hok
    refine con_of_call2 rfl ?_
    refine call_inline Tryz.func27 rfl rfl ?_
    intro _
    repeat' (refine is_call ?_; refine call_auto (hR2) (lets_rfl rfl) (by exact trivial) rfl ?_; intro u; clear u)
    all_goals (refine con_end ?_ rfl; intro u; clear u; refine ⟨rfl, rfl, EntGoal.mk ?_ ?_⟩ <;> (repeat' (first | exact trivial | (with_reducible rfl) | apply And.intro | rfl)))
  rw [show ofSh t = ⟨-1, t.ver, snapL t⟩ by unfold ofSh; rw [if_pos hok], show ofE t = 0 by unfold ofE; rw [if_pos hok]]
  have hR2 := con_yes hR hok
  refine con_of_call2 rfl ?_
  refine call_inline Tryz.func27 rfl rfl ?_
  intro _
  repeat' (refine is_call ?_; refine call_auto (hR2) (lets_rfl rfl) (by exact trivial) rfl ?_; intro u; clear u)
  refine loop_keep (ι := Nat × List Row) (fun | (k, _) => 16 - k) (fun | (k, m) => k ≤ 16 ∧ m = rowsK (fun _ => true) t k) [1, 2, 4] (fun | (k, _) => [(5, .t (.one (.v (.int .i64 k))))]) (fun | (_, m) => [(2, .box [.n .i64 (-1), .v (.int .i64 t.ver), .sl 3 0 m.length] 1 55), (3, .row (rowsV m) 5 126 true)]) (fun _ => []) [] 1 (0, []) ⟨by omega, rfl⟩ ?_ ?_
  · (intro u; clear u; refine ⟨rfl, rfl, EntGoal.mk ?_ ?_⟩ <;> (repeat' (first | exact trivial | (with_reducible rfl) | apply And.intro | rfl)))
  rintro ⟨k, m⟩ ⟨hk, hm⟩ u
  clear u
  have hl := rowsK_len (fun _ => true) t k
  rw [← hm] at hl
  repeat' (first | (refine is_split ?_; refine sp_dec (fun g => ?_) (fun g => ?_) <;> (intro u; clear u)) | (refine is_asked ?_; (first | (refine is_spec ?_; (with_reducible refine asked _ (sp_add (by simp only [lo, hi]; omega) (by simp only [lo, hi]; omega)) ?_)) | (refine asked _ (tab_ask t (i := k) (by omega)) ?_) | (refine asked (rowsV (m ++ [Row.mk (k : Int) (t.at k)])) (row_app m (Row.mk (k : Int) (t.at k)) (by omega)) ?_) | refine asked () ⟨by omega, by omega⟩ ?_); intro u; clear u) | (refine is_draw ?_; refine draw_step mixed (by kernel_rfl) ?_; intro u; clear u))
  · refine again (k + 1, m ++ [Row.mk (k : Int) (t.at k)]) ⟨by omega, rowsK_yes hm rfl⟩ (by show 16 - (k + 1) < 16 - k; omega) ?_
    (intro u; clear u; refine ⟨rfl, rfl, EntGoal.mk ?_ ?_⟩ <;> (repeat' (first | exact trivial | (with_reducible rfl) | apply And.intro | rfl)))
    all_goals simp
  · obtain rfl : k = 16 := by omega
    change m = snapL t at hm
    rw [← hm]
    (refine con_end ?_ rfl; intro u; clear u; refine ⟨rfl, rfl, EntGoal.mk ?_ ?_⟩ <;> (repeat' (first | exact trivial | (with_reducible rfl) | apply And.intro | rfl)))

def eqFrom (a b : Tab) : List Nat → Bool
  | [] => true
  | i :: l => eqEnt (a.at i) (b.at i) && eqFrom a b l
def eqRows (a b : Tab) : Bool := eqFrom a b [0, 1, 2, 3, 4, 5, 6, 7, 8, 9, 10, 11, 12, 13, 14, 15]
def eqTab (a b : Tab) : Bool := a.ver == b.ver && (eqRows a b && true)
def sameR (a b : Tab) : Prop := ∀ i, i < 16 → a.at i = b.at i
instance (a b : Tab) : Decidable (sameR a b) := by unfold sameR; infer_instance
theorem eqRows_iff {a b : Tab} : eqRows a b = true ↔ sameR a b := by
  unfold eqRows
  simp only [eqFrom, Bool.and_true, Bool.and_eq_true, eqEnt_iff]
  constructor
  · rintro ⟨h0, h1, h2, h3, h4, h5, h6, h7, h8, h9, h10, h11, h12, h13, h14, h15⟩
    exact lt16 ⟨h0, h1, h2, h3, h4, h5, h6, h7, h8, h9, h10, h11, h12, h13, h14, h15⟩
  · intro h
    exact ⟨h 0 (by omega), h 1 (by omega), h 2 (by omega), h 3 (by omega), h 4 (by omega), h 5 (by omega), h 6 (by omega), h 7 (by omega), h 8 (by omega), h 9 (by omega), h 10 (by omega), h 11 (by omega), h 12 (by omega), h 13 (by omega), h 14 (by omega), h 15 (by omega)⟩
theorem tab_ext {a b : Tab} (ha : a.rows.length = 16) (hb : b.rows.length = 16) (hv : a.ver = b.ver) (h : sameR a b) : a = b := by
  obtain ⟨v, l⟩ := a
  obtain ⟨w, r⟩ := b
  obtain rfl : v = w := hv
  congr 1
  apply List.ext_getElem (by rw [ha, hb])
  intro i h1 h2
  have := h i (by simp only at ha h1; omega)
  simpa [Tab.at, List.getD_eq_getElem?_getD, List.getElem?_eq_getElem h1, List.getElem?_eq_getElem h2] using this
theorem eqTab_iff {a b : Tab} (ha : a.rows.length = 16) (hb : b.rows.length = 16) : eqTab a b = true ↔ a = b := by
  unfold eqTab
  rw [Bool.and_true, Bool.and_eq_true, eqRows_iff, beq_iff_eq]
  exact ⟨fun h => tab_ext ha hb h.1 h.2, fun h => by subst h; exact ⟨rfl, fun _ _ => rfl⟩⟩
theorem rowsK_none {so : Nat → Bool} {t : Tab} : ∀ k, (∀ i, i < k → so i = false) → rowsK so t k = []
  | 0, _ => rfl
  | k + 1, h => by
    show (bif so k then _ else _) = _
    rw [h k (by omega)]
    exact rowsK_none k fun i hi => h i (by omega)
theorem delta_same {a b : Tab} (h : sameR a b) : deltaL a b = [] := rowsK_none 16 fun i hi => by rw [h i hi, eqEnt_iff.2 rfl]; rfl
end Go.Proofs.S14.C1
