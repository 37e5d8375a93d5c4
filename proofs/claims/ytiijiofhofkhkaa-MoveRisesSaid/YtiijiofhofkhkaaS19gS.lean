/- Contracts of functions of the program, or a row of the seat, proved out of them. No condition beyond those that stand in each statement. -/
import Derived.Test.YtiijiofhofkhkaaS19gR
namespace Go.Proofs.S19
open Go Go.SE
set_option maxRecDepth 100000
set_option maxHeartbeats 4000000
attribute [local irreducible] specI

def eqEnt (a b : Ent) : Bool := a.cur == b.cur && (a.prev == b.prev && (a.gen == b.gen && (a.tick == b.tick && true)))
theorem eqEnt_iff {a b : Ent} : eqEnt a b = true ↔ a = b := by
  unfold eqEnt
  rw [ent_beq]; simp
def eqRow (a b : Row) : Bool := a.bkt == b.bkt && (eqEnt a.ent b.ent && true)
theorem eqRow_iff {a b : Row} : eqRow a b = true ↔ a = b := by
  unfold eqRow
  rw [Bool.and_true, Bool.and_eq_true, eqEnt_iff, beq_iff_eq]
  obtain ⟨x, e⟩ := a
  obtain ⟨y, f⟩ := b
  simp
theorem neRow {a b : Row} (h : (!eqRow a b) = true) : a ≠ b := by
  intro e; rw [eqRow_iff.2 e] at h; cases h
theorem eqRowNo {a b : Row} (h : (!eqRow a b) = false) : a = b := by
  apply eqRow_iff.1; simpa using h
theorem rows_take {l r : List Row} {k : Nat} (h : l.take k = r.take k) (h1 : k < l.length) (h2 : k < r.length) (e : rAt l k = rAt r k) : l.take (k + 1) = r.take (k + 1) := by
  rw [List.take_succ_eq_append_getElem h1, List.take_succ_eq_append_getElem h2, h]
  simp only [rAt, List.getD_eq_getElem?_getD, List.getElem?_eq_getElem h1, List.getElem?_eq_getElem h2, Option.getD_some] at e
  rw [e]
theorem rows_eq {l r : List Row} {k : Nat} (h : l.take k = r.take k) (h1 : l.length ≤ k) (h2 : r.length ≤ k) : l = r := by
  rwa [List.take_of_length_le h1, List.take_of_length_le h2] at h

theorem eqrows_con {l r : List Row} (hl : l.length ≤ 1000000) (hr : r.length ≤ 1000000) : CallCon Try.prog 81 [.one (.sl 0 0 l.length), .one (.sl 1 0 r.length)] [.row (rowsV l) 5 101 false, .row (rowsV r) 5 101 false] (.t (.one (.b (l = r)))) [] := by
  by_cases hlen : l.length = r.length
  rotate_left
  · rw [decide_eq_false (fun h => hlen (by rw [h]))]
    refine con_of_call2 rfl ?_
    refine call_inline Try.func81 rfl rfl ?_
    intro _
    repeat' (refine is_split ?_; refine sp_yes (by exact ndec_t (by omega)) ?_ <;> (intro u; clear u))
    all_goals (refine con_end ?_ rfl; intro u; clear u; refine ⟨rfl, rfl, EntGoal.mk ?_ ?_⟩ <;> (repeat' (first | exact trivial | (with_reducible rfl) | apply And.intro | rfl)))
  refine con_of_call2 rfl ?_
  refine call_inline Try.func81 rfl rfl ?_
  intro _
  repeat' (refine is_split ?_; refine sp_no (by exact ndec_f (by omega)) ?_ <;> (intro u; clear u))
  refine loop_keep (fun k : Nat => l.length - k) (fun k => k ≤ l.length ∧ l.take k = r.take k) [0, 1, 12] (fun k => [(13, .t (.one (.v (.int .i64 k))))]) (fun _ => []) (fun _ => []) [] 0 0 ⟨by omega, rfl⟩ ?_ ?_
  · (intro u; clear u; refine ⟨rfl, rfl, EntGoal.mk ?_ ?_⟩ <;> (repeat' (first | exact trivial | (with_reducible rfl) | apply And.intro | rfl)))
  intro k hk u
  clear u
  repeat' (first | (refine is_split ?_; (first | refine sp_dec (fun g => ?_) (fun g => ?_) | refine Split.mk (fun g => ?_) (fun g => ?_)) <;> (intro u; clear u)) | (refine is_asked ?_; (first | (refine is_spec ?_; (with_reducible refine asked _ (sp_add (by simp only [lo, hi]; omega) (by simp only [lo, hi]; omega)) ?_)) | (refine asked _ (row_ask l k (by show (0 + Int.toNat (k : Int)) * 5 = _; omega) (by omega)) ?_) | (refine asked _ (row_ask r k (by show (0 + Int.toNat (k : Int)) * 5 = _; omega) (by omega)) ?_) | refine asked () ⟨by omega, by omega⟩ ?_ | refine asked () (by show heldFree Try.prog _ _ = true; decide +kernel) ?_); intro u; clear u) | (refine is_draw ?_; refine draw_step mixed (by kernel_rfl) ?_; intro u; clear u))
  · rename_i g
    rw [decide_eq_false (show ¬ l = r from fun h => neRow g (by rw [h]))]
    (refine con_end ?_ rfl; intro u; clear u; refine ⟨rfl, rfl, EntGoal.mk ?_ ?_⟩ <;> (repeat' (first | exact trivial | (with_reducible rfl) | apply And.intro | rfl)))
  · rename_i g
    refine again (k + 1) ⟨by omega, rows_take hk.2 (by omega) (by omega) (eqRowNo g)⟩ (by omega) ?_
    (intro u; clear u; refine ⟨rfl, rfl, EntGoal.mk ?_ ?_⟩ <;> (repeat' (first | exact trivial | (with_reducible rfl) | apply And.intro | rfl)))
  · rw [decide_eq_true (rows_eq hk.2 (by omega) (by omega))]
    (refine con_end ?_ rfl; intro u; clear u; refine ⟨rfl, rfl, EntGoal.mk ?_ ?_⟩ <;> (repeat' (first | exact trivial | (with_reducible rfl) | apply And.intro | rfl)))

theorem sh_ext {s o : Sh} (h1 : s.base = o.base) (h2 : s.to = o.to) (h3 : s.rows = o.rows) : s = o := by
  cases s; cases o; simp_all
theorem shsame_con {s o : Sh} (hs : s.rows.length ≤ 1000000) (ho : o.rows.length ≤ 1000000) : CallCon Try.prog 55 [shT 0 s, shT 1 o] [.row (rowsV s.rows) 5 101 false, .row (rowsV o.rows) 5 101 false] (.t (.one (.b (s = o)))) [] := by
  have hq := eqrows_con hs ho
  refine con_of_call2 rfl ?_
  refine call_inline Try.func55 rfl rfl ?_
  intro _
  repeat' (first | (refine is_split ?_; refine sp_dec (fun g => ?_) (fun g => ?_) <;> (intro u; clear u)) | (refine is_call ?_; refine call_auto (hq) (lets_rfl rfl) (by exact ⟨⟨_, rfl, rfl, rfl⟩, ⟨_, rfl, rfl, rfl⟩, trivial⟩) rfl ?_; intro u; clear u))
  all_goals (refine con_end ?_ rfl; intro u; clear u; refine ⟨rfl, rfl, EntGoal.mk ?_ ?_⟩ <;> (repeat' (first | exact trivial | (with_reducible rfl) | apply And.intro | rfl)))
  all_goals (obtain ⟨a1, a2, a3⟩ := s; obtain ⟨b1, b2, b3⟩ := o; simp_all; try rfl)

theorem shrefsame_con {s o : Sh} (hs : s.rows.length ≤ 1000000) (ho : o.rows.length ≤ 1000000) : CallCon Try.prog 48 [shT 0 s, shT 1 o] [.row (rowsV s.rows) 5 101 false, .row (rowsV o.rows) 5 101 false] (.t (.one (.b (s = o)))) [] := by
  by_cases h : (s.base = o.base ∧ s.to = o.to) ∧ s.rows.length = o.rows.length
  rotate_left
  · rw [decide_eq_false (show ¬ s = o from fun e => h (by cases e; exact ⟨⟨rfl, rfl⟩, rfl⟩))]
    refine con_of_call2 rfl ?_
    refine call_inline Try.func48 rfl rfl ?_
    intro _
    repeat' (refine is_split ?_; (first | refine sp_yes (by exact ndec_t (by omega)) ?_ | refine sp_ndec (fun g => ?_) (fun g => ?_)) <;> (intro u; clear u))
    all_goals (refine con_end ?_ rfl; intro u; clear u; refine ⟨rfl, rfl, EntGoal.mk ?_ ?_⟩ <;> (repeat' (first | exact trivial | (with_reducible rfl) | apply And.intro | rfl)))
  obtain ⟨⟨h1, h2⟩, hlen⟩ := h
  refine con_of_call2 rfl ?_
  refine call_inline Try.func48 rfl rfl ?_
  intro _
  repeat' (refine is_split ?_; refine sp_no (by exact ndec_f (by omega)) ?_ <;> (intro u; clear u))
  refine loop_keep (fun k : Nat => s.rows.length - k) (fun k => k ≤ s.rows.length ∧ s.rows.take k = o.rows.take k) [2, 3] (fun k => [(5, .t (.one (.v (.int .i64 k))))]) (fun _ => []) (fun _ => []) [] 0 0 ⟨by omega, rfl⟩ ?_ ?_
  · (intro u; clear u; refine ⟨rfl, rfl, EntGoal.mk ?_ ?_⟩ <;> (repeat' (first | exact trivial | (with_reducible rfl) | apply And.intro | rfl)))
  intro k hk u
  clear u
  repeat' (first | (refine is_split ?_; (first | refine sp_dec (fun g => ?_) (fun g => ?_) | refine Split.mk (fun g => ?_) (fun g => ?_)) <;> (intro u; clear u)) | (refine is_asked ?_; (first | (refine is_spec ?_; (with_reducible refine asked _ (sp_add (by simp only [lo, hi]; omega) (by simp only [lo, hi]; omega)) ?_)) | (refine asked _ (row_ask s.rows k (by show (0 + Int.toNat (k : Int)) * 5 = _; omega) (by omega)) ?_) | (refine asked _ (row_ask o.rows k (by show (0 + Int.toNat (k : Int)) * 5 = _; omega) (by omega)) ?_) | refine asked () ⟨by omega, by omega⟩ ?_ | refine asked () (by show heldFree Try.prog _ _ = true; decide +kernel) ?_); intro u; clear u) | (refine is_draw ?_; refine draw_step mixed (by kernel_rfl) ?_; intro u; clear u))
  · rename_i g
    rw [decide_eq_false (show ¬ s = o from fun h => neRow g (by rw [h]))]
    (refine con_end ?_ rfl; intro u; clear u; refine ⟨rfl, rfl, EntGoal.mk ?_ ?_⟩ <;> (repeat' (first | exact trivial | (with_reducible rfl) | apply And.intro | rfl)))
  · rename_i g
    refine again (k + 1) ⟨by omega, rows_take hk.2 (by omega) (by omega) (eqRowNo g)⟩ (by omega) ?_
    (intro u; clear u; refine ⟨rfl, rfl, EntGoal.mk ?_ ?_⟩ <;> (repeat' (first | exact trivial | (with_reducible rfl) | apply And.intro | rfl)))
  · rw [decide_eq_true (sh_ext h1 h2 (rows_eq hk.2 (by omega) (by omega)))]
    (refine con_end ?_ rfl; intro u; clear u; refine ⟨rfl, rfl, EntGoal.mk ?_ ?_⟩ <;> (repeat' (first | exact trivial | (with_reducible rfl) | apply And.intro | rfl)))

theorem rows_all (l : List Row) : ((rowsV l).drop (0 * 5)).take (l.length * 5) = rowsV l := by
  rw [Nat.zero_mul, List.drop_zero, List.take_of_length_le]
  rw [rowsV_length]; exact Nat.le_refl _
theorem clonerows_some {l : List Row} (hne : l ≠ []) (hl : l.length ≤ 1000000) : CallCon Try.prog 82 [.one (.sl 0 0 l.length)] [.row (rowsV l) 5 101 false] (.t (.one (.sl 0 0 l.length))) [.row (rowsV l) 5 101 true] := by
  have hx : rowsV l ≠ [] := by cases l with
    | nil => exact absurd rfl hne
    | cons x l => simp [rowsV, rowV]
  refine con_of_call2 rfl ?_
  refine call_inline Try.func82 rfl rfl ?_
  intro _
  repeat' (refine is_asked ?_; (first | (refine asked () (.inr hx) ?_) | (refine asked (rowsV l) ⟨by rw [rows_all]; rfl, rfl, by rw [rows_all, rowsV_length], by unfold maxLen; omega, by show _ * 40 ≤ _; omega⟩ ?_)); intro u; clear u)
  (refine con_end ?_ rfl; intro u; clear u; refine ⟨rfl, rfl, EntGoal.mk ?_ ?_⟩ <;> (repeat' (first | exact trivial | (with_reducible rfl) | apply And.intro | rfl)))
  all_goals omega
theorem clonerows_nil : CallCon Try.prog 82 [.one (.v (.slice none 0 0))] [] (.t (.one (.sl 0 0 0))) [.row (rowsV []) 5 101 true] := by
  refine con_of_call2 rfl ?_
  refine call_inline Try.func82 rfl rfl ?_
  intro _
  repeat' fail
  (refine con_end ?_ rfl; intro u; clear u; refine ⟨rfl, rfl, EntGoal.mk ?_ ?_⟩ <;> (repeat' (first | exact trivial | (with_reducible rfl) | apply And.intro | rfl)))
theorem clonerows_empty (a : Addr) (cap : Nat) : CallCon Try.prog 82 [.one (.v (.slice (some a) 0 cap))] [] (.t (.one (.sl 0 0 0))) [.row (rowsV []) 5 101 true] := by
  refine con_of_call2 rfl ?_
  refine call_inline Try.func82 rfl rfl ?_
  intro _
  repeat' (refine is_asked ?_; (refine asked [] ⟨rfl, rfl, rfl, by decide, by decide⟩ ?_); intro u; clear u)
  (refine con_end ?_ rfl; intro u; clear u; refine ⟨rfl, rfl, EntGoal.mk ?_ ?_⟩ <;> (repeat' (first | exact trivial | (with_reducible rfl) | apply And.intro | rfl)))
theorem clonerows_con {l : List Row} (hl : l.length ≤ 1000000) : CallCon Try.prog 82 [.one (.sl 0 0 l.length)] [.row (rowsV l) 5 101 false] (.t (.one (.sl 0 0 l.length))) [.row (rowsV l) 5 101 true] := by
  by_cases h : l = []
  · subst h
    exact con_empty clonerows_nil clonerows_empty
  · exact clonerows_some h hl

theorem shown_con {s : Sh} (hl : s.rows.length ≤ 1000000) : CallCon Try.prog 56 [shT 0 s] [.row (rowsV s.rows) 5 101 false] (.t (shT 0 s)) [.row (rowsV s.rows) 5 101 true] := by
  have hc := clonerows_con hl
  refine con_of_call2 rfl ?_
  refine call_inline Try.func56 rfl rfl ?_
  intro _
  repeat' (refine is_call ?_; refine call_auto (hc) (lets_rfl rfl) (by exact ⟨⟨_, rfl, rfl, rfl⟩, trivial⟩) rfl ?_; intro u; clear u)
  all_goals (refine con_end ?_ rfl; intro u; clear u; refine ⟨rfl, rfl, EntGoal.mk ?_ ?_⟩ <;> (repeat' (first | exact trivial | (with_reducible rfl) | apply And.intro | rfl)))
theorem shrefown_con {s : Sh} (hl : s.rows.length ≤ 1000000) : CallCon Try.prog 57 [shT 0 s] [.row (rowsV s.rows) 5 101 false] (.t (shT 0 s)) [.row (rowsV s.rows) 5 101 true] := by
  refine con_of_call2 rfl ?_
  refine call_inline Try.func57 rfl rfl ?_
  intro _
  repeat' (refine is_asked ?_; (refine asked (rowsV s.rows) ⟨by rw [rows_all]; rfl, rfl, by rw [rows_all, rowsV_length], by unfold maxLen; omega, by show _ * 40 ≤ _; omega⟩ ?_); intro u; clear u)
  all_goals (refine con_end ?_ rfl; intro u; clear u; refine ⟨rfl, rfl, EntGoal.mk ?_ ?_⟩ <;> (repeat' (first | exact trivial | (with_reducible rfl) | apply And.intro | rfl)))
  all_goals omega

