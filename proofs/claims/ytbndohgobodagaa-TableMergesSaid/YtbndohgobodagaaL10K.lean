/- Contracts of functions of the program, or a row of the seat, proved out of them. No condition beyond those that stand in each statement. -/
import Derived.Test.YtbndohgobodagaaL10I
namespace Go.Proofs.L10
open Go Go.SE
set_option maxRecDepth 100000
set_option maxHeartbeats 4000000
attribute [local irreducible] specI

def newerE (a b : Ent) : Ent := if a.gen < b.gen then b else a
theorem mergeK_got {a b : Tab} (hl : a.rows.length = 16) : ∀ k i, k ≤ 16 → i < k → (mergeK a b k).at i = newerE (a.at i) (b.at i)
  | 0, i, _, h => by omega
  | k + 1, i, hk, h => by
    have ih := mergeK_got hl (b := b) k i (by omega)
    have hlk := mergeK_len a b k
    unfold mergeK
    by_cases e : i = k
    · subst e
      unfold newerE
      split
      · rw [set_at_eq (by omega)]
      · exact mergeK_at a b i i (Nat.le_refl _)
    · split
      · rw [set_at_ne (by omega)]; exact ih (by omega)
      · exact ih (by omega)
theorem merge_at {a b : Tab} (hl : a.rows.length = 16) {i : Nat} (hi : i < 16) : (mergeT a b).at i = newerE (a.at i) (b.at i) := mergeK_got hl 16 i (Nat.le_refl _) hi
theorem merge_len {a b : Tab} (hl : a.rows.length = 16) : (mergeT a b).rows.length = 16 := by show (mergeK a b 16).rows.length = 16; rw [mergeK_len]; exact hl
theorem merge_self {a : Tab} (hl : a.rows.length = 16) : mergeT a a = a := by
  refine tab_ext (merge_len hl) hl (by show minMax true a.ver a.ver = a.ver; unfold minMax; simp) fun i hi => ?_
  rw [merge_at hl hi]
  unfold newerE; simp
theorem merge_again {a b : Tab} (ha : a.rows.length = 16) (hb : b.rows.length = 16) : mergeT (mergeT a b) b = mergeT a b := by
  refine tab_ext (merge_len (merge_len ha)) (merge_len ha) ?_ fun i hi => ?_
  · show minMax true (minMax true a.ver b.ver) b.ver = minMax true a.ver b.ver
    unfold minMax; simp only; repeat' split
    all_goals omega
  · rw [merge_at (merge_len ha) hi, merge_at ha hi]
    unfold newerE
    by_cases h : (a.at i).gen < (b.at i).gen
    · rw [if_pos h, if_neg (by omega)]
    · rw [if_neg h, if_neg h]
theorem merge_ok {a b : Tab} (hl : a.rows.length = 16) (h1 : okTab a) (h2 : okTab b) : okTab (mergeT a b) := by
  refine ⟨?_, fun i hi => ?_⟩
  · show 0 ≤ minMax true a.ver b.ver ∧ minMax true a.ver b.ver ≤ 1099511627776
    have := h1.1
    have := h2.1
    unfold minMax; simp only; split <;> omega
  · rw [merge_at hl hi]
    unfold newerE
    split
    · exact h2.2 i hi
    · exact h1.2 i hi
theorem merge_wf {a b : Tab} (ha : a.Wf) (hb : b.Wf) : (mergeT a b).Wf := by
  have hl := merge_len (b := b) ha.len
  have hv : (mergeT a b).ver = minMax true a.ver b.ver := rfl
  have hat := fun i hi => merge_at (b := b) ha.len (i := i) hi
  refine ⟨?_, hl, fun e he => ?_⟩
  · rw [hv]
    have := ha.ver
    have := hb.ver
    unfold minMax; simp only; split <;> assumption
  · obtain ⟨i, hi, rfl⟩ := List.getElem_of_mem he
    have e : (mergeT a b).rows[i] = (mergeT a b).at i := by simp [Tab.at, List.getD_eq_getElem?_getD, List.getElem?_eq_getElem hi]
    rw [e, hat i (by omega)]
    unfold newerE
    split
    · have h2 : i < b.rows.length := by rw [hb.len]; omega
      have : b.at i = b.rows[i] := by simp [Tab.at, List.getD_eq_getElem?_getD, List.getElem?_eq_getElem h2]
      rw [this]; exact hb.rows _ (List.getElem_mem h2)
    · have h2 : i < a.rows.length := by rw [ha.len]; omega
      have : a.at i = a.rows[i] := by simp [Tab.at, List.getD_eq_getElem?_getD, List.getElem?_eq_getElem h2]
      rw [this]; exact ha.rows _ (List.getElem_mem h2)

theorem merges_con {t u : Tab} (ht : t.Wf) (hu : u.Wf) : CallCon Try.prog 4 [tabT t, tabT u] [] (.t (.one (.v (.bool true)))) [] := by
  have hM := merge_con (b := u) ht
  have hM2 := merge_con (b := t) ht
  rw [merge_self ht.len] at hM2
  have hM3 := merge_con (b := u) (merge_wf ht hu)
  rw [merge_again ht.len hu.len] at hM3
  have hok := merge_ok (b := u) ht.len
  have hat := fun i hi => merge_at (b := u) ht.len (i := i) hi
  have hv : (mergeT t u).ver = minMax true t.ver u.ver := rfl
  have hl := merge_len (b := u) ht.len
  have hRt := reftabright_con t
  have hRu := reftabright_con u
  have hRm := tabright_con (mergeT t u)
  generalize mergeT t u = m at *
  refine con_of_call2 rfl ?_
  refine call_inline Try.func4 rfl rfl ?_
  intro _
  repeat' (refine is_call ?_; refine call_auto (hM) (lets_rfl rfl) (by exact trivial) rfl ?_; intro u; clear u)
  refine loop_ind (fun k : Nat => 16 - k) (fun k => k ≤ 16) (fun k => [(6, .t (.one (.v (.int .i64 k))))]) (fun _ => []) (fun _ => []) [] 0 0 (by omega) ?_ ?_
  · (intro u; clear u; refine ⟨rfl, rfl, EntGoal.mk ?_ ?_⟩ <;> (repeat' (first | exact trivial | (with_reducible rfl) | apply And.intro | rfl)))
  intro k hk u
  clear u
  by_cases hc : k < 16
  · by_cases hg : (t.at k).gen < (u.at k).gen
    · have hq := hat k hc
      unfold newerE at hq
      rw [if_pos hg] at hq
      repeat' (first | (refine is_split ?_; (first | (refine sp_no (by first | (show (!eqEnt (m.at k) (u.at k)) = false; rw [hq, eqEnt_iff.2 rfl]; rfl) | fail) ?_) | refine sp_yes (by exact dec_t (by omega)) ?_) <;> (intro u; clear u)) | (refine is_asked ?_; (first | (refine is_spec ?_; (with_reducible refine asked _ (sp_add (by simp only [lo, hi]; omega) (by simp only [lo, hi]; omega)) ?_)) | (refine asked _ (tab_ask t (i := k) (by omega)) ?_) | (refine asked _ (tab_ask u (i := k) (by omega)) ?_) | (refine asked _ (tab_ask m (i := k) (by omega)) ?_) | (refine asked _ (tab_gen u (i := k) (by omega)) ?_) | refine asked () (by constructor <;> omega) ?_ | refine asked () (by show heldFree Try.prog _ _ = true; decide +kernel) ?_); intro u; clear u) | (refine is_draw ?_; refine draw_step mixed (by kernel_rfl) ?_; intro u; clear u))
      refine again (k + 1) (by omega) (by omega) ?_
      (intro u; clear u; refine ⟨rfl, rfl, EntGoal.mk ?_ ?_⟩ <;> (repeat' (first | exact trivial | (with_reducible rfl) | apply And.intro | rfl)))
    · have hq := hat k hc
      unfold newerE at hq
      rw [if_neg hg] at hq
      repeat' (first | (refine is_split ?_; (first | (refine sp_no (by first | (show (!eqEnt (m.at k) (t.at k)) = false; rw [hq, eqEnt_iff.2 rfl]; rfl) | fail) ?_) | refine sp_yes (by exact dec_t (by omega)) ?_ | refine sp_no (by exact dec_f (by omega)) ?_) <;> (intro u; clear u)) | (refine is_asked ?_; (first | (refine is_spec ?_; (with_reducible refine asked _ (sp_add (by simp only [lo, hi]; omega) (by simp only [lo, hi]; omega)) ?_)) | (refine asked _ (tab_ask t (i := k) (by omega)) ?_) | (refine asked _ (tab_ask m (i := k) (by omega)) ?_) | (refine asked _ (tab_gen u (i := k) (by omega)) ?_) | refine asked () (by constructor <;> omega) ?_ | refine asked () (by show heldFree Try.prog _ _ = true; decide +kernel) ?_); intro u; clear u) | (refine is_draw ?_; refine draw_step mixed (by kernel_rfl) ?_; intro u; clear u))
      refine again (k + 1) (by omega) (by omega) ?_
      (intro u; clear u; refine ⟨rfl, rfl, EntGoal.mk ?_ ?_⟩ <;> (repeat' (first | exact trivial | (with_reducible rfl) | apply And.intro | rfl)))
  obtain rfl : k = 16 := by omega
  by_cases k1 : okTab t
  rotate_left
  · have hRt2 := con_no hRt k1
    repeat' (first | (refine is_split ?_; (first | (refine sp_no (by first | (show (!eqTab t t) = false; rw [(eqTab_iff ht.len ht.len).2 rfl]; rfl) | (show (!eqTab m m) = false; rw [(eqTab_iff hl hl).2 rfl]; rfl) | fail) ?_) | refine sp_no (by (first | rfl | exact ndec_f (by omega))) ?_) <;> (intro u; clear u)) | (refine is_asked ?_; refine asked () (by show heldFree Try.prog _ _ = true; decide +kernel) ?_; intro u; clear u) | (refine is_draw ?_; refine draw_step mixed (by kernel_rfl) ?_; intro u; clear u) | (refine is_call ?_; (first | refine call_auto (wakes_con) (lets_rfl rfl) (by exact trivial) rfl ?_ | refine call_auto (hRt2) (lets_rfl rfl) (by exact trivial) rfl ?_); intro u; clear u) | (refine is_dcall ?_; (first | refine dcall_auto (hM2) (lets_rfl rfl) (by exact trivial) rfl ?_ | refine dcall_auto (hM3) (lets_rfl rfl) (by exact trivial) rfl ?_); intro u; clear u))
    (refine con_end ?_ rfl; intro u; clear u; refine ⟨rfl, rfl, EntGoal.mk ?_ ?_⟩ <;> (repeat' (first | exact trivial | (with_reducible rfl) | apply And.intro | rfl)))
  have hRt2 := con_yes hRt k1
  by_cases k2 : okTab u
  rotate_left
  · have hRu2 := con_no hRu k2
    repeat' (first | (refine is_split ?_; (first | (refine sp_no (by first | (show (!eqTab t t) = false; rw [(eqTab_iff ht.len ht.len).2 rfl]; rfl) | (show (!eqTab m m) = false; rw [(eqTab_iff hl hl).2 rfl]; rfl) | fail) ?_) | refine sp_no (by (first | rfl | exact ndec_f (by omega))) ?_) <;> (intro u; clear u)) | (refine is_asked ?_; refine asked () (by show heldFree Try.prog _ _ = true; decide +kernel) ?_; intro u; clear u) | (refine is_draw ?_; refine draw_step mixed (by kernel_rfl) ?_; intro u; clear u) | (refine is_call ?_; (first | refine call_auto (wakes_con) (lets_rfl rfl) (by exact trivial) rfl ?_ | refine call_auto (hRt2) (lets_rfl rfl) (by exact trivial) rfl ?_ | refine call_auto (hRu2) (lets_rfl rfl) (by exact trivial) rfl ?_); intro u; clear u) | (refine is_dcall ?_; (first | refine dcall_auto (hM2) (lets_rfl rfl) (by exact trivial) rfl ?_ | refine dcall_auto (hM3) (lets_rfl rfl) (by exact trivial) rfl ?_); intro u; clear u))
    (refine con_end ?_ rfl; intro u; clear u; refine ⟨rfl, rfl, EntGoal.mk ?_ ?_⟩ <;> (repeat' (first | exact trivial | (with_reducible rfl) | apply And.intro | rfl)))
  have hRu2 := con_yes hRu k2
  have hRm2 := con_yes hRm (hok k1 k2)
  repeat' (first | (refine is_split ?_; (first | (refine sp_no (by first | (show (!eqTab t t) = false; rw [(eqTab_iff ht.len ht.len).2 rfl]; rfl) | (show (!eqTab m m) = false; rw [(eqTab_iff hl hl).2 rfl]; rfl) | fail) ?_) | refine sp_no (by (first | rfl | exact ndec_f (by omega))) ?_) <;> (intro u; clear u)) | (refine is_asked ?_; refine asked () (by show heldFree Try.prog _ _ = true; decide +kernel) ?_; intro u; clear u) | (refine is_draw ?_; refine draw_step mixed (by kernel_rfl) ?_; intro u; clear u) | (refine is_call ?_; (first | refine call_auto (wakes_con) (lets_rfl rfl) (by exact trivial) rfl ?_ | refine call_auto (hRt2) (lets_rfl rfl) (by exact trivial) rfl ?_ | refine call_auto (hRu2) (lets_rfl rfl) (by exact trivial) rfl ?_ | refine call_auto (hRm2) (lets_rfl rfl) (by exact trivial) rfl ?_); intro u; clear u) | (refine is_dcall ?_; (first | refine dcall_auto (hM2) (lets_rfl rfl) (by exact trivial) rfl ?_ | refine dcall_auto (hM3) (lets_rfl rfl) (by exact trivial) rfl ?_); intro u; clear u))
  (refine con_end ?_ rfl; intro u; clear u; refine ⟨rfl, rfl, EntGoal.mk ?_ ?_⟩ <;> (repeat' (first | exact trivial | (with_reducible rfl) | apply And.intro | rfl)))
