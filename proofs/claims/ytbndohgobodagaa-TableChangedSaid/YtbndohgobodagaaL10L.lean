/- Contracts of functions of the program, or a row of the seat, proved out of them. No condition beyond those that stand in each statement. -/
import Derived.Test.YtbndohgobodagaaL10I
namespace Go.Proofs.L10
open Go Go.SE
set_option maxRecDepth 100000
set_option maxHeartbeats 4000000
attribute [local irreducible] specI

theorem pickK_pre (so : Nat → Bool) : ∀ m k, k ≤ m → pickK so k <+: pickK so m
  | 0, k, h => by obtain rfl : k = 0 := (by omega); exact List.prefix_refl _
  | m + 1, k, h => by
    by_cases e : k = m + 1
    · subst e; exact List.prefix_refl _
    · have ih := pickK_pre so m k (by omega)
      show pickK so k <+: bif so m then pickK so m ++ [(m : Int)] else pickK so m
      cases so m
      · exact ih
      · exact ih.trans (List.prefix_append _ _)
theorem pickK_hit {so : Nat → Bool} {m k : Nat} (hk : k < m) (h : so k = true) : (pickK so k).length < (pickK so m).length ∧ (pickK so m).getD (pickK so k).length 0 = (k : Int) := by
  obtain ⟨r, hr⟩ := pickK_pre so m (k + 1) (by omega)
  rw [← pickK_yes (so := so) (k := k) rfl h] at hr
  rw [← hr]
  constructor
  · simp
  · rw [List.append_assoc, List.getD_eq_getElem?_getD, List.getElem?_append_right (Nat.le_refl _), Nat.sub_self]; rfl
theorem pickK_up {so : Nat → Bool} {k : Nat} (h : so k = true) : (pickK so (k + 1)).length = (pickK so k).length + 1 := by
  rw [← pickK_yes (so := so) (k := k) rfl h]; simp
theorem pickK_as {so : Nat → Bool} {k : Nat} (h : so k = false) : (pickK so (k + 1)).length = (pickK so k).length := by
  rw [← pickK_no (so := so) (k := k) rfl h]
theorem eqEnt_comm (a b : Ent) : eqEnt a b = eqEnt b a := by
  rw [Bool.eq_iff_iff, eqEnt_iff, eqEnt_iff]; exact eq_comm
theorem changed_comm (t u : Tab) : changedL u t = changedL t u := by
  unfold changedL
  congr 1
  funext i
  rw [eqEnt_comm]

theorem tabchanged_con {t u : Tab} {b : Int} (ht : t.Wf) (hu : u.Wf) (hb : isI b) : CallCon Try.prog 6 [tabT t, tabT u, .one (.v (.int .i64 b))] [] (.t (.one (.v (.bool true)))) [] := by
  have hC := changed_con t u
  have hC2 := changed_con u t
  rw [changed_comm] at hC2
  have hrow := row_con t b
  have hll := pickK_len (fun i => !eqEnt (t.at i) (u.at i)) 16
  change (changedL t u).length ≤ 16 at hll
  have hI := con_yes (ints_con (l := changedL t u) (r := changedL t u) (by omega) (by omega)) rfl
  have hhit := fun k hk h => pickK_hit (so := fun i => !eqEnt (t.at i) (u.at i)) (m := 16) (k := k) hk h
  have hup := fun k h => pickK_up (so := fun i => !eqEnt (t.at i) (u.at i)) (k := k) h
  have has := fun k h => pickK_as (so := fun i => !eqEnt (t.at i) (u.at i)) (k := k) h
  change ∀ k, k < 16 → _ → _ < (changedL t u).length ∧ (changedL t u).getD _ 0 = _ at hhit
  have h0 : (pickK (fun i => !eqEnt (t.at i) (u.at i)) 0).length = 0 := rfl
  have h16 : (pickK (fun i => !eqEnt (t.at i) (u.at i)) 16).length = (changedL t u).length := rfl
  have hle := fun k => pickK_len (fun i => !eqEnt (t.at i) (u.at i)) k
  generalize changedL t u = L at *
  obtain ⟨f, hf⟩ : ∃ f : Nat → Nat, f = fun k => (pickK (fun i => !eqEnt (t.at i) (u.at i)) k).length := ⟨_, rfl⟩
  have hff : ∀ k, (pickK (fun i => !eqEnt (t.at i) (u.at i)) k).length = f k := fun k => by rw [hf]
  simp only [hff] at hhit hup has h0 h16 hle
  clear hf hff
  refine con_of_call2 rfl ?_
  refine call_inline Try.func6 rfl rfl ?_
  intro _
  repeat' (refine is_call ?_; refine call_auto (hC) (lets_rfl rfl) (by exact trivial) rfl ?_; intro u; clear u)
  refine loop_ind (ι := Nat × Nat) (fun | (k, _) => 16 - k) (fun | (k, n) => k ≤ 16 ∧ n = f k) (fun | (k, n) => [(9, .t (.one (.v (.int .i64 k)))), (8, .t (.one (.v (.int .i64 n))))]) (fun _ => []) (fun _ => []) [] 0 (0, 0) ⟨by omega, h0.symm⟩ ?_ ?_
  · (intro u; clear u; refine ⟨rfl, rfl, EntGoal.mk ?_ ?_⟩ <;> (repeat' (first | exact trivial | (with_reducible rfl) | apply And.intro | rfl)))
  rintro ⟨k, n⟩ ⟨hk, hn⟩ x
  clear x
  by_cases hc : k < 16
  · by_cases hq : eqEnt (t.at k) (u.at k) = true
    · have hs := has k (by rw [hq]; rfl)
      repeat' (first | (refine is_split ?_; (first | (refine sp_yes hq ?_) | refine sp_yes (by exact dec_t (by omega)) ?_) <;> (intro u; clear u)) | (refine is_asked ?_; (first | (refine is_spec ?_; (with_reducible refine asked _ (sp_add (by simp only [lo, hi]; omega) (by simp only [lo, hi]; omega)) ?_)) | (refine asked _ (tab_ask t (i := k) (by omega)) ?_) | (refine asked _ (tab_ask u (i := k) (by omega)) ?_) | refine asked () (by constructor <;> omega) ?_ | refine asked () (by show heldFree Try.prog _ _ = true; decide +kernel) ?_); intro u; clear u) | (refine is_draw ?_; refine draw_step mixed (by kernel_rfl) ?_; intro u; clear u))
      refine again (k + 1, n) ⟨by omega, by omega⟩ (by show 16 - (k + 1) < 16 - k; omega) ?_
      (intro u; clear u; refine ⟨rfl, rfl, EntGoal.mk ?_ ?_⟩ <;> (repeat' (first | exact trivial | (with_reducible rfl) | apply And.intro | rfl)))
    · have hq2 := Bool.eq_false_iff.2 hq
      have hs := hup k (by rw [hq2]; rfl)
      obtain ⟨g1, g2⟩ := hhit k hc (by rw [hq2]; rfl)
      rw [← hn] at g1 g2 hs
      have hlen := hle k
      have hix := ix_eq (kd := .i64) (l := L) (p := (0 + Int.toNat (n : Int)) * 1) n (by omega) (by omega)
      rw [g2] at hix
      repeat' (first | (refine is_split ?_; (first | (refine sp_no hq2 ?_) | refine sp_yes (by exact dec_t (by omega)) ?_ | refine sp_no (by (first | exact dec_f (by omega) | exact ndec_f (by omega))) ?_) <;> (intro u; clear u)) | (refine is_asked ?_; (first | (refine is_spec ?_; (with_reducible refine asked _ (sp_add (by simp only [lo, hi]; omega) (by simp only [lo, hi]; omega)) ?_)) | (refine asked _ hix ?_) | (refine asked _ (tab_ask t (i := k) (by omega)) ?_) | (refine asked _ (tab_ask u (i := k) (by omega)) ?_) | refine asked () (by constructor <;> omega) ?_ | refine asked () (by show heldFree Try.prog _ _ = true; decide +kernel) ?_); intro u; clear u) | (refine is_draw ?_; refine draw_step mixed (by kernel_rfl) ?_; intro u; clear u))
      refine again (k + 1, n + 1) ⟨by omega, hs.symm⟩ (by show 16 - (k + 1) < 16 - k; omega) ?_
      (intro u; clear u; refine ⟨rfl, rfl, EntGoal.mk ?_ ?_⟩ <;> (repeat' (first | exact trivial | (with_reducible rfl) | apply And.intro | rfl)))
  · obtain rfl : k = 16 := by omega
    by_cases h : 0 ≤ b ∧ b < 16
    · rw [decide_eq_true h, show rowE t b = t.at b.toNat by unfold rowE; rw [if_pos h]] at hrow
      have hbt : b.toNat < 16 := by omega
      repeat' (first | (refine is_split ?_; (first | (refine sp_no (show (!eqEnt (t.at b.toNat) (t.at b.toNat)) = false by rw [eqEnt_iff.2 rfl]; rfl) ?_) | refine sp_yes (by (first | rfl | exact dec_t (by omega))) ?_ | refine sp_no (by rfl) ?_) <;> (intro u; clear u)) | (refine is_asked ?_; (first | (refine asked _ (tab_ask t (i := b.toNat) (by omega)) ?_) | refine asked () (by constructor <;> omega) ?_ | refine asked () (by show heldFree Try.prog _ _ = true; decide +kernel) ?_); intro u; clear u) | (refine is_draw ?_; refine draw_step mixed (by kernel_rfl) ?_; intro u; clear u) | (refine is_call ?_; (first | refine call_auto (wakes_con) (lets_rfl rfl) (by exact trivial) rfl ?_ | refine call_auto (hrow) (lets_rfl rfl) (by exact trivial) rfl ?_ | refine call_auto (hC2) (lets_rfl rfl) (by exact trivial) rfl ?_ | refine call_auto (hI) (lets_rfl rfl) (by exact ⟨⟨_, rfl, rfl, rfl⟩, ⟨_, rfl, rfl, rfl⟩, trivial⟩) rfl ?_); intro u; clear u))
      all_goals (refine con_end ?_ rfl; intro u; clear u; refine ⟨rfl, rfl, EntGoal.mk ?_ ?_⟩ <;> (repeat' (first | exact trivial | (with_reducible rfl) | apply And.intro | rfl)))
    · rw [decide_eq_false h, show rowE t b = zeroE by unfold rowE; rw [if_neg h]] at hrow
      repeat' (first | (refine is_split ?_; (first | refine sp_yes (by exact dec_t (by omega)) ?_ | refine sp_no (by (first | rfl | exact dec_f (by omega))) ?_ | refine sp_dec (fun g => ?_) (fun g => ?_)) <;> (intro u; clear u)) | (refine is_asked ?_; refine asked () (by show heldFree Try.prog _ _ = true; decide +kernel) ?_; intro u; clear u) | (refine is_draw ?_; refine draw_step mixed (by kernel_rfl) ?_; intro u; clear u) | (refine is_call ?_; (first | refine call_auto (wakes_con) (lets_rfl rfl) (by exact trivial) rfl ?_ | refine call_auto (hrow) (lets_rfl rfl) (by exact trivial) rfl ?_ | refine call_auto (hC2) (lets_rfl rfl) (by exact trivial) rfl ?_ | refine call_auto (hI) (lets_rfl rfl) (by exact ⟨⟨_, rfl, rfl, rfl⟩, ⟨_, rfl, rfl, rfl⟩, trivial⟩) rfl ?_); intro u; clear u))
      all_goals (refine con_end ?_ rfl; intro u; clear u; refine ⟨rfl, rfl, EntGoal.mk ?_ ?_⟩ <;> (repeat' (first | exact trivial | (with_reducible rfl) | apply And.intro | rfl)))
