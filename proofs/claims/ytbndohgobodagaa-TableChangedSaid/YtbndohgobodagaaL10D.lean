/- Contracts of functions of the program, or a row of the seat, proved out of them. No condition beyond those that stand in each statement. -/
import Derived.Test.YtbndohgobodagaaL10C
namespace Go.Proofs.L10
open Go Go.SE
set_option maxRecDepth 100000
set_option maxHeartbeats 4000000
attribute [local irreducible] specI

def okSet (t : Tab) (b : Int) (e : Ent) : Prop := (0 ≤ b ∧ b < 16) ∧ okTab t ∧ t.ver < 1099511627776 ∧ okE e ∧ (t.at b.toNat).gen < e.gen
instance (t : Tab) (b : Int) (e : Ent) : Decidable (okSet t b e) := by unfold okSet; infer_instance
def setT (t : Tab) (b : Int) (e : Ent) : Tab := if okSet t b e then ⟨t.ver + 1, t.rows.set b.toNat e⟩ else zeroTab
def setE (t : Tab) (b : Int) (e : Ent) : Int := if okSet t b e then 0 else 2
theorem set_con {t : Tab} (h : t.Wf) (b : Int) (e : Ent) : CallCon Try.prog 7 [tabT t, .one (.v (.int .i64 b)), entT e] [] (.tup [tabT (setT t b e), .one (.v (.int .i64 (setE t b e)))]) [] := by
  have hrow := row_con t b
  have hR := tabright_con t
  have hE := right_con e
  have hN := newer_con e (rowE t b)
  by_cases hok : okSet t b e
  · rw [show setT t b e = ⟨t.ver + 1, t.rows.set b.toNat e⟩ by unfold setT; rw [if_pos hok], show setE t b e = 0 by unfold setE; rw [if_pos hok]]
    obtain ⟨h1, h2, h3, h4, h5⟩ := hok
    rw [decide_eq_true h1] at hrow
    rw [decide_eq_true h2] at hR
    rw [decide_eq_true h4] at hE
    rw [show rowE t b = t.at b.toNat by unfold rowE; rw [if_pos h1]] at hrow hN
    rw [decide_eq_true h5] at hN
    have hv := h2.1
    have hl := h.len
    have hv2 : (t.set b.toNat e).ver = t.ver := rfl
    refine con_of_call2 rfl ?_
    refine call_inline Try.func7 rfl rfl ?_
    intro _
    repeat' (first | (refine is_split ?_; refine sp_no (by (first | rfl | exact dec_f (by omega))) ?_ <;> (intro u; clear u)) | (refine is_asked ?_; (first | (refine is_spec ?_; (with_reducible refine asked _ (sp_add (by simp only [lo, hi]; omega) (by simp only [lo, hi]; omega)) ?_)) | (refine asked _ (tab_put hl (i := b.toNat) e (by omega)) ?_) | refine asked () (by constructor <;> omega) ?_); intro u; clear u) | (refine is_call ?_; (first | refine call_auto (hrow) (lets_rfl rfl) (by exact trivial) rfl ?_ | refine call_auto (hR) (lets_rfl rfl) (by exact trivial) rfl ?_ | refine call_auto (hE) (lets_rfl rfl) (by exact trivial) rfl ?_ | refine call_auto (hN) (lets_rfl rfl) (by exact trivial) rfl ?_); intro u; clear u))
    all_goals (refine con_end ?_ rfl; intro u; clear u; refine ⟨rfl, rfl, EntGoal.mk ?_ ?_⟩ <;> (repeat' (first | exact trivial | (with_reducible rfl) | apply And.intro | rfl)))
  · rw [show setT t b e = zeroTab by unfold setT; rw [if_neg hok], show setE t b e = 2 by unfold setE; rw [if_neg hok]]
    by_cases h1 : 0 ≤ b ∧ b < 16
    rotate_left
    · rw [decide_eq_false h1] at hrow
      refine con_of_call2 rfl ?_
      refine call_inline Try.func7 rfl rfl ?_
      intro _
      repeat' (first | (refine is_split ?_; refine sp_yes (by rfl) ?_ <;> (intro u; clear u)) | (refine is_call ?_; refine call_auto (hrow) (lets_rfl rfl) (by exact trivial) rfl ?_; intro u; clear u))
      all_goals (refine con_end ?_ rfl; intro u; clear u; refine ⟨rfl, rfl, EntGoal.mk ?_ ?_⟩ <;> (repeat' (first | exact trivial | (with_reducible rfl) | apply And.intro | rfl)))
    rw [decide_eq_true h1] at hrow
    rw [show rowE t b = t.at b.toNat by unfold rowE; rw [if_pos h1]] at hrow hN
    by_cases h2 : okTab t
    rotate_left
    · rw [decide_eq_false h2] at hR
      refine con_of_call2 rfl ?_
      refine call_inline Try.func7 rfl rfl ?_
      intro _
      repeat' (first | (refine is_split ?_; (first | refine sp_yes (by rfl) ?_ | refine sp_no (by rfl) ?_) <;> (intro u; clear u)) | (refine is_call ?_; (first | refine call_auto (hrow) (lets_rfl rfl) (by exact trivial) rfl ?_ | refine call_auto (hR) (lets_rfl rfl) (by exact trivial) rfl ?_); intro u; clear u))
      all_goals (refine con_end ?_ rfl; intro u; clear u; refine ⟨rfl, rfl, EntGoal.mk ?_ ?_⟩ <;> (repeat' (first | exact trivial | (with_reducible rfl) | apply And.intro | rfl)))
    rw [decide_eq_true h2] at hR
    have hv := h2.1
    by_cases h3 : t.ver < 1099511627776
    rotate_left
    · refine con_of_call2 rfl ?_
      refine call_inline Try.func7 rfl rfl ?_
      intro _
      repeat' (first | (refine is_split ?_; (first | refine sp_yes (by exact dec_t (by omega)) ?_ | refine sp_no (by rfl) ?_) <;> (intro u; clear u)) | (refine is_call ?_; (first | refine call_auto (hrow) (lets_rfl rfl) (by exact trivial) rfl ?_ | refine call_auto (hR) (lets_rfl rfl) (by exact trivial) rfl ?_); intro u; clear u))
      all_goals (refine con_end ?_ rfl; intro u; clear u; refine ⟨rfl, rfl, EntGoal.mk ?_ ?_⟩ <;> (repeat' (first | exact trivial | (with_reducible rfl) | apply And.intro | rfl)))
    by_cases h4 : okE e
    rotate_left
    · rw [decide_eq_false h4] at hE
      refine con_of_call2 rfl ?_
      refine call_inline Try.func7 rfl rfl ?_
      intro _
      repeat' (first | (refine is_split ?_; (first | refine sp_yes (by rfl) ?_ | refine sp_no (by (first | rfl | exact dec_f (by omega))) ?_) <;> (intro u; clear u)) | (refine is_call ?_; (first | refine call_auto (hrow) (lets_rfl rfl) (by exact trivial) rfl ?_ | refine call_auto (hR) (lets_rfl rfl) (by exact trivial) rfl ?_ | refine call_auto (hE) (lets_rfl rfl) (by exact trivial) rfl ?_); intro u; clear u))
      all_goals (refine con_end ?_ rfl; intro u; clear u; refine ⟨rfl, rfl, EntGoal.mk ?_ ?_⟩ <;> (repeat' (first | exact trivial | (with_reducible rfl) | apply And.intro | rfl)))
    rw [decide_eq_true h4] at hE
    have h5 : ¬ (t.at b.toNat).gen < e.gen := fun h5 => hok ⟨h1, h2, h3, h4, h5⟩
    rw [decide_eq_false h5] at hN
    refine con_of_call2 rfl ?_
    refine call_inline Try.func7 rfl rfl ?_
    intro _
    repeat' (first | (refine is_split ?_; (first | refine sp_yes (by rfl) ?_ | refine sp_no (by (first | rfl | exact dec_f (by omega))) ?_) <;> (intro u; clear u)) | (refine is_call ?_; (first | refine call_auto (hrow) (lets_rfl rfl) (by exact trivial) rfl ?_ | refine call_auto (hR) (lets_rfl rfl) (by exact trivial) rfl ?_ | refine call_auto (hE) (lets_rfl rfl) (by exact trivial) rfl ?_ | refine call_auto (hN) (lets_rfl rfl) (by exact trivial) rfl ?_); intro u; clear u))
    all_goals (refine con_end ?_ rfl; intro u; clear u; refine ⟨rfl, rfl, EntGoal.mk ?_ ?_⟩ <;> (repeat' (first | exact trivial | (with_reducible rfl) | apply And.intro | rfl)))
