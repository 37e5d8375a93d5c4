/- Contracts of functions of the program, or a row of the seat, proved out of them. No condition beyond those that stand in each statement. -/
import Derived.Test.YtddagjjnojlojaaS11gC
namespace Go.Proofs.S11
open Go Go.SE
set_option maxRecDepth 100000
set_option maxHeartbeats 4000000
attribute [local irreducible] specI

def okSet (t : Tab) (b : Int) (e : Ent) : Prop := (0 ≤ b ∧ b < 16) ∧ okTab t ∧ t.ver < 1099511627776 ∧ okE e ∧ (t.at b.toNat).gen < e.gen
instance (t : Tab) (b : Int) (e : Ent) : Decidable (okSet t b e) := by unfold okSet; infer_instance
def setT (t : Tab) (b : Int) (e : Ent) : Tab := if okSet t b e then ⟨t.ver + 1, t.rows.set b.toNat e⟩ else zeroTab
def setE (t : Tab) (b : Int) (e : Ent) : Int := if okSet t b e then 0 else 2

theorem refnewer_con (a b : Ent) : CallCon Try.prog 74 [entT a, entT b] [] (.t (.one (.b (b.gen < a.gen)))) [] := by
  refine con_of_call2 rfl ?_
  refine call_inline Try.func74 rfl rfl ?_
  intro _
  repeat' fail
  (refine con_end ?_ rfl; intro u; clear u; refine ⟨rfl, rfl, EntGoal.mk ?_ ?_⟩ <;> (repeat' (first | exact trivial | (with_reducible rfl) | apply And.intro | rfl)))
theorem refset_con {t : Tab} (hl : t.rows.length = 16) (b : Int) (e : Ent) : CallCon Try.prog 64 [tabT t, .one (.v (.int .i64 b)), entT e] [] (.tup [tabT (setT t b e), .one (.v (.int .i64 (setE t b e)))]) [] := by
  have hR := reftabright_con t
  have hE := refright_con e
  by_cases hok : okSet t b e
  · rw [show setT t b e = ⟨t.ver + 1, t.rows.set b.toNat e⟩ by unfold setT; rw [if_pos hok], show setE t b e = 0 by unfold setE; rw [if_pos hok]]
    obtain ⟨h1, h2, h3, h4, h5⟩ := hok
    have hN := con_yes (refnewer_con e (t.at b.toNat)) h5
    have hR2 := con_yes hR h2
    have hE2 := con_yes hE h4
    have hv := h2.1
    have hv2 : (t.set b.toNat e).ver = t.ver := rfl
    refine con_of_call2 rfl ?_
    refine call_inline Try.func64 rfl rfl ?_
    intro _
    repeat' (first | (refine is_split ?_; refine sp_no (by exact dec_f (by omega)) ?_ <;> (intro u; clear u)) | (refine is_asked ?_; (first | (refine is_spec ?_; (with_reducible refine asked _ (sp_add (by simp only [lo, hi]; omega) (by simp only [lo, hi]; omega)) ?_)) | (refine asked _ (tab_ask t (by omega)) ?_) | (refine asked _ (tab_put hl (i := b.toNat) e (by omega)) ?_) | refine asked () ⟨by omega, by omega⟩ ?_); intro u; clear u) | (refine is_draw ?_; refine draw_step mixed (by kernel_rfl) ?_; intro u; clear u) | (refine is_dcall ?_; (first | refine dcall_auto (hR2) (lets_rfl rfl) (by exact trivial) rfl ?_ | refine dcall_auto (hE2) (lets_rfl rfl) (by exact trivial) rfl ?_ | refine dcall_auto (hN) (lets_rfl rfl) (by exact trivial) rfl ?_); intro u; clear u))
    all_goals (refine con_end ?_ rfl; intro u; clear u; refine ⟨rfl, rfl, EntGoal.mk ?_ ?_⟩ <;> (repeat' (first | exact trivial | (with_reducible rfl) | apply And.intro | rfl)))
  · rw [show setT t b e = zeroTab by unfold setT; rw [if_neg hok], show setE t b e = 2 by unfold setE; rw [if_neg hok]]
    by_cases h2 : okTab t
    rotate_left
    · have hR2 := con_no hR h2
      refine con_of_call2 rfl ?_
      refine call_inline Try.func64 rfl rfl ?_
      intro _
      repeat' (first | (refine is_draw ?_; refine draw_step mixed (by kernel_rfl) ?_; intro u; clear u) | (refine is_dcall ?_; refine dcall_auto (hR2) (lets_rfl rfl) (by exact trivial) rfl ?_; intro u; clear u))
      all_goals (refine con_end ?_ rfl; intro u; clear u; refine ⟨rfl, rfl, EntGoal.mk ?_ ?_⟩ <;> (repeat' (first | exact trivial | (with_reducible rfl) | apply And.intro | rfl)))
    have hR2 := con_yes hR h2
    have hv := h2.1
    by_cases h4 : okE e
    rotate_left
    · have hE2 := con_no hE h4
      refine con_of_call2 rfl ?_
      refine call_inline Try.func64 rfl rfl ?_
      intro _
      repeat' (first | (refine is_draw ?_; refine draw_step mixed (by kernel_rfl) ?_; intro u; clear u) | (refine is_dcall ?_; (first | refine dcall_auto (hR2) (lets_rfl rfl) (by exact trivial) rfl ?_ | refine dcall_auto (hE2) (lets_rfl rfl) (by exact trivial) rfl ?_); intro u; clear u))
      all_goals (refine con_end ?_ rfl; intro u; clear u; refine ⟨rfl, rfl, EntGoal.mk ?_ ?_⟩ <;> (repeat' (first | exact trivial | (with_reducible rfl) | apply And.intro | rfl)))
    have hE2 := con_yes hE h4
    by_cases h1 : 0 ≤ b ∧ b < 16
    rotate_left
    · refine con_of_call2 rfl ?_
      refine call_inline Try.func64 rfl rfl ?_
      intro _
      repeat' (first | (refine is_split ?_; (first | refine sp_yes (by exact dec_t (by omega)) ?_ | refine sp_dec (fun g => ?_) (fun g => ?_)) <;> (intro u; clear u)) | (refine is_draw ?_; refine draw_step mixed (by kernel_rfl) ?_; intro u; clear u) | (refine is_dcall ?_; (first | refine dcall_auto (hR2) (lets_rfl rfl) (by exact trivial) rfl ?_ | refine dcall_auto (hE2) (lets_rfl rfl) (by exact trivial) rfl ?_); intro u; clear u))
      all_goals (refine con_end ?_ rfl; intro u; clear u; refine ⟨rfl, rfl, EntGoal.mk ?_ ?_⟩ <;> (repeat' (first | exact trivial | (with_reducible rfl) | apply And.intro | rfl)))
    by_cases h3 : t.ver < 1099511627776
    rotate_left
    · refine con_of_call2 rfl ?_
      refine call_inline Try.func64 rfl rfl ?_
      intro _
      repeat' (first | (refine is_split ?_; (first | refine sp_yes (by exact dec_t (by omega)) ?_ | refine sp_no (by exact dec_f (by omega)) ?_) <;> (intro u; clear u)) | (refine is_draw ?_; refine draw_step mixed (by kernel_rfl) ?_; intro u; clear u) | (refine is_dcall ?_; (first | refine dcall_auto (hR2) (lets_rfl rfl) (by exact trivial) rfl ?_ | refine dcall_auto (hE2) (lets_rfl rfl) (by exact trivial) rfl ?_); intro u; clear u))
      all_goals (refine con_end ?_ rfl; intro u; clear u; refine ⟨rfl, rfl, EntGoal.mk ?_ ?_⟩ <;> (repeat' (first | exact trivial | (with_reducible rfl) | apply And.intro | rfl)))
    have h5 : ¬ (t.at b.toNat).gen < e.gen := fun h5 => hok ⟨h1, h2, h3, h4, h5⟩
    have hN := con_no (refnewer_con e (t.at b.toNat)) h5
    refine con_of_call2 rfl ?_
    refine call_inline Try.func64 rfl rfl ?_
    intro _
    repeat' (first | (refine is_split ?_; refine sp_no (by exact dec_f (by omega)) ?_ <;> (intro u; clear u)) | (refine is_asked ?_; (first | (refine asked _ (tab_ask t (by omega)) ?_) | refine asked () ⟨by omega, by omega⟩ ?_); intro u; clear u) | (refine is_draw ?_; refine draw_step mixed (by kernel_rfl) ?_; intro u; clear u) | (refine is_dcall ?_; (first | refine dcall_auto (hR2) (lets_rfl rfl) (by exact trivial) rfl ?_ | refine dcall_auto (hE2) (lets_rfl rfl) (by exact trivial) rfl ?_ | refine dcall_auto (hN) (lets_rfl rfl) (by exact trivial) rfl ?_); intro u; clear u))
    all_goals (refine con_end ?_ rfl; intro u; clear u; refine ⟨rfl, rfl, EntGoal.mk ?_ ?_⟩ <;> (repeat' (first | exact trivial | (with_reducible rfl) | apply And.intro | rfl)))
end Go.Proofs.S11
