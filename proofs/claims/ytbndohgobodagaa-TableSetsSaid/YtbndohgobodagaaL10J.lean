/- Contracts of functions of the program, or a row of the seat, proved out of them. No condition beyond those that stand in each statement. -/
import Derived.Test.YtbndohgobodagaaL10I
namespace Go.Proofs.L10
open Go Go.SE
set_option maxRecDepth 100000
set_option maxHeartbeats 4000000
attribute [local irreducible] specI

theorem at_mk (v : Int) (t : Tab) (b : Nat) (e : Ent) (i : Nat) : (Tab.mk v (t.rows.set b e)).at i = (t.set b e).at i := rfl
theorem set_ok {t : Tab} {b : Int} {x : Ent} (hl : t.rows.length = 16) (h : okSet t b x) : okTab ⟨t.ver + 1, t.rows.set b.toNat x⟩ := by
  obtain ⟨h1, h2, h3, h4, h5⟩ := h
  refine ⟨by have := h2.1; show 0 ≤ t.ver + 1 ∧ t.ver + 1 ≤ 1099511627776; omega, fun i hi => ?_⟩
  rw [at_mk]
  by_cases e : b.toNat = i
  · subst e; rw [set_at_eq (by omega)]; exact h4
  · rw [set_at_ne e]; exact h2.2 i hi
theorem set_back {t : Tab} {b : Nat} {x : Ent} (hb : b < t.rows.length) : (t.rows.set b x).set b (t.at b) = t.rows := by
  rw [List.set_set]
  apply List.ext_getElem (by simp)
  intro i h1 h2
  rw [List.getElem_set]
  split
  · rename_i e; subst e; simp [Tab.at, List.getD_eq_getElem?_getD, List.getElem?_eq_getElem hb]
  · rfl

def clamp (b : Int) : Int := minMax true (minMax false b 15) 0
theorem clamp_bd (b : Int) : 0 ≤ clamp b ∧ clamp b < 16 := by unfold clamp minMax; simp only; split <;> split <;> omega
theorem clamp_in {b : Int} (h : 0 ≤ b ∧ b < 16) : clamp b = b := by unfold clamp minMax; simp only; split <;> split <;> omega
theorem sets_con {t : Tab} {b : Int} {x : Ent} (ht : t.Wf) (hx : x.Wf) (hb : isI b) : CallCon Try.prog 3 [tabT t, .one (.v (.int .i64 b)), entT x] [] (.t (.one (.v (.bool true)))) [] := by
  have hS := set_con ht b x
  have hR := reftabright_con t
  have hE := refright_con x
  have hl := ht.len
  by_cases hok : okSet t b x
  · rw [show setT t b x = ⟨t.ver + 1, t.rows.set b.toNat x⟩ by unfold setT; rw [if_pos hok], show setE t b x = 0 by unfold setE; rw [if_pos hok]] at hS
    have hA := con_yes (reftabright_con ⟨t.ver + 1, t.rows.set b.toNat x⟩) (set_ok hl hok)
    obtain ⟨h1, h2, h3, h4, h5⟩ := hok
    have hv := h2.1
    have hb2 := set_back (t := t) (b := b.toNat) (x := x) (by omega)
    have hat : (Tab.mk (t.ver + 1) (t.rows.set b.toNat x)).at b.toNat = x := by rw [at_mk, set_at_eq (by omega)]
    have hal : (Tab.mk (t.ver + 1) (t.rows.set b.toNat x)).rows.length = 16 := by simp [hl]
    have hav : (Tab.mk (t.ver + 1) (t.rows.set b.toNat x)).ver = t.ver + 1 := rfl
    have hset : (Tab.mk (t.ver + 1) (t.rows.set b.toNat x)).set b.toNat (t.at b.toNat) = ⟨t.ver + 1, t.rows⟩ := by unfold Tab.set; simp only [hb2]
    generalize Tab.mk (t.ver + 1) (t.rows.set b.toNat x) = A at *
    have hq := tab_ask A (a := 0 + 1) (i := b.toNat) (n := Try.prog.cellsOf 23) (by omega)
    rw [hat] at hq
    have hp := tab_put hal (a := 0 + 1) (i := b.toNat) (n := Try.prog.cellsOf 23) (t.at b.toNat) (by omega)
    rw [hset] at hp
    refine con_of_call2 rfl ?_
    refine call_inline Try.func3 rfl rfl ?_
    intro _
    repeat' (first | (refine is_split ?_; (first | (refine sp_yes (show eqTab t t = true from (eqTab_iff hl hl).2 rfl) ?_) | refine sp_no (by (first | rfl | exact dec_f (by omega) | exact ndec_f (by omega))) ?_ | (refine sp_no ?_ ?_; focus (first | (simp; done) | (simp; omega)))) <;> (intro u; clear u)) | (refine is_asked ?_; (first | (refine is_spec ?_; (with_reducible refine asked _ (sp_add (by simp only [lo, hi]; omega) (by simp only [lo, hi]; omega)) ?_)) | (refine asked _ hq ?_) | (refine asked _ hp ?_) | (refine asked _ (tab_ask t (i := b.toNat) (by omega)) ?_) | (refine asked _ (tab_gen t (i := b.toNat) (by omega)) ?_) | refine asked () (by constructor <;> omega) ?_ | refine asked () (by show heldFree Try.prog _ _ = true; decide +kernel) ?_); intro u; clear u) | (refine is_draw ?_; refine draw_step mixed (by kernel_rfl) ?_; intro u; clear u) | (refine is_call ?_; (first | refine call_auto (wakes_con) (lets_rfl rfl) (by exact trivial) rfl ?_ | refine call_auto (hS) (lets_rfl rfl) (by exact trivial) rfl ?_); intro u; clear u) | (refine is_dcall ?_; refine dcall_auto (hA) (lets_rfl rfl) (by exact trivial) rfl ?_; intro u; clear u))
    all_goals (refine con_end ?_ rfl; intro u; clear u; refine ⟨rfl, rfl, EntGoal.mk ?_ ?_⟩ <;> (repeat' (first | exact trivial | (with_reducible rfl) | apply And.intro | rfl)))
  · rw [show setT t b x = zeroTab by unfold setT; rw [if_neg hok], show setE t b x = 2 by unfold setE; rw [if_neg hok]] at hS
    have hcl := clamp_bd b
    by_cases k1 : okTab t
    rotate_left
    · have hR2 := con_no hR k1
      refine con_of_call2 rfl ?_
      refine call_inline Try.func3 rfl rfl ?_
      intro _
      repeat' (first | (refine is_split ?_; refine sp_yes (by rfl) ?_ <;> (intro u; clear u)) | (refine is_asked ?_; refine asked () (by show heldFree Try.prog _ _ = true; decide +kernel) ?_; intro u; clear u) | (refine is_draw ?_; refine draw_step mixed (by kernel_rfl) ?_; intro u; clear u) | (refine is_call ?_; (first | refine call_auto (hS) (lets_rfl rfl) (by exact trivial) rfl ?_ | refine call_auto (hR2) (lets_rfl rfl) (by exact trivial) rfl ?_); intro u; clear u) | (refine is_dcall ?_; refine dcall_auto (wakes_con) (lets_rfl rfl) (by exact trivial) rfl ?_; intro u; clear u))
      all_goals (refine con_end ?_ rfl; intro u; clear u; refine ⟨rfl, rfl, EntGoal.mk ?_ ?_⟩ <;> (repeat' (first | exact trivial | (with_reducible rfl) | apply And.intro | rfl)))
    have hR2 := con_yes hR k1
    by_cases k2 : okE x
    rotate_left
    · have hE2 := con_no hE k2
      refine con_of_call2 rfl ?_
      refine call_inline Try.func3 rfl rfl ?_
      intro _
      repeat' (first | (refine is_split ?_; refine sp_yes (by rfl) ?_ <;> (intro u; clear u)) | (refine is_asked ?_; refine asked () (by show heldFree Try.prog _ _ = true; decide +kernel) ?_; intro u; clear u) | (refine is_draw ?_; refine draw_step mixed (by kernel_rfl) ?_; intro u; clear u) | (refine is_call ?_; (first | refine call_auto (hS) (lets_rfl rfl) (by exact trivial) rfl ?_ | refine call_auto (hR2) (lets_rfl rfl) (by exact trivial) rfl ?_ | refine call_auto (hE2) (lets_rfl rfl) (by exact trivial) rfl ?_); intro u; clear u) | (refine is_dcall ?_; refine dcall_auto (wakes_con) (lets_rfl rfl) (by exact trivial) rfl ?_; intro u; clear u))
      all_goals (refine con_end ?_ rfl; intro u; clear u; refine ⟨rfl, rfl, EntGoal.mk ?_ ?_⟩ <;> (repeat' (first | exact trivial | (with_reducible rfl) | apply And.intro | rfl)))
    have hE2 := con_yes hE k2
    by_cases k3 : (0 ≤ b ∧ b < 16) ∧ t.ver < 1099511627776
    rotate_left
    · refine con_of_call2 rfl ?_
      refine call_inline Try.func3 rfl rfl ?_
      intro _
      repeat' (first | (refine is_split ?_; (first | refine sp_yes (by rfl) ?_ | refine sp_no (by exact dec_f (by omega)) ?_ | refine sp_dec (fun g => ?_) (fun g => ?_)) <;> (intro u; clear u)) | (refine is_asked ?_; refine asked () (by show heldFree Try.prog _ _ = true; decide +kernel) ?_; intro u; clear u) | (refine is_draw ?_; refine draw_step mixed (by kernel_rfl) ?_; intro u; clear u) | (refine is_call ?_; (first | refine call_auto (hS) (lets_rfl rfl) (by exact trivial) rfl ?_ | refine call_auto (hR2) (lets_rfl rfl) (by exact trivial) rfl ?_ | refine call_auto (hE2) (lets_rfl rfl) (by exact trivial) rfl ?_); intro u; clear u) | (refine is_dcall ?_; refine dcall_auto (wakes_con) (lets_rfl rfl) (by exact trivial) rfl ?_; intro u; clear u))
      all_goals (refine con_end ?_ rfl; intro u; clear u; refine ⟨rfl, rfl, EntGoal.mk ?_ ?_⟩ <;> (repeat' (first | exact trivial | (with_reducible rfl) | apply And.intro | rfl)))
    have k4 : x.gen ≤ (t.at b.toNat).gen := by
      rcases Int.lt_or_le (t.at b.toNat).gen x.gen with h | h
      · exact absurd ⟨k3.1, k1, k3.2, k2, h⟩ hok
      · exact h
    have hci := clamp_in k3.1
    unfold clamp at hci
    refine con_of_call2 rfl ?_
    refine call_inline Try.func3 rfl rfl ?_
    intro _
    repeat' (first | (refine is_split ?_; refine sp_yes (by (first | rfl | exact dec_t (by omega))) ?_ <;> (intro u; clear u)) | (refine is_asked ?_; (first | (refine asked () (by rw [hci]; exact k3.1) ?_) | (refine asked _ (by rw [hci]; exact tab_gen t (i := b.toNat) (by omega)) ?_) | refine asked () (by show heldFree Try.prog _ _ = true; decide +kernel) ?_); intro u; clear u) | (refine is_draw ?_; refine draw_step mixed (by kernel_rfl) ?_; intro u; clear u) | (refine is_call ?_; (first | refine call_auto (hS) (lets_rfl rfl) (by exact trivial) rfl ?_ | refine call_auto (hR2) (lets_rfl rfl) (by exact trivial) rfl ?_ | refine call_auto (hE2) (lets_rfl rfl) (by exact trivial) rfl ?_); intro u; clear u) | (refine is_dcall ?_; refine dcall_auto (wakes_con) (lets_rfl rfl) (by exact trivial) rfl ?_; intro u; clear u))
    all_goals (refine con_end ?_ rfl; intro u; clear u; refine ⟨rfl, rfl, EntGoal.mk ?_ ?_⟩ <;> (repeat' (first | exact trivial | (with_reducible rfl) | apply And.intro | rfl)))
