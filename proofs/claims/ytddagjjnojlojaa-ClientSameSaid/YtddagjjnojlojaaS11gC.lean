/- Contracts of functions of the program, or a row of the seat, proved out of them. No condition beyond those that stand in each statement. -/
import Derived.Test.YtddagjjnojlojaaS11gU
namespace Go.Proofs.S11
open Go Go.SE
set_option maxRecDepth 100000
set_option maxHeartbeats 4000000
attribute [local irreducible] specI

structure Cl where
  has : Bool
  tab : Tab
  deriving DecidableEq
def clS (c : Cl) : List S := .v (.bool c.has) :: tabS c.tab
def clT (c : Cl) : T := .agg (clS c)
def zeroCl : Cl := ⟨false, zeroTab⟩
structure Cl.Wf (c : Cl) : Prop where
  tab : c.tab.Wf
def okCl (c : Cl) : Prop := (c.has = true ∧ okTab c.tab) ∨ (c.has = false ∧ c.tab = zeroTab)
instance (c : Cl) : Decidable (okCl c) := by unfold okCl; infer_instance
def hasV (c : Cl) : Int := if c.has = true then c.tab.ver else -1
def eqCl (a b : Cl) : Bool := a.has == b.has && (eqTab a.tab b.tab && true)
theorem eqCl_iff {a b : Cl} (ha : a.tab.rows.length = 16) (hb : b.tab.rows.length = 16) : eqCl a b = true ↔ a = b := by
  unfold eqCl
  rw [Bool.and_true, Bool.and_eq_true, eqTab_iff ha hb, beq_iff_eq]
  obtain ⟨x, t⟩ := a
  obtain ⟨y, u⟩ := b
  simp

theorem newcl_con : CallCon Try.prog 43 [] [] (.t (clT zeroCl)) [] := by
  refine con_of_call2 rfl ?_
  refine call_inline Try.func43 rfl rfl ?_
  intro _
  repeat' fail
  (refine con_end ?_ rfl; intro u; clear u; refine ⟨rfl, rfl, EntGoal.mk ?_ ?_⟩ <;> (repeat' (first | exact trivial | (with_reducible rfl) | apply And.intro | rfl)))
theorem refnewcl_con : CallCon Try.prog 44 [] [] (.t (clT zeroCl)) [] := by
  refine con_of_call2 rfl ?_
  refine call_inline Try.func44 rfl rfl ?_
  intro _
  repeat' fail
  (refine con_end ?_ rfl; intro u; clear u; refine ⟨rfl, rfl, EntGoal.mk ?_ ?_⟩ <;> (repeat' (first | exact trivial | (with_reducible rfl) | apply And.intro | rfl)))
theorem has_con (c : Cl) : CallCon Try.prog 41 [clT c] [] (.t (.one (.v (.int .i64 (hasV c))))) [] := by
  obtain ⟨h, t⟩ := c
  cases h
  · refine con_of_call2 rfl ?_
    refine call_inline Try.func41 rfl rfl ?_
    intro _
    repeat' fail
    (refine con_end ?_ rfl; intro u; clear u; refine ⟨rfl, rfl, EntGoal.mk ?_ ?_⟩ <;> (repeat' (first | exact trivial | (with_reducible rfl) | apply And.intro | rfl)))
  · refine con_of_call2 rfl ?_
    refine call_inline Try.func41 rfl rfl ?_
    intro _
    repeat' fail
    (refine con_end ?_ rfl; intro u; clear u; refine ⟨rfl, rfl, EntGoal.mk ?_ ?_⟩ <;> (repeat' (first | exact trivial | (with_reducible rfl) | apply And.intro | rfl)))
theorem refhas_con (c : Cl) : CallCon Try.prog 42 [clT c] [] (.t (.one (.v (.int .i64 (hasV c))))) [] := by
  obtain ⟨h, t⟩ := c
  cases h
  · refine con_of_call2 rfl ?_
    refine call_inline Try.func42 rfl rfl ?_
    intro _
    repeat' fail
    (refine con_end ?_ rfl; intro u; clear u; refine ⟨rfl, rfl, EntGoal.mk ?_ ?_⟩ <;> (repeat' (first | exact trivial | (with_reducible rfl) | apply And.intro | rfl)))
  · refine con_of_call2 rfl ?_
    refine call_inline Try.func42 rfl rfl ?_
    intro _
    repeat' fail
    (refine con_end ?_ rfl; intro u; clear u; refine ⟨rfl, rfl, EntGoal.mk ?_ ?_⟩ <;> (repeat' (first | exact trivial | (with_reducible rfl) | apply And.intro | rfl)))
theorem zero_eq {t : Tab} (h : t.rows.length = 16) : eqTab t zeroTab = true ↔ t = zeroTab := eqTab_iff h rfl
theorem clright_con {c : Cl} (h : c.tab.rows.length = 16) : CallCon Try.prog 39 [clT c] [] (.t (.one (.b (okCl c)))) [] := by
  obtain ⟨b, t⟩ := c
  change t.rows.length = 16 at h
  have hz := zero_eq h
  cases b
  · by_cases e : t = zeroTab
    · rw [decide_eq_true (show okCl ⟨false, t⟩ from .inr ⟨rfl, e⟩)]
      have hq : (false == false && (eqTab t zeroTab && true)) = true := by rw [hz.2 e]; rfl
      refine con_of_call2 rfl ?_
      refine call_inline Try.func39 rfl rfl ?_
      intro _
      repeat' (first | (refine is_split ?_; (refine sp_yes hq ?_) <;> (intro u; clear u)) | (refine is_asked ?_; refine asked () (by show heldFree Try.prog _ _ = true; decide +kernel) ?_; intro u; clear u) | (refine is_draw ?_; refine draw_step mixed (by kernel_rfl) ?_; intro u; clear u) | (refine is_dcall ?_; refine dcall_auto (newcl_con) (lets_rfl rfl) (by exact trivial) rfl ?_; intro u; clear u))
      all_goals (refine con_end ?_ rfl; intro u; clear u; refine ⟨rfl, rfl, EntGoal.mk ?_ ?_⟩ <;> (repeat' (first | exact trivial | (with_reducible rfl) | apply And.intro | rfl)))
    · rw [decide_eq_false (show ¬ okCl ⟨false, t⟩ by rintro (⟨h1, _⟩ | ⟨_, h2⟩); (· cases h1); exact e h2)]
      have hq : (false == false && (eqTab t zeroTab && true)) = false := by rw [Bool.eq_false_iff.2 fun q => e (hz.1 q)]; rfl
      refine con_of_call2 rfl ?_
      refine call_inline Try.func39 rfl rfl ?_
      intro _
      repeat' (first | (refine is_split ?_; (refine sp_no hq ?_) <;> (intro u; clear u)) | (refine is_asked ?_; refine asked () (by show heldFree Try.prog _ _ = true; decide +kernel) ?_; intro u; clear u) | (refine is_draw ?_; refine draw_step mixed (by kernel_rfl) ?_; intro u; clear u) | (refine is_dcall ?_; refine dcall_auto (newcl_con) (lets_rfl rfl) (by exact trivial) rfl ?_; intro u; clear u))
      all_goals (refine con_end ?_ rfl; intro u; clear u; refine ⟨rfl, rfl, EntGoal.mk ?_ ?_⟩ <;> (repeat' (first | exact trivial | (with_reducible rfl) | apply And.intro | rfl)))
  · have hR := tabright_con t
    have hq : (true == false && (eqTab t zeroTab && true)) = false := rfl
    rw [show decide (okCl ⟨true, t⟩) = decide (okTab t) by rw [decide_eq_decide]; unfold okCl; simp]
    refine con_of_call2 rfl ?_
    refine call_inline Try.func39 rfl rfl ?_
    intro _
    repeat' (first | (refine is_split ?_; (refine sp_no hq ?_) <;> (intro u; clear u)) | (refine is_asked ?_; refine asked () (by show heldFree Try.prog _ _ = true; decide +kernel) ?_; intro u; clear u) | (refine is_draw ?_; refine draw_step mixed (by kernel_rfl) ?_; intro u; clear u) | (refine is_call ?_; refine call_auto (hR) (lets_rfl rfl) (by exact trivial) rfl ?_; intro u; clear u) | (refine is_dcall ?_; refine dcall_auto (newcl_con) (lets_rfl rfl) (by exact trivial) rfl ?_; intro u; clear u))
    all_goals (refine con_end ?_ rfl; intro u; clear u; refine ⟨rfl, rfl, EntGoal.mk ?_ ?_⟩ <;> (repeat' (first | exact trivial | (with_reducible rfl) | apply And.intro | rfl)))
theorem refclright_con {c : Cl} (h : c.tab.rows.length = 16) : CallCon Try.prog 40 [clT c] [] (.t (.one (.b (okCl c)))) [] := by
  obtain ⟨b, t⟩ := c
  change t.rows.length = 16 at h
  have hz := zero_eq h
  cases b
  · rw [show decide (okCl ⟨false, t⟩) = eqTab t zeroTab by
      rw [Bool.eq_iff_iff, decide_eq_true_iff, hz]; unfold okCl; simp]
    refine con_of_call2 rfl ?_
    refine call_inline Try.func40 rfl rfl ?_
    intro _
    repeat' (refine is_asked ?_; refine asked () (by show heldFree Try.prog _ _ = true; decide +kernel) ?_; intro u; clear u)
    all_goals (refine con_end ?_ rfl; intro u; clear u; refine ⟨rfl, rfl, EntGoal.mk ?_ ?_⟩ <;> (repeat' (first | exact trivial | (with_reducible rfl) | apply And.intro | rfl)))
  · have hR := reftabright_con t
    rw [show decide (okCl ⟨true, t⟩) = decide (okTab t) by rw [decide_eq_decide]; unfold okCl; simp]
    refine con_of_call2 rfl ?_
    refine call_inline Try.func40 rfl rfl ?_
    intro _
    repeat' (refine is_call ?_; refine call_auto (hR) (lets_rfl rfl) (by exact trivial) rfl ?_; intro u; clear u)
    all_goals (refine con_end ?_ rfl; intro u; clear u; refine ⟨rfl, rfl, EntGoal.mk ?_ ?_⟩ <;> (repeat' (first | exact trivial | (with_reducible rfl) | apply And.intro | rfl)))
theorem refrow_con (t : Tab) (b : Int) : CallCon Try.prog 63 [tabT t, .one (.v (.int .i64 b))] [] (.tup [entT (rowE t b), .one (.b (0 ≤ b ∧ b < 16))]) [] := by
  by_cases h : 0 ≤ b ∧ b < 16
  · rw [decide_eq_true h, show rowE t b = t.at b.toNat by unfold rowE; rw [if_pos h]]
    refine con_of_call2 rfl ?_
    refine call_inline Try.func63 rfl rfl ?_
    intro _
    repeat' (first | (refine is_split ?_; refine sp_no (by exact dec_f (by omega)) ?_ <;> (intro u; clear u)) | (refine is_asked ?_; (first | (refine asked _ (tab_ask t (by omega)) ?_) | refine asked () ⟨by omega, by omega⟩ ?_); intro u; clear u))
    all_goals (refine con_end ?_ rfl; intro u; clear u; refine ⟨rfl, rfl, EntGoal.mk ?_ ?_⟩ <;> (repeat' (first | exact trivial | (with_reducible rfl) | apply And.intro | rfl)))
  · rw [decide_eq_false h, show rowE t b = zeroE by unfold rowE; rw [if_neg h]]
    refine con_of_call2 rfl ?_
    refine call_inline Try.func63 rfl rfl ?_
    intro _
    repeat' (refine is_split ?_; (first | refine sp_yes (by exact dec_t (by omega)) ?_ | refine sp_dec (fun g => ?_) (fun g => ?_)) <;> (intro u; clear u))
    all_goals (refine con_end ?_ rfl; intro u; clear u; refine ⟨rfl, rfl, EntGoal.mk ?_ ?_⟩ <;> (repeat' (first | exact trivial | (with_reducible rfl) | apply And.intro | rfl)))
def clRowE (c : Cl) (b : Int) : Ent := if c.has = true then rowE c.tab b else zeroE
def clRowB (c : Cl) (b : Int) : Prop := c.has = true ∧ 0 ≤ b ∧ b < 16
instance (c : Cl) (b : Int) : Decidable (clRowB c b) := by unfold clRowB; infer_instance
theorem clrow_con (c : Cl) (b : Int) : CallCon Try.prog 37 [clT c, .one (.v (.int .i64 b))] [] (.tup [entT (clRowE c b), .one (.b (clRowB c b))]) [] := by
  obtain ⟨h, t⟩ := c
  cases h
  · rw [show decide (clRowB ⟨false, t⟩ b) = false by rw [decide_eq_false_iff_not]; unfold clRowB; simp]
    refine con_of_call2 rfl ?_
    refine call_inline Try.func37 rfl rfl ?_
    intro _
    repeat' fail
    all_goals (refine con_end ?_ rfl; intro u; clear u; refine ⟨rfl, rfl, EntGoal.mk ?_ ?_⟩ <;> (repeat' (first | exact trivial | (with_reducible rfl) | apply And.intro | rfl)))
  · have hr := row_con t b
    rw [show decide (clRowB ⟨true, t⟩ b) = decide (0 ≤ b ∧ b < 16) by rw [decide_eq_decide]; unfold clRowB; simp]
    refine con_of_call2 rfl ?_
    refine call_inline Try.func37 rfl rfl ?_
    intro _
    repeat' (refine is_call ?_; refine call_auto (hr) (lets_rfl rfl) (by exact trivial) rfl ?_; intro u; clear u)
    all_goals (refine con_end ?_ rfl; intro u; clear u; refine ⟨rfl, rfl, EntGoal.mk ?_ ?_⟩ <;> (repeat' (first | exact trivial | (with_reducible rfl) | apply And.intro | rfl)))
theorem refclrow_con (c : Cl) (b : Int) : CallCon Try.prog 38 [clT c, .one (.v (.int .i64 b))] [] (.tup [entT (clRowE c b), .one (.b (clRowB c b))]) [] := by
  obtain ⟨h, t⟩ := c
  cases h
  · rw [show decide (clRowB ⟨false, t⟩ b) = false by rw [decide_eq_false_iff_not]; unfold clRowB; simp]
    refine con_of_call2 rfl ?_
    refine call_inline Try.func38 rfl rfl ?_
    intro _
    repeat' fail
    all_goals (refine con_end ?_ rfl; intro u; clear u; refine ⟨rfl, rfl, EntGoal.mk ?_ ?_⟩ <;> (repeat' (first | exact trivial | (with_reducible rfl) | apply And.intro | rfl)))
  · have hr := refrow_con t b
    rw [show decide (clRowB ⟨true, t⟩ b) = decide (0 ≤ b ∧ b < 16) by rw [decide_eq_decide]; unfold clRowB; simp]
    refine con_of_call2 rfl ?_
    refine call_inline Try.func38 rfl rfl ?_
    intro _
    repeat' (refine is_call ?_; refine call_auto (hr) (lets_rfl rfl) (by exact trivial) rfl ?_; intro u; clear u)
    all_goals (refine con_end ?_ rfl; intro u; clear u; refine ⟨rfl, rfl, EntGoal.mk ?_ ?_⟩ <;> (repeat' (first | exact trivial | (with_reducible rfl) | apply And.intro | rfl)))
theorem refnone_con : CallCon Try.prog 65 [] [] (.t (entT noneE)) [] := by
  refine con_of_call2 rfl ?_
  refine call_inline Try.func65 rfl rfl ?_
  intro _
  repeat' fail
  (refine con_end ?_ rfl; intro u; clear u; refine ⟨rfl, rfl, EntGoal.mk ?_ ?_⟩ <;> (repeat' (first | exact trivial | (with_reducible rfl) | apply And.intro | rfl)))
theorem refnew_con : CallCon Try.prog 46 [] [] (.t (tabT newTab)) [] := by
  refine con_of_call2 rfl ?_
  refine call_inline Try.func46 rfl rfl ?_
  intro _
  repeat' fail
  refine loop_keep (fun k : Nat => 16 - k) (fun k => k ≤ 16) [0, 1] (fun k => [(2, .t (.one (.v (.int .i64 k))))]) (fun k => [(1, .box (tabS (newK k)) 1 26)]) (fun _ => []) [] 0 0 (by omega) ?_ ?_
  · (intro u; clear u; refine ⟨rfl, rfl, EntGoal.mk ?_ ?_⟩ <;> (repeat' (first | exact trivial | (with_reducible rfl) | apply And.intro | rfl)))
  intro k hk u
  clear u
  repeat' (first | (refine is_split ?_; refine sp_dec (fun g => ?_) (fun g => ?_) <;> (intro u; clear u)) | (refine is_asked ?_; (first | (refine is_spec ?_; (with_reducible refine asked _ (sp_add (by simp only [lo, hi]; omega) (by simp only [lo, hi]; omega)) ?_)) | (refine asked _ (tab_put (newK_len k) (i := k) noneE (by omega)) ?_) | refine asked () ⟨by omega, by omega⟩ ?_); intro u; clear u) | (refine is_call ?_; refine call_auto (refnone_con) (lets_rfl rfl) (by exact trivial) rfl ?_; intro u; clear u))
  · refine again (k + 1) (by omega) (by omega) ?_
    (intro u; clear u; refine ⟨rfl, rfl, EntGoal.mk ?_ ?_⟩ <;> (repeat' (first | exact trivial | (with_reducible rfl) | apply And.intro | rfl)))
  · obtain rfl : k = 16 := by omega
    (refine con_end ?_ rfl; intro u; clear u; refine ⟨rfl, rfl, EntGoal.mk ?_ ?_⟩ <;> (repeat' (first | exact trivial | (with_reducible rfl) | apply And.intro | rfl)))
