/- Contracts of functions of the program, or a row of the seat, proved out of them. No condition beyond those that stand in each statement. -/
import Derived.Test.YtlefpinmgabmfaaGreatS14pc2
namespace Go.Proofs.S14.C1
open Go Go.SE
set_option maxRecDepth 100000
set_option maxHeartbeats 4000000
attribute [local irreducible] specI

structure Cl where
  has : Bool
  tab : Tab
  deriving DecidableEq
def clS (c : Cl) : List S := .v (.bool c.has) :: tabS c.tab
def clT (c : Cl) : T := .agg (clS c)
def zeroCl : Cl := ⟨false, zeroTab⟩
structure Cl.Wf (c : Cl) : Prop where
  tab : c.tab.Wf
def okCl (c : Cl) : Prop := (c.has = true ∧ okTab c.tab) ∨ (c.has = false ∧ c.tab = zeroTab)
instance (c : Cl) : Decidable (okCl c) := by unfold okCl; infer_instance
def hasV (c : Cl) : Int := if c.has = true then c.tab.ver else -1
def eqCl (a b : Cl) : Bool := a.has == b.has && (eqTab a.tab b.tab && true)
theorem eqCl_iff {a b : Cl} (ha : a.tab.rows.length = 16) (hb : b.tab.rows.length = 16) : eqCl a b = true ↔ a = b := by
  unfold eqCl
  rw [Bool.and_true, Bool.and_eq_true, eqTab_iff ha hb, beq_iff_eq]
  obtain ⟨x, t⟩ := a
  obtain ⟨y, u⟩ := b
  simp

theorem newcl_con : CallCon Tryz.prog 39 [] [] (.t (clT zeroCl)) [] := by
  refine con_of_call2 rfl ?_
  refine call_inline Tryz.func39 rfl rfl ?_
  intro _
  repeat' fail
  (refine con_end ?_ rfl; intro u; clear u; refine ⟨rfl, rfl, EntGoal.mk ?_ ?_⟩ <;> (repeat' (first | exact trivial | (with_reducible rfl) | apply And.intro | rfl)))
theorem has_con (c : Cl) : CallCon Tryz.prog 46 [clT c] [] (.t (.one (.v (.int .i64 (hasV c))))) [] := by
  obtain ⟨h, t⟩ := c
  cases h
  · refine con_of_call2 rfl ?_
    refine call_inline Tryz.func46 rfl rfl ?_
    intro _
    repeat' fail
    (refine con_end ?_ rfl; intro u; clear u; refine ⟨rfl, rfl, EntGoal.mk ?_ ?_⟩ <;> (repeat' (first | exact trivial | (with_reducible rfl) | apply And.intro | rfl)))
  · refine con_of_call2 rfl ?_
    refine call_inline Tryz.func46 rfl rfl ?_
    intro _
    repeat' fail
    (refine con_end ?_ rfl; intro u; clear u; refine ⟨rfl, rfl, EntGoal.mk ?_ ?_⟩ <;> (repeat' (first | exact trivial | (with_reducible rfl) | apply And.intro | rfl)))
theorem refhas_con (c : Cl) : CallCon Tryz.prog 20 [clT c] [] (.t (.one (.v (.int .i64 (hasV c))))) [] := by
  obtain ⟨h, t⟩ := c
  cases h
  · refine con_of_call2 rfl ?_
    refine call_inline Tryz.func20 rfl rfl ?_
    intro _
    repeat' fail
    (refine con_end ?_ rfl; intro u; clear u; refine ⟨rfl, rfl, EntGoal.mk ?_ ?_⟩ <;> (repeat' (first | exact trivial | (with_reducible rfl) | apply And.intro | rfl)))
  · refine con_of_call2 rfl ?_
    refine call_inline Tryz.func20 rfl rfl ?_
    intro _
    repeat' fail
    (refine con_end ?_ rfl; intro u; clear u; refine ⟨rfl, rfl, EntGoal.mk ?_ ?_⟩ <;> (repeat' (first | exact trivial | (with_reducible rfl) | apply And.intro | rfl)))
theorem zero_eq {t : Tab} (h : t.rows.length = 16) : eqTab t zeroTab = true ↔ t = zeroTab := eqTab_iff h rfl
theorem clright_con {c : Cl} (h : c.tab.rows.length = 16) : CallCon Tryz.prog 58 [clT c] [] (.t (.one (.b (okCl c)))) [] := by
  obtain ⟨b, t⟩ := c
  change t.rows.length = 16 at h
  have hz := zero_eq h
  cases b
  · by_cases e : t = zeroTab
    · rw [decide_eq_true (show okCl ⟨false, t⟩ from .inr ⟨rfl, e⟩)]
      have hq : (false == false && (eqTab t zeroTab && true)) = true := by rw [hz.2 e]; rfl
      refine con_of_call2 rfl ?_
      refine call_inline Tryz.func58 rfl rfl ?_
      intro _
      repeat' (first | (refine is_split ?_; (refine sp_yes hq ?_) <;> (intro u; clear u)) | (refine is_asked ?_; refine asked () (by show heldFree Tryz.prog _ _ = true; decide +kernel) ?_; intro u; clear u) | (refine is_draw ?_; refine draw_step mixed (by kernel_rfl) ?_; intro u; clear u) | (refine is_dcall ?_; refine dcall_auto (newcl_con) (lets_rfl rfl) (by exact trivial) rfl ?_; intro u; clear u))
      all_goals (refine con_end ?_ rfl; intro u; clear u; refine ⟨rfl, rfl, EntGoal.mk ?_ ?_⟩ <;> (repeat' (first | exact trivial | (with_reducible rfl) | apply And.intro | rfl)))
    · rw [decide_eq_false (show ¬ okCl ⟨false, t⟩ by rintro (⟨h1, _⟩ | ⟨_, h2⟩); (· cases h1); exact e h2)]
      have hq : (false == false && (eqTab t zeroTab && true)) = false := by rw [Bool.eq_false_iff.2 fun q => e (hz.1 q)]; rfl
      refine con_of_call2 rfl ?_
      refine call_inline Tryz.func58 rfl rfl ?_
      intro _
      repeat' (first | (refine is_split ?_; (refine sp_no hq ?_) <;> (intro u; clear u)) | (refine is_asked ?_; refine asked () (by show heldFree Tryz.prog _ _ = true; decide +kernel) ?_; intro u; clear u) | (refine is_draw ?_; refine draw_step mixed (by kernel_rfl) ?_; intro u; clear u) | (refine is_dcall ?_; refine dcall_auto (newcl_con) (lets_rfl rfl) (by exact trivial) rfl ?_; intro u; clear u))
      all_goals (refine con_end ?_ rfl; intro u; clear u; refine ⟨rfl, rfl, EntGoal.mk ?_ ?_⟩ <;> (repeat' (first | exact trivial | (with_reducible rfl) | apply And.intro | rfl)))
  · have hR := tabright_con t
    have hq : (true == false && (eqTab t zeroTab && true)) = false := rfl
    rw [show decide (okCl ⟨true, t⟩) = decide (okTab t) by rw [decide_eq_decide]; unfold okCl; simp]
    refine con_of_call2 rfl ?_
    refine call_inline Tryz.func58 rfl rfl ?_
    intro _
    repeat' (first | (refine is_split ?_; (refine sp_no hq ?_) <;> (intro u; clear u)) | (refine is_asked ?_; refine asked () (by show heldFree Tryz.prog _ _ = true; decide +kernel) ?_; intro u; clear u) | (refine is_draw ?_; refine draw_step mixed (by kernel_rfl) ?_; intro u; clear u) | (refine is_call ?_; refine call_auto (hR) (lets_rfl rfl) (by exact trivial) rfl ?_; intro u; clear u) | (refine is_dcall ?_; refine dcall_auto (newcl_con) (lets_rfl rfl) (by exact trivial) rfl ?_; intro u; clear u))
    all_goals (refine con_end ?_ rfl; intro u; clear u; refine ⟨rfl, rfl, EntGoal.mk ?_ ?_⟩ <;> (repeat' (first | exact trivial | (with_reducible rfl) | apply And.intro | rfl)))
theorem refclright_con {c : Cl} (h : c.tab.rows.length = 16) : CallCon Tryz.prog 8 [clT c] [] (.t (.one (.b (okCl c)))) [] := by
  obtain ⟨b, t⟩ := c
  change t.rows.length = 16 at h
  have hz := zero_eq h
  cases b
  · rw [show decide (okCl ⟨false, t⟩) = eqTab t zeroTab by
      rw [Bool.eq_iff_iff, decide_eq_true_iff, hz]; unfold okCl; simp]
    refine con_of_call2 rfl ?_
    refine call_inline Tryz.func8 rfl rfl ?_
    intro _
    repeat' (refine is_asked ?_; refine asked () (by show heldFree Tryz.prog _ _ = true; decide +kernel) ?_; intro u; clear u)
    all_goals (refine con_end ?_ rfl; intro u; clear u; refine ⟨rfl, rfl, EntGoal.mk ?_ ?_⟩ <;> (repeat' (first | exact trivial | (with_reducible rfl) | apply And.intro | rfl)))
  · have hR := reftabright_con t
    rw [show decide (okCl ⟨true, t⟩) = decide (okTab t) by rw [decide_eq_decide]; unfold okCl; simp]
    refine con_of_call2 rfl ?_
    refine call_inline Tryz.func8 rfl rfl ?_
    intro _
    repeat' (refine is_call ?_; refine call_auto (hR) (lets_rfl rfl) (by exact trivial) rfl ?_; intro u; clear u)
    all_goals (refine con_end ?_ rfl; intro u; clear u; refine ⟨rfl, rfl, EntGoal.mk ?_ ?_⟩ <;> (repeat' (first | exact trivial | (with_reducible rfl) | apply And.intro | rfl)))
def clRowE (c : Cl) (b : Int) : Ent := if c.has = true then rowE c.tab b else zeroE
def clRowB (c : Cl) (b : Int) : Prop := c.has = true ∧ 0 ≤ b ∧ b < 16
instance (c : Cl) (b : Int) : Decidable (clRowB c b) := by unfold clRowB; infer_instance
theorem clrow_con (c : Cl) (b : Int) : CallCon Tryz.prog 60 [clT c, .one (.v (.int .i64 b))] [] (.tup [entT (clRowE c b), .one (.b (clRowB c b))]) [] := by
  obtain ⟨h, t⟩ := c
  cases h
  · rw [show decide (clRowB ⟨false, t⟩ b) = false by rw [decide_eq_false_iff_not]; unfold clRowB; simp]
    refine con_of_call2 rfl ?_
    refine call_inline Tryz.func60 rfl rfl ?_
    intro _
    repeat' fail
    all_goals (refine con_end ?_ rfl; intro u; clear u; refine ⟨rfl, rfl, EntGoal.mk ?_ ?_⟩ <;> (repeat' (first | exact trivial | (with_reducible rfl) | apply And.intro | rfl)))
  · have hr := row_con t b
    rw [show decide (clRowB ⟨true, t⟩ b) = decide (0 ≤ b ∧ b < 16) by rw [decide_eq_decide]; unfold clRowB; simp]
    refine con_of_call2 rfl ?_
    refine call_inline Tryz.func60 rfl rfl ?_
    intro _
    repeat' (refine is_call ?_; refine call_auto (hr) (lets_rfl rfl) (by exact trivial) rfl ?_; intro u; clear u)
    all_goals (refine con_end ?_ rfl; intro u; clear u; refine ⟨rfl, rfl, EntGoal.mk ?_ ?_⟩ <;> (repeat' (first | exact trivial | (with_reducible rfl) | apply And.intro | rfl)))
theorem refnone_con : CallCon Tryz.prog 92 [] [] (.t (entT noneE)) [] := by
  refine con_of_call2 rfl ?_
  refine call_inline Tryz.func92 rfl rfl ?_
  intro _
  repeat' fail
  (refine con_end ?_ rfl; intro u; clear u; refine ⟨rfl, rfl, EntGoal.mk ?_ ?_⟩ <;> (repeat' (first | exact trivial | (with_reducible rfl) | apply And.intro | rfl)))
theorem refnew_con : CallCon Tryz.prog 45 [] [] (.t (tabT newTab)) [] := by
  refine con_of_call2 rfl ?_
  refine call_inline Tryz.func45 rfl rfl ?_
  intro _
  repeat' fail
  refine loop_keep (fun k : Nat => 16 - k) (fun k => k ≤ 16) [0, 1] (fun k => [(2, .t (.one (.v (.int .i64 k))))]) (fun k => [(1, .box (tabS (newK k)) 1 26)]) (fun _ => []) [] 0 0 (by omega) ?_ ?_
  · (intro u; clear u; refine ⟨rfl, rfl, EntGoal.mk ?_ ?_⟩ <;> (repeat' (first | exact trivial | (with_reducible rfl) | apply And.intro | rfl)))
  intro k hk u
  clear u
  repeat' (first | (refine is_split ?_; refine sp_dec (fun g => ?_) (fun g => ?_) <;> (intro u; clear u)) | (refine is_asked ?_; (first | (refine is_spec ?_; (with_reducible refine asked _ (sp_add (by simp only [lo, hi]; omega) (by simp only [lo, hi]; omega)) ?_)) | (refine asked _ (tab_put (newK_len k) (i := k) noneE (by omega)) ?_) | refine asked () ⟨by omega, by omega⟩ ?_); intro u; clear u) | (refine is_call ?_; refine call_auto (refnone_con) (lets_rfl rfl) (by exact trivial) rfl ?_; intro u; clear u))
  · refine again (k + 1) (by omega) (by omega) ?_
    (intro u; clear u; refine ⟨rfl, rfl, EntGoal.mk ?_ ?_⟩ <;> (repeat' (first | exact trivial | (with_reducible rfl) | apply And.intro | rfl)))
  · obtain rfl : k = 16 := by omega
    (refine con_end ?_ rfl; intro u; clear u; refine ⟨rfl, rfl, EntGoal.mk ?_ ?_⟩ <;> (repeat' (first | exact trivial | (with_reducible rfl) | apply And.intro | rfl)))
end Go.Proofs.S14.C1

namespace Go.Proofs.S14.C1
open Go Go.SE
set_option maxRecDepth 100000
set_option maxHeartbeats 4000000
attribute [local irreducible] specI

theorem set_at_ne {t : Tab} {i j : Nat} {e : Ent} (h : i ≠ j) : (t.set i e).at j = t.at j := by
  unfold Tab.at Tab.set
  simp only
  rw [List.getD_eq_getElem?_getD, List.getElem?_set_ne h, ← List.getD_eq_getElem?_getD]
/-- A table with a sheet's rows laid in, where they are newer. -/
def mrgK (t : Tab) (l : List Row) : Nat → Tab
  | 0 => t
  | k + 1 => if ((mrgK t l k).at (rAt l k).bkt.toNat).gen < (rAt l k).ent.gen then (mrgK t l k).set (rAt l k).bkt.toNat (rAt l k).ent else mrgK t l k
theorem mrgK_len (t : Tab) (l : List Row) : ∀ k, (mrgK t l k).rows.length = t.rows.length
  | 0 => rfl
  | k + 1 => by
    unfold mrgK
    split
    · simp only [Tab.set, List.length_set]; exact mrgK_len t l k
    · exact mrgK_len t l k
theorem mrgK_ver (t : Tab) (l : List Row) : ∀ k, (mrgK t l k).ver = t.ver
  | 0 => rfl
  | k + 1 => by unfold mrgK; split <;> exact mrgK_ver t l k
theorem mrgK_at (t : Tab) (l : List Row) : ∀ k b, (∀ i, i < k → (rAt l i).bkt.toNat ≠ b) → (mrgK t l k).at b = t.at b
  | 0, b, _ => rfl
  | k + 1, b, h => by
    have ih := mrgK_at t l k b fun i hi => h i (by omega)
    unfold mrgK
    split
    · rw [set_at_ne (h k (by omega))]; exact ih
    · exact ih
theorem ok_rising {l : List Row} (h : ∀ i, i < l.length → okAt l i) : ∀ k, k < l.length → ∀ i, i < k → (rAt l i).bkt < (rAt l k).bkt
  | 0, _, i, hi => by omega
  | k + 1, hk, i, hi => by
    have h1 := (h (k + 1) hk).2.1 (by omega)
    rw [Nat.add_sub_cancel] at h1
    by_cases e : i = k
    · subst e; exact h1
    · have := ok_rising h k (by omega) i (by omega); omega
/-- A row's bucket is as it was until it is that row's turn. -/
theorem mrg_own {t : Tab} {l : List Row} (h : ∀ i, i < l.length → okAt l i) {k : Nat} (hk : k < l.length) : (mrgK t l k).at (rAt l k).bkt.toNat = t.at (rAt l k).bkt.toNat := by
  refine mrgK_at t l k _ fun i hi => ?_
  have h1 := ok_rising h k hk i hi
  have h2 := (h k hk).1
  have h3 := (h i (by omega)).1
  omega
theorem mrg_yes {t : Tab} {l : List Row} {k : Nat} {m : Tab} (hm : m = mrgK t l k) (h : (m.at (rAt l k).bkt.toNat).gen < (rAt l k).ent.gen) : m.set (rAt l k).bkt.toNat (rAt l k).ent = mrgK t l (k + 1) := by
  show _ = if _ then _ else _
  rw [if_pos (by rw [← hm]; exact h), hm]
theorem mrg_no {t : Tab} {l : List Row} {k : Nat} {m : Tab} (hm : m = mrgK t l k) (h : ¬ (m.at (rAt l k).bkt.toNat).gen < (rAt l k).ent.gen) : m = mrgK t l (k + 1) := by
  show _ = if _ then _ else _
  rw [if_neg (by rw [← hm]; exact h), hm]

def baseT (c : Cl) : Tab := if c.has = true then c.tab else newTab
def mrgT (c : Cl) (s : Sh) : Cl := ⟨true, ⟨s.to, (mrgK (baseT c) s.rows s.rows.length).rows⟩⟩
def ctArg (c : Cl) (s : Sh) : Prop := okCl c ∧ okSh s
instance (c : Cl) (s : Sh) : Decidable (ctArg c s) := by unfold ctArg; infer_instance
def ctOk (c : Cl) (s : Sh) : Prop := ctArg c s ∧ s.base ≤ hasV c ∧ hasV c < s.to
instance (c : Cl) (s : Sh) : Decidable (ctOk c s) := by unfold ctOk; infer_instance
def ctC (c : Cl) (s : Sh) : Cl := if ctOk c s then mrgT c s else c
def ctE (c : Cl) (s : Sh) : Int := if ¬ ctArg c s then 2 else if hasV c < s.base then 120 else 0

theorem baseT_len {c : Cl} (h : c.tab.rows.length = 16) : (baseT c).rows.length = 16 := by
  unfold baseT; split; (· exact h); rfl

theorem cltake_con {c : Cl} (h : c.tab.rows.length = 16) (s : Sh) (hl : s.rows.length ≤ 1000000) : CallCon Tryz.prog 43 [clT c, shT 0 s] [.row (rowsV s.rows) 5 126 false] (.tup [clT (ctC c s), .one (.b (ctOk c s)), .one (.v (.int .i64 (ctE c s)))]) [] := by
  have hR := clright_con h
  have hS := shright_con s hl
  have hH := has_con c
  by_cases ha : ctArg c s
  rotate_left
  · rw [show ctC c s = c by unfold ctC; rw [if_neg (fun q => ha q.1)], show ctE c s = 2 by unfold ctE; rw [if_pos ha], decide_eq_false (show ¬ ctOk c s from fun q => ha q.1)]
    by_cases h1 : okCl c
    · have hR2 := con_yes hR h1
      have hS2 := con_no hS fun q => ha ⟨h1, q⟩
      refine con_of_call2 rfl ?_
      refine call_inline Tryz.func43 rfl rfl ?_
      intro _
      repeat' (first | (refine is_scope ?_; refine scope_step ?_; intro u; clear u) | (refine is_call ?_; (first | refine call_auto (new_con) (lets_rfl rfl) (by exact trivial) rfl ?_ | refine call_auto (hR2) (lets_rfl rfl) (by exact trivial) rfl ?_ | refine call_auto (hS2) (lets_rfl rfl) (by exact ⟨⟨_, rfl, rfl, rfl⟩, trivial⟩) rfl ?_); intro u; clear u))
      all_goals (refine con_end ?_ rfl; intro u; clear u; refine ⟨rfl, rfl, EntGoal.mk ?_ ?_⟩ <;> (repeat' (first | exact trivial | (with_reducible rfl) | apply And.intro | rfl)))
    · have hR2 := con_no hR h1
      refine con_of_call2 rfl ?_
      refine call_inline Tryz.func43 rfl rfl ?_
      intro _
      repeat' (first | (refine is_scope ?_; refine scope_step ?_; intro u; clear u) | (refine is_call ?_; (first | refine call_auto (new_con) (lets_rfl rfl) (by exact trivial) rfl ?_ | refine call_auto (hR2) (lets_rfl rfl) (by exact trivial) rfl ?_); intro u; clear u))
      all_goals (refine con_end ?_ rfl; intro u; clear u; refine ⟨rfl, rfl, EntGoal.mk ?_ ?_⟩ <;> (repeat' (first | exact trivial | (with_reducible rfl) | apply And.intro | rfl)))
  have hR2 := con_yes hR ha.1
  have hS2 := con_yes hS ha.2
  have hE : ctE c s = if hasV c < s.base then 120 else 0 := by unfold ctE; rw [if_neg (fun q => q ha)]
  by_cases hg : hasV c < s.base
  · rw [hE, if_pos hg, show ctC c s = c by unfold ctC; rw [if_neg (by unfold ctOk; omega)], decide_eq_false (show ¬ ctOk c s by unfold ctOk; omega)]
    refine con_of_call2 rfl ?_
    refine call_inline Tryz.func43 rfl rfl ?_
    intro _
    repeat' (first | (refine is_split ?_; refine sp_yes (by exact dec_t (by omega)) ?_ <;> (intro u; clear u)) | (refine is_draw ?_; refine draw_step mixed (by kernel_rfl) ?_; intro u; clear u) | (refine is_scope ?_; refine scope_step ?_; intro u; clear u) | (refine is_call ?_; (first | refine call_auto (new_con) (lets_rfl rfl) (by exact trivial) rfl ?_ | refine call_auto (hR2) (lets_rfl rfl) (by exact trivial) rfl ?_ | refine call_auto (hS2) (lets_rfl rfl) (by exact ⟨⟨_, rfl, rfl, rfl⟩, trivial⟩) rfl ?_); intro u; clear u) | (refine is_dcall ?_; refine dcall_auto (hH) (lets_rfl rfl) (by exact trivial) rfl ?_; intro u; clear u))
    all_goals (refine con_end ?_ rfl; intro u; clear u; refine ⟨rfl, rfl, EntGoal.mk ?_ ?_⟩ <;> (repeat' (first | exact trivial | (with_reducible rfl) | apply And.intro | rfl)))
  rw [hE, if_neg hg]
  by_cases ht : s.to ≤ hasV c
  · rw [show ctC c s = c by unfold ctC; rw [if_neg (by unfold ctOk; omega)], decide_eq_false (show ¬ ctOk c s by unfold ctOk; omega)]
    refine con_of_call2 rfl ?_
    refine call_inline Tryz.func43 rfl rfl ?_
    intro _
    repeat' (first | (refine is_split ?_; (first | refine sp_yes (by exact dec_t (by omega)) ?_ | refine sp_no (by exact dec_f (by omega)) ?_) <;> (intro u; clear u)) | (refine is_draw ?_; refine draw_step mixed (by kernel_rfl) ?_; intro u; clear u) | (refine is_scope ?_; refine scope_step ?_; intro u; clear u) | (refine is_call ?_; (first | refine call_auto (new_con) (lets_rfl rfl) (by exact trivial) rfl ?_ | refine call_auto (hR2) (lets_rfl rfl) (by exact trivial) rfl ?_ | refine call_auto (hS2) (lets_rfl rfl) (by exact ⟨⟨_, rfl, rfl, rfl⟩, trivial⟩) rfl ?_); intro u; clear u) | (refine is_dcall ?_; refine dcall_auto (hH) (lets_rfl rfl) (by exact trivial) rfl ?_; intro u; clear u))
    all_goals (refine con_end ?_ rfl; intro u; clear u; refine ⟨rfl, rfl, EntGoal.mk ?_ ?_⟩ <;> (repeat' (first | exact trivial | (with_reducible rfl) | apply And.intro | rfl)))
  rw [show ctC c s = mrgT c s by unfold ctC; rw [if_pos ⟨ha, by omega, by omega⟩], decide_eq_true (show ctOk c s from ⟨ha, by omega, by omega⟩)]
  have hrows := ha.2.2.2
  obtain ⟨b, t⟩ := c
  cases b
  · have hbl : newTab.rows.length = 16 := rfl
    refine con_of_call2 rfl ?_
    refine call_inline Tryz.func43 rfl rfl ?_
    intro _
    repeat' (first | (refine is_split ?_; refine sp_no (by exact dec_f (by omega)) ?_ <;> (intro u; clear u)) | (refine is_draw ?_; refine draw_step mixed (by kernel_rfl) ?_; intro u; clear u) | (refine is_range ?_; refine range_step rfl rfl ?_; intro u; clear u) | (refine is_scope ?_; refine scope_step ?_; intro u; clear u) | (refine is_call ?_; (first | refine call_auto (new_con) (lets_rfl rfl) (by exact trivial) rfl ?_ | refine call_auto (hR2) (lets_rfl rfl) (by exact trivial) rfl ?_ | refine call_auto (hS2) (lets_rfl rfl) (by exact ⟨⟨_, rfl, rfl, rfl⟩, trivial⟩) rfl ?_ | refine call_inline Tryz.func91 rfl rfl ?_ | refine call_inline Tryz.func139 rfl rfl ?_); intro u; clear u) | (refine is_dcall ?_; refine dcall_auto (hH) (lets_rfl rfl) (by exact trivial) rfl ?_; intro u; clear u))
    refine loop_keep (ι := Nat × Tab) (fun | (k, _) => s.rows.length - k) (fun | (k, m) => k ≤ s.rows.length ∧ m = mrgK newTab s.rows k) [0, 2, 7, 8] (fun | (k, _) => [(9, .t (.one (.v (.int .i64 k))))]) (fun | (_, m) => [(4, .box (tabS m) 1 26)]) (fun _ => [(8, [], [3, 4, 7, 35])]) [] 0 (0, newTab) ⟨by omega, rfl⟩ ?_ ?_
    · (intro u; clear u; refine ⟨rfl, rfl, EntGoal.mk ?_ ?_⟩ <;> (repeat' (first | exact trivial | (with_reducible rfl) | apply And.intro | rfl)))
    rintro ⟨k, m⟩ ⟨hk, hm⟩ u
    clear u
    have hml : m.rows.length = 16 := by rw [hm, mrgK_len]; exact hbl
    by_cases hc : k < s.rows.length
    · have hok := hrows k hc
      have hbk := hok.1
      have hown := mrg_own (t := newTab) hrows hc
      rw [← hm] at hown
      have hN := newer_con (rAt s.rows k).ent (newTab.at (rAt s.rows k).bkt.toNat)
      repeat' (first | (refine is_draw (id := 3) ?_; refine bar_start mixed ?_; refine rest_bar 14 (by kernel_rfl) rfl (by rfl) (by kernel_rfl) ?_; intro u; clear u) | (refine is_split ?_; (first | refine sp_yes (by exact dec_t (by omega)) ?_ | refine sp_dec (fun g => ?_) (fun g => ?_)) <;> (intro u; clear u)) | (refine is_asked ?_; (first | (refine is_spec ?_; (with_reducible refine asked _ (sp_add (by simp only [lo, hi]; omega) (by simp only [lo, hi]; omega)) ?_)) | (refine asked _ (row_ask s.rows k (by show (0 + Int.toNat (k : Int)) * 5 = _; omega) (by omega)) ?_) | (refine asked _ (tab_ask newTab (i := (rAt s.rows k).bkt.toNat) (by omega)) ?_) | (refine asked _ (tab_put hml (i := (rAt s.rows k).bkt.toNat) (rAt s.rows k).ent (by omega)) ?_) | refine asked () ⟨by omega, by omega⟩ ?_); intro u; clear u) | (refine is_yield ?_; refine yield_step rfl rfl rfl rfl ?_; intro u; clear u) | (refine is_rest ?_; refine rest_dr (by kernel_rfl) (by rfl) ?_; intro u; clear u) | (refine is_dcall ?_; refine dcall_auto (hN) (lets_rfl rfl) (by exact trivial) rfl ?_; intro u; clear u))
      · rename_i g
        refine again (k + 1, m.set (rAt s.rows k).bkt.toNat (rAt s.rows k).ent) ⟨by omega, mrg_yes hm (by rw [hown]; exact g)⟩ (by show s.rows.length - (k + 1) < s.rows.length - k; omega) ?_
        (intro u; clear u; refine ⟨rfl, rfl, EntGoal.mk ?_ ?_⟩ <;> (repeat' (first | exact trivial | (with_reducible rfl) | apply And.intro | rfl)))
      · rename_i g
        refine again (k + 1, m) ⟨by omega, mrg_no hm (by rw [hown]; exact g)⟩ (by show s.rows.length - (k + 1) < s.rows.length - k; omega) ?_
        (intro u; clear u; refine ⟨rfl, rfl, EntGoal.mk ?_ ?_⟩ <;> (repeat' (first | exact trivial | (with_reducible rfl) | apply And.intro | rfl)))
    · obtain rfl : k = s.rows.length := by omega
      rw [show mrgT ⟨false, t⟩ s = ⟨true, ⟨s.to, m.rows⟩⟩ by rw [hm]; rfl]
      repeat' (refine is_split ?_; refine sp_no (by exact dec_f (by omega)) ?_ <;> (intro u; clear u))
      (refine con_end ?_ rfl; intro u; clear u; refine ⟨rfl, rfl, EntGoal.mk ?_ ?_⟩ <;> (repeat' (first | exact trivial | (with_reducible rfl) | apply And.intro | rfl)))
  · have hbl : t.rows.length = 16 := h
    refine con_of_call2 rfl ?_
    refine call_inline Tryz.func43 rfl rfl ?_
    intro _
    repeat' (first | (refine is_split ?_; refine sp_no (by exact dec_f (by omega)) ?_ <;> (intro u; clear u)) | (refine is_draw ?_; refine draw_step mixed (by kernel_rfl) ?_; intro u; clear u) | (refine is_range ?_; refine range_step rfl rfl ?_; intro u; clear u) | (refine is_scope ?_; refine scope_step ?_; intro u; clear u) | (refine is_call ?_; (first | refine call_auto (new_con) (lets_rfl rfl) (by exact trivial) rfl ?_ | refine call_auto (hR2) (lets_rfl rfl) (by exact trivial) rfl ?_ | refine call_auto (hS2) (lets_rfl rfl) (by exact ⟨⟨_, rfl, rfl, rfl⟩, trivial⟩) rfl ?_ | refine call_inline Tryz.func91 rfl rfl ?_ | refine call_inline Tryz.func139 rfl rfl ?_); intro u; clear u) | (refine is_dcall ?_; refine dcall_auto (hH) (lets_rfl rfl) (by exact trivial) rfl ?_; intro u; clear u))
    refine loop_keep (ι := Nat × Tab) (fun | (k, _) => s.rows.length - k) (fun | (k, m) => k ≤ s.rows.length ∧ m = mrgK t s.rows k) [0, 2, 7, 8] (fun | (k, _) => [(9, .t (.one (.v (.int .i64 k))))]) (fun | (_, m) => [(4, .box (tabS m) 1 26)]) (fun _ => [(8, [], [3, 4, 7, 35])]) [] 0 (0, t) ⟨by omega, rfl⟩ ?_ ?_
    · (intro u; clear u; refine ⟨rfl, rfl, EntGoal.mk ?_ ?_⟩ <;> (repeat' (first | exact trivial | (with_reducible rfl) | apply And.intro | rfl)))
    rintro ⟨k, m⟩ ⟨hk, hm⟩ u
    clear u
    have hml : m.rows.length = 16 := by rw [hm, mrgK_len]; exact hbl
    by_cases hc : k < s.rows.length
    · have hok := hrows k hc
      have hbk := hok.1
      have hown := mrg_own (t := t) hrows hc
      rw [← hm] at hown
      have hN := newer_con (rAt s.rows k).ent (t.at (rAt s.rows k).bkt.toNat)
      repeat' (first | (refine is_draw (id := 3) ?_; refine bar_start mixed ?_; refine rest_bar 14 (by kernel_rfl) rfl (by rfl) (by kernel_rfl) ?_; intro u; clear u) | (refine is_split ?_; (first | refine sp_yes (by exact dec_t (by omega)) ?_ | refine sp_dec (fun g => ?_) (fun g => ?_)) <;> (intro u; clear u)) | (refine is_asked ?_; (first | (refine is_spec ?_; (with_reducible refine asked _ (sp_add (by simp only [lo, hi]; omega) (by simp only [lo, hi]; omega)) ?_)) | (refine asked _ (row_ask s.rows k (by show (0 + Int.toNat (k : Int)) * 5 = _; omega) (by omega)) ?_) | (refine asked _ (tab_ask t (i := (rAt s.rows k).bkt.toNat) (by omega)) ?_) | (refine asked _ (tab_put hml (i := (rAt s.rows k).bkt.toNat) (rAt s.rows k).ent (by omega)) ?_) | refine asked () ⟨by omega, by omega⟩ ?_); intro u; clear u) | (refine is_yield ?_; refine yield_step rfl rfl rfl rfl ?_; intro u; clear u) | (refine is_rest ?_; refine rest_dr (by kernel_rfl) (by rfl) ?_; intro u; clear u) | (refine is_dcall ?_; refine dcall_auto (hN) (lets_rfl rfl) (by exact trivial) rfl ?_; intro u; clear u))
      · rename_i g
        refine again (k + 1, m.set (rAt s.rows k).bkt.toNat (rAt s.rows k).ent) ⟨by omega, mrg_yes hm (by rw [hown]; exact g)⟩ (by show s.rows.length - (k + 1) < s.rows.length - k; omega) ?_
        (intro u; clear u; refine ⟨rfl, rfl, EntGoal.mk ?_ ?_⟩ <;> (repeat' (first | exact trivial | (with_reducible rfl) | apply And.intro | rfl)))
      · rename_i g
        refine again (k + 1, m) ⟨by omega, mrg_no hm (by rw [hown]; exact g)⟩ (by show s.rows.length - (k + 1) < s.rows.length - k; omega) ?_
        (intro u; clear u; refine ⟨rfl, rfl, EntGoal.mk ?_ ?_⟩ <;> (repeat' (first | exact trivial | (with_reducible rfl) | apply And.intro | rfl)))
    · obtain rfl : k = s.rows.length := by omega
      rw [show mrgT ⟨true, t⟩ s = ⟨true, ⟨s.to, m.rows⟩⟩ by rw [hm]; rfl]
      repeat' (refine is_split ?_; refine sp_no (by exact dec_f (by omega)) ?_ <;> (intro u; clear u))
      (refine con_end ?_ rfl; intro u; clear u; refine ⟨rfl, rfl, EntGoal.mk ?_ ?_⟩ <;> (repeat' (first | exact trivial | (with_reducible rfl) | apply And.intro | rfl)))
end Go.Proofs.S14.C1
