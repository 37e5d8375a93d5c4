/- Contracts of functions of the program, or a row of the seat, proved out of them. No condition beyond those that stand in each statement. -/
import Derived.Test.YtddagjjnojlojaaS11gC
namespace Go.Proofs.S11
open Go Go.SE
set_option maxRecDepth 100000
set_option maxHeartbeats 4000000
attribute [local irreducible] specI

/-- A table with a sheet's rows laid in, where they are newer. -/
def mrgK (t : Tab) (l : List Row) : Nat → Tab
  | 0 => t
  | k + 1 => if ((mrgK t l k).at (rAt l k).bkt.toNat).gen < (rAt l k).ent.gen then (mrgK t l k).set (rAt l k).bkt.toNat (rAt l k).ent else mrgK t l k
theorem mrgK_len (t : Tab) (l : List Row) : ∀ k, (mrgK t l k).rows.length = t.rows.length
  | 0 => rfl
  | k + 1 => by
    unfold mrgK
    split
    · simp only [Tab.set, List.length_set]; exact mrgK_len t l k
    · exact mrgK_len t l k
theorem mrgK_ver (t : Tab) (l : List Row) : ∀ k, (mrgK t l k).ver = t.ver
  | 0 => rfl
  | k + 1 => by unfold mrgK; split <;> exact mrgK_ver t l k
theorem mrgK_at (t : Tab) (l : List Row) : ∀ k b, (∀ i, i < k → (rAt l i).bkt.toNat ≠ b) → (mrgK t l k).at b = t.at b
  | 0, b, _ => rfl
  | k + 1, b, h => by
    have ih := mrgK_at t l k b fun i hi => h i (by omega)
    unfold mrgK
    split
    · rw [set_at_ne (h k (by omega))]; exact ih
    · exact ih
theorem ok_rising {l : List Row} (h : ∀ i, i < l.length → okAt l i) : ∀ k, k < l.length → ∀ i, i < k → (rAt l i).bkt < (rAt l k).bkt
  | 0, _, i, hi => by omega
  | k + 1, hk, i, hi => by
    have h1 := (h (k + 1) hk).2.1 (by omega)
    rw [Nat.add_sub_cancel] at h1
    by_cases e : i = k
    · subst e; exact h1
    · have := ok_rising h k (by omega) i (by omega); omega
/-- A row's bucket is as it was until it is that row's turn. -/
theorem mrg_own {t : Tab} {l : List Row} (h : ∀ i, i < l.length → okAt l i) {k : Nat} (hk : k < l.length) : (mrgK t l k).at (rAt l k).bkt.toNat = t.at (rAt l k).bkt.toNat := by
  refine mrgK_at t l k _ fun i hi => ?_
  have h1 := ok_rising h k hk i hi
  have h2 := (h k hk).1
  have h3 := (h i (by omega)).1
  omega
theorem mrg_yes {t : Tab} {l : List Row} {k : Nat} {m : Tab} (hm : m = mrgK t l k) (h : (m.at (rAt l k).bkt.toNat).gen < (rAt l k).ent.gen) : m.set (rAt l k).bkt.toNat (rAt l k).ent = mrgK t l (k + 1) := by
  show _ = if _ then _ else _
  rw [if_pos (by rw [← hm]; exact h), hm]
theorem mrg_no {t : Tab} {l : List Row} {k : Nat} {m : Tab} (hm : m = mrgK t l k) (h : ¬ (m.at (rAt l k).bkt.toNat).gen < (rAt l k).ent.gen) : m = mrgK t l (k + 1) := by
  show _ = if _ then _ else _
  rw [if_neg (by rw [← hm]; exact h), hm]

def baseT (c : Cl) : Tab := if c.has = true then c.tab else newTab
def mrgT (c : Cl) (s : Sh) : Cl := ⟨true, ⟨s.to, (mrgK (baseT c) s.rows s.rows.length).rows⟩⟩
def ctArg (c : Cl) (s : Sh) : Prop := okCl c ∧ okSh s
instance (c : Cl) (s : Sh) : Decidable (ctArg c s) := by unfold ctArg; infer_instance
def ctOk (c : Cl) (s : Sh) : Prop := ctArg c s ∧ s.base ≤ hasV c ∧ hasV c < s.to
instance (c : Cl) (s : Sh) : Decidable (ctOk c s) := by unfold ctOk; infer_instance
def ctC (c : Cl) (s : Sh) : Cl := if ctOk c s then mrgT c s else c
def ctE (c : Cl) (s : Sh) : Int := if ¬ ctArg c s then 2 else if hasV c < s.base then 120 else 0

theorem baseT_len {c : Cl} (h : c.tab.rows.length = 16) : (baseT c).rows.length = 16 := by
  unfold baseT; split; (· exact h); rfl

theorem cltake_con {c : Cl} (h : c.tab.rows.length = 16) (s : Sh) (hl : s.rows.length ≤ 1000000) : CallCon Try.prog 33 [clT c, shT 0 s] [.row (rowsV s.rows) 5 48 false] (.tup [clT (ctC c s), .one (.b (ctOk c s)), .one (.v (.int .i64 (ctE c s)))]) [] := by
  have hR := clright_con h
  have hS := shright_con s hl
  have hH := has_con c
  by_cases ha : ctArg c s
  rotate_left
  · rw [show ctC c s = c by unfold ctC; rw [if_neg (fun q => ha q.1)], show ctE c s = 2 by unfold ctE; rw [if_pos ha], decide_eq_false (show ¬ ctOk c s from fun q => ha q.1)]
    by_cases h1 : okCl c
    · have hR2 := con_yes hR h1
      have hS2 := con_no hS fun q => ha ⟨h1, q⟩
      refine con_of_call2 rfl ?_
      refine call_inline Try.func33 rfl rfl ?_
      intro _
      repeat' (first | (refine is_scope ?_; refine scope_step ?_; intro u; clear u) | (refine is_call ?_; (first | refine call_auto (new_con) (lets_rfl rfl) (by exact trivial) rfl ?_ | refine call_auto (hR2) (lets_rfl rfl) (by exact trivial) rfl ?_ | refine call_auto (hS2) (lets_rfl rfl) (by exact ⟨⟨_, rfl, rfl, rfl⟩, trivial⟩) rfl ?_); intro u; clear u))
      all_goals (refine con_end ?_ rfl; intro u; clear u; refine ⟨rfl, rfl, EntGoal.mk ?_ ?_⟩ <;> (repeat' (first | exact trivial | (with_reducible rfl) | apply And.intro | rfl)))
    · have hR2 := con_no hR h1
      refine con_of_call2 rfl ?_
      refine call_inline Try.func33 rfl rfl ?_
      intro _
      repeat' (first | (refine is_scope ?_; refine scope_step ?_; intro u; clear u) | (refine is_call ?_; (first | refine call_auto (new_con) (lets_rfl rfl) (by exact trivial) rfl ?_ | refine call_auto (hR2) (lets_rfl rfl) (by exact trivial) rfl ?_); intro u; clear u))
      all_goals (refine con_end ?_ rfl; intro u; clear u; refine ⟨rfl, rfl, EntGoal.mk ?_ ?_⟩ <;> (repeat' (first | exact trivial | (with_reducible rfl) | apply And.intro | rfl)))
  have hR2 := con_yes hR ha.1
  have hS2 := con_yes hS ha.2
  have hE : ctE c s = if hasV c < s.base then 120 else 0 := by unfold ctE; rw [if_neg (fun q => q ha)]
  by_cases hg : hasV c < s.base
  · rw [hE, if_pos hg, show ctC c s = c by unfold ctC; rw [if_neg (by unfold ctOk; omega)], decide_eq_false (show ¬ ctOk c s by unfold ctOk; omega)]
    refine con_of_call2 rfl ?_
    refine call_inline Try.func33 rfl rfl ?_
    intro _
    repeat' (first | (refine is_split ?_; refine sp_yes (by exact dec_t (by omega)) ?_ <;> (intro u; clear u)) | (refine is_draw ?_; refine draw_step mixed (by kernel_rfl) ?_; intro u; clear u) | (refine is_scope ?_; refine scope_step ?_; intro u; clear u) | (refine is_call ?_; (first | refine call_auto (new_con) (lets_rfl rfl) (by exact trivial) rfl ?_ | refine call_auto (hR2) (lets_rfl rfl) (by exact trivial) rfl ?_ | refine call_auto (hS2) (lets_rfl rfl) (by exact ⟨⟨_, rfl, rfl, rfl⟩, trivial⟩) rfl ?_); intro u; clear u) | (refine is_dcall ?_; refine dcall_auto (hH) (lets_rfl rfl) (by exact trivial) rfl ?_; intro u; clear u))
    all_goals (refine con_end ?_ rfl; intro u; clear u; refine ⟨rfl, rfl, EntGoal.mk ?_ ?_⟩ <;> (repeat' (first | exact trivial | (with_reducible rfl) | apply And.intro | rfl)))
  rw [hE, if_neg hg]
  by_cases ht : s.to ≤ hasV c
  · rw [show ctC c s = c by unfold ctC; rw [if_neg (by unfold ctOk; omega)], decide_eq_false (show ¬ ctOk c s by unfold ctOk; omega)]
    refine con_of_call2 rfl ?_
    refine call_inline Try.func33 rfl rfl ?_
    intro _
    repeat' (first | (refine is_split ?_; (first | refine sp_yes (by exact dec_t (by omega)) ?_ | refine sp_no (by exact dec_f (by omega)) ?_) <;> (intro u; clear u)) | (refine is_draw ?_; refine draw_step mixed (by kernel_rfl) ?_; intro u; clear u) | (refine is_scope ?_; refine scope_step ?_; intro u; clear u) | (refine is_call ?_; (first | refine call_auto (new_con) (lets_rfl rfl) (by exact trivial) rfl ?_ | refine call_auto (hR2) (lets_rfl rfl) (by exact trivial) rfl ?_ | refine call_auto (hS2) (lets_rfl rfl) (by exact ⟨⟨_, rfl, rfl, rfl⟩, trivial⟩) rfl ?_); intro u; clear u) | (refine is_dcall ?_; refine dcall_auto (hH) (lets_rfl rfl) (by exact trivial) rfl ?_; intro u; clear u))
    all_goals (refine con_end ?_ rfl; intro u; clear u; refine ⟨rfl, rfl, EntGoal.mk ?_ ?_⟩ <;> (repeat' (first | exact trivial | (with_reducible rfl) | apply And.intro | rfl)))
  rw [show ctC c s = mrgT c s by unfold ctC; rw [if_pos ⟨ha, by omega, by omega⟩], decide_eq_true (show ctOk c s from ⟨ha, by omega, by omega⟩)]
  have hrows := ha.2.2.2
  obtain ⟨b, t⟩ := c
  cases b
  · have hbl : newTab.rows.length = 16 := rfl
    refine con_of_call2 rfl ?_
    refine call_inline Try.func33 rfl rfl ?_
    intro _
    repeat' (first | (refine is_split ?_; refine sp_no (by exact dec_f (by omega)) ?_ <;> (intro u; clear u)) | (refine is_draw ?_; refine draw_step mixed (by kernel_rfl) ?_; intro u; clear u) | (refine is_range ?_; refine range_step rfl rfl ?_; intro u; clear u) | (refine is_scope ?_; refine scope_step ?_; intro u; clear u) | (refine is_call ?_; (first | refine call_auto (new_con) (lets_rfl rfl) (by exact trivial) rfl ?_ | refine call_auto (hR2) (lets_rfl rfl) (by exact trivial) rfl ?_ | refine call_auto (hS2) (lets_rfl rfl) (by exact ⟨⟨_, rfl, rfl, rfl⟩, trivial⟩) rfl ?_ | refine call_inline Try.func61 rfl rfl ?_ | refine call_inline Try.func72 rfl rfl ?_); intro u; clear u) | (refine is_dcall ?_; refine dcall_auto (hH) (lets_rfl rfl) (by exact trivial) rfl ?_; intro u; clear u))
    refine loop_keep (ι := Nat × Tab) (fun | (k, _) => s.rows.length - k) (fun | (k, m) => k ≤ s.rows.length ∧ m = mrgK newTab s.rows k) [0, 2, 7, 8] (fun | (k, _) => [(9, .t (.one (.v (.int .i64 k))))]) (fun | (_, m) => [(4, .box (tabS m) 1 26)]) (fun _ => [(8, [], [3, 4, 7, 35])]) [] 0 (0, newTab) ⟨by omega, rfl⟩ ?_ ?_
    · (intro u; clear u; refine ⟨rfl, rfl, EntGoal.mk ?_ ?_⟩ <;> (repeat' (first | exact trivial | (with_reducible rfl) | apply And.intro | rfl)))
    rintro ⟨k, m⟩ ⟨hk, hm⟩ u
    clear u
    have hml : m.rows.length = 16 := by rw [hm, mrgK_len]; exact hbl
    by_cases hc : k < s.rows.length
    · have hok := hrows k hc
      have hbk := hok.1
      have hown := mrg_own (t := newTab) hrows hc
      rw [← hm] at hown
      have hN := newer_con (rAt s.rows k).ent (newTab.at (rAt s.rows k).bkt.toNat)
      repeat' (first | (refine is_draw (id := 3) ?_; refine bar_start mixed ?_; refine rest_bar 14 (by kernel_rfl) rfl (by rfl) (by kernel_rfl) ?_; intro u; clear u) | (refine is_split ?_; (first | refine sp_yes (by exact dec_t (by omega)) ?_ | refine sp_dec (fun g => ?_) (fun g => ?_)) <;> (intro u; clear u)) | (refine is_asked ?_; (first | (refine is_spec ?_; (with_reducible refine asked _ (sp_add (by simp only [lo, hi]; omega) (by simp only [lo, hi]; omega)) ?_)) | (refine asked _ (row_ask s.rows k (by show (0 + Int.toNat (k : Int)) * 5 = _; omega) (by omega)) ?_) | (refine asked _ (tab_ask newTab (i := (rAt s.rows k).bkt.toNat) (by omega)) ?_) | (refine asked _ (tab_put hml (i := (rAt s.rows k).bkt.toNat) (rAt s.rows k).ent (by omega)) ?_) | refine asked () ⟨by omega, by omega⟩ ?_); intro u; clear u) | (refine is_yield ?_; refine yield_step rfl rfl rfl rfl ?_; intro u; clear u) | (refine is_rest ?_; refine rest_dr (by kernel_rfl) (by rfl) ?_; intro u; clear u) | (refine is_dcall ?_; refine dcall_auto (hN) (lets_rfl rfl) (by exact trivial) rfl ?_; intro u; clear u))
      · rename_i g
        refine again (k + 1, m.set (rAt s.rows k).bkt.toNat (rAt s.rows k).ent) ⟨by omega, mrg_yes hm (by rw [hown]; exact g)⟩ (by show s.rows.length - (k + 1) < s.rows.length - k; omega) ?_
        (intro u; clear u; refine ⟨rfl, rfl, EntGoal.mk ?_ ?_⟩ <;> (repeat' (first | exact trivial | (with_reducible rfl) | apply And.intro | rfl)))
      · rename_i g
        refine again (k + 1, m) ⟨by omega, mrg_no hm (by rw [hown]; exact g)⟩ (by show s.rows.length - (k + 1) < s.rows.length - k; omega) ?_
        (intro u; clear u; refine ⟨rfl, rfl, EntGoal.mk ?_ ?_⟩ <;> (repeat' (first | exact trivial | (with_reducible rfl) | apply And.intro | rfl)))
    · obtain rfl : k = s.rows.length := by omega
      rw [show mrgT ⟨false, t⟩ s = ⟨true, ⟨s.to, m.rows⟩⟩ by rw [hm]; rfl]
      repeat' (refine is_split ?_; refine sp_no (by exact dec_f (by omega)) ?_ <;> (intro u; clear u))
      (refine con_end ?_ rfl; intro u; clear u; refine ⟨rfl, rfl, EntGoal.mk ?_ ?_⟩ <;> (repeat' (first | exact trivial | (with_reducible rfl) | apply And.intro | rfl)))
  · have hbl : t.rows.length = 16 := h
    refine con_of_call2 rfl ?_
    refine call_inline Try.func33 rfl rfl ?_
    intro _
    repeat' (first | (refine is_split ?_; refine sp_no (by exact dec_f (by omega)) ?_ <;> (intro u; clear u)) | (refine is_draw ?_; refine draw_step mixed (by kernel_rfl) ?_; intro u; clear u) | (refine is_range ?_; refine range_step rfl rfl ?_; intro u; clear u) | (refine is_scope ?_; refine scope_step ?_; intro u; clear u) | (refine is_call ?_; (first | refine call_auto (new_con) (lets_rfl rfl) (by exact trivial) rfl ?_ | refine call_auto (hR2) (lets_rfl rfl) (by exact trivial) rfl ?_ | refine call_auto (hS2) (lets_rfl rfl) (by exact ⟨⟨_, rfl, rfl, rfl⟩, trivial⟩) rfl ?_ | refine call_inline Try.func61 rfl rfl ?_ | refine call_inline Try.func72 rfl rfl ?_); intro u; clear u) | (refine is_dcall ?_; refine dcall_auto (hH) (lets_rfl rfl) (by exact trivial) rfl ?_; intro u; clear u))
    refine loop_keep (ι := Nat × Tab) (fun | (k, _) => s.rows.length - k) (fun | (k, m) => k ≤ s.rows.length ∧ m = mrgK t s.rows k) [0, 2, 7, 8] (fun | (k, _) => [(9, .t (.one (.v (.int .i64 k))))]) (fun | (_, m) => [(4, .box (tabS m) 1 26)]) (fun _ => [(8, [], [3, 4, 7, 35])]) [] 0 (0, t) ⟨by omega, rfl⟩ ?_ ?_
    · (intro u; clear u; refine ⟨rfl, rfl, EntGoal.mk ?_ ?_⟩ <;> (repeat' (first | exact trivial | (with_reducible rfl) | apply And.intro | rfl)))
    rintro ⟨k, m⟩ ⟨hk, hm⟩ u
    clear u
    have hml : m.rows.length = 16 := by rw [hm, mrgK_len]; exact hbl
    by_cases hc : k < s.rows.length
    · have hok := hrows k hc
      have hbk := hok.1
      have hown := mrg_own (t := t) hrows hc
      rw [← hm] at hown
      have hN := newer_con (rAt s.rows k).ent (t.at (rAt s.rows k).bkt.toNat)
      repeat' (first | (refine is_draw (id := 3) ?_; refine bar_start mixed ?_; refine rest_bar 14 (by kernel_rfl) rfl (by rfl) (by kernel_rfl) ?_; intro u; clear u) | (refine is_split ?_; (first | refine sp_yes (by exact dec_t (by omega)) ?_ | refine sp_dec (fun g => ?_) (fun g => ?_)) <;> (intro u; clear u)) | (refine is_asked ?_; (first | (refine is_spec ?_; (with_reducible refine asked _ (sp_add (by simp only [lo, hi]; omega) (by simp only [lo, hi]; omega)) ?_)) | (refine asked _ (row_ask s.rows k (by show (0 + Int.toNat (k : Int)) * 5 = _; omega) (by omega)) ?_) | (refine asked _ (tab_ask t (i := (rAt s.rows k).bkt.toNat) (by omega)) ?_) | (refine asked _ (tab_put hml (i := (rAt s.rows k).bkt.toNat) (rAt s.rows k).ent (by omega)) ?_) | refine asked () ⟨by omega, by omega⟩ ?_); intro u; clear u) | (refine is_yield ?_; refine yield_step rfl rfl rfl rfl ?_; intro u; clear u) | (refine is_rest ?_; refine rest_dr (by kernel_rfl) (by rfl) ?_; intro u; clear u) | (refine is_dcall ?_; refine dcall_auto (hN) (lets_rfl rfl) (by exact trivial) rfl ?_; intro u; clear u))
      · rename_i g
        refine again (k + 1, m.set (rAt s.rows k).bkt.toNat (rAt s.rows k).ent) ⟨by omega, mrg_yes hm (by rw [hown]; exact g)⟩ (by show s.rows.length - (k + 1) < s.rows.length - k; omega) ?_
        (intro u; clear u; refine ⟨rfl, rfl, EntGoal.mk ?_ ?_⟩ <;> (repeat' (first | exact trivial | (with_reducible rfl) | apply And.intro | rfl)))
      · rename_i g
        refine again (k + 1, m) ⟨by omega, mrg_no hm (by rw [hown]; exact g)⟩ (by show s.rows.length - (k + 1) < s.rows.length - k; omega) ?_
        (intro u; clear u; refine ⟨rfl, rfl, EntGoal.mk ?_ ?_⟩ <;> (repeat' (first | exact trivial | (with_reducible rfl) | apply And.intro | rfl)))
    · obtain rfl : k = s.rows.length := by omega
      rw [show mrgT ⟨true, t⟩ s = ⟨true, ⟨s.to, m.rows⟩⟩ by rw [hm]; rfl]
      repeat' (refine is_split ?_; refine sp_no (by exact dec_f (by omega)) ?_ <;> (intro u; clear u))
      (refine con_end ?_ rfl; intro u; clear u; refine ⟨rfl, rfl, EntGoal.mk ?_ ?_⟩ <;> (repeat' (first | exact trivial | (with_reducible rfl) | apply And.intro | rfl)))
