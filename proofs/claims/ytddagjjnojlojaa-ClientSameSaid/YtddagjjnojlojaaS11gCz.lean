/- Contracts of functions of the program, or a row of the seat, proved out of them. No condition beyond those that stand in each statement. -/
import Derived.Test.YtddagjjnojlojaaS11gCy
namespace Go.Proofs.S11
open Go Go.SE
set_option maxRecDepth 100000
set_option maxHeartbeats 4000000
attribute [local irreducible] specI

theorem mrgK_ok {t : Tab} {l : List Row} (hl : t.rows.length = 16) (ht : ∀ i, i < 16 → okE (t.at i)) : ∀ k, k ≤ l.length → (∀ i, i < l.length → okAt l i) → ∀ i, i < 16 → okE ((mrgK t l k).at i)
  | 0, _, _, i, hi => ht i hi
  | k + 1, hk, h, i, hi => by
    have ih := mrgK_ok hl ht k (by omega) h i hi
    have hlen := mrgK_len t l k
    have hr := h k (by omega)
    unfold mrgK
    split
    · by_cases e : (rAt l k).bkt.toNat = i
      · rw [e, set_at_eq (by omega)]; exact hr.2.2
      · rw [set_at_ne e]; exact ih
    · exact ih
theorem new_ok : ∀ i, i < 16 → okE (newTab.at i) := by decide +kernel
theorem baseT_ok {c : Cl} (h : okCl c) : ∀ i, i < 16 → okE ((baseT c).at i) := by
  unfold baseT
  split
  · rename_i hb
    rcases h with ⟨_, q⟩ | ⟨q, _⟩
    · exact q.2
    · rw [hb] at q; cases q
  · exact new_ok
theorem mrgT_ok {c : Cl} {s : Sh} (hl : c.tab.rows.length = 16) (h : ctArg c s) : okCl (mrgT c s) := by
  refine .inl ⟨rfl, ?_, fun i hi => ?_⟩
  · have := h.2.1; unfold okHd at this; exact this.1
  · exact mrgK_ok (baseT_len hl) (baseT_ok h.1) _ (Nat.le_refl _) h.2.2.2 i hi

theorem nb_f {p : Prop} [Decidable p] (h : ¬ p) : (!(false == decide p)) = false := by simp [h]
theorem nb_t {p : Prop} [Decidable p] (h : p) : (!(true == decide p)) = false := by simp [h]
theorem cltakes_con {c : Cl} (h : c.tab.rows.length = 16) (s : Sh) : CallCon Try.prog 10 [clT c, shT 0 s] [.row (rowsV s.rows) 5 48 false] (.t (.one (.v (.bool true)))) [] := by
  have g1 := clgreat_con s
  by_cases hg : 40 < s.rows.length
  · have g1 := con_yes g1 hg
    refine con_of_call2 rfl ?_
    refine call_inline Try.func10 rfl rfl ?_
    intro _
    repeat' (refine is_call ?_; (first | refine call_auto (clwakes_con) (lets_rfl rfl) (by exact trivial) rfl ?_ | refine call_auto (g1) (lets_rfl rfl) (by exact ⟨⟨_, rfl, rfl, rfl⟩, trivial⟩) rfl ?_); intro u; clear u)
    all_goals (refine con_end ?_ rfl; intro u; clear u; refine ⟨rfl, rfl, EntGoal.mk ?_ ?_⟩ <;> (repeat' (first | exact trivial | (with_reducible rfl) | apply And.intro | rfl)))
  have g1 := con_no g1 hg
  have d2 := refclright_con h
  by_cases h1 : okCl c
  rotate_left
  · have d2 := con_no d2 h1
    refine con_of_call2 rfl ?_
    refine call_inline Try.func10 rfl rfl ?_
    intro _
    repeat' (refine is_call ?_; (first | refine call_auto (clwakes_con) (lets_rfl rfl) (by exact trivial) rfl ?_ | refine call_auto (g1) (lets_rfl rfl) (by exact ⟨⟨_, rfl, rfl, rfl⟩, trivial⟩) rfl ?_ | refine call_auto (d2) (lets_rfl rfl) (by exact trivial) rfl ?_); intro u; clear u)
    all_goals (refine con_end ?_ rfl; intro u; clear u; refine ⟨rfl, rfl, EntGoal.mk ?_ ?_⟩ <;> (repeat' (first | exact trivial | (with_reducible rfl) | apply And.intro | rfl)))
  have d2 := con_yes d2 h1
  have e2 := shref_con s (by omega)
  by_cases h2 : okSh s
  rotate_left
  · have e2 := con_no e2 h2
    refine con_of_call2 rfl ?_
    refine call_inline Try.func10 rfl rfl ?_
    intro _
    repeat' (refine is_call ?_; (first | refine call_auto (clwakes_con) (lets_rfl rfl) (by exact trivial) rfl ?_ | refine call_auto (g1) (lets_rfl rfl) (by exact ⟨⟨_, rfl, rfl, rfl⟩, trivial⟩) rfl ?_ | refine call_auto (d2) (lets_rfl rfl) (by exact trivial) rfl ?_ | refine call_auto (e2) (lets_rfl rfl) (by exact ⟨⟨_, rfl, rfl, rfl⟩, trivial⟩) rfl ?_); intro u; clear u)
    all_goals (refine con_end ?_ rfl; intro u; clear u; refine ⟨rfl, rfl, EntGoal.mk ?_ ?_⟩ <;> (repeat' (first | exact trivial | (with_reducible rfl) | apply And.intro | rfl)))
  have e2 := con_yes e2 h2
  have ha : ctArg c s := ⟨h1, h2⟩
  have hE : ctE c s = if hasV c < s.base then 120 else 0 := by unfold ctE; rw [if_neg (fun q => q ha)]
  have hT := cltake_con h s (by omega)
  have hH := has_con c
  have q1 := eqCl_self h
  by_cases hga : hasV c < s.base
  · rw [hE, if_pos hga, show ctC c s = c by unfold ctC; rw [if_neg (by unfold ctOk; omega)], decide_eq_false (show ¬ ctOk c s by unfold ctOk; omega)] at hT
    have hT2 := con_known3 hT
    generalize hasV c = v at *
    refine con_of_call2 rfl ?_
    refine call_inline Try.func10 rfl rfl ?_
    intro _
    repeat' (first | (refine is_split ?_; (first | (refine sp_no (nb_t (by omega)) ?_) | (refine sp_yes q1 ?_) | refine sp_yes (by rfl) ?_ | refine sp_no (by rfl) ?_) <;> (intro u; clear u)) | (refine is_asked ?_; refine asked () (by show heldFree Try.prog _ _ = true; decide +kernel) ?_; intro u; clear u) | (refine is_call ?_; (first | refine call_auto (clwakes_con) (lets_rfl rfl) (by exact trivial) rfl ?_ | refine call_auto (g1) (lets_rfl rfl) (by exact ⟨⟨_, rfl, rfl, rfl⟩, trivial⟩) rfl ?_ | refine call_auto (d2) (lets_rfl rfl) (by exact trivial) rfl ?_ | refine call_auto (e2) (lets_rfl rfl) (by exact ⟨⟨_, rfl, rfl, rfl⟩, trivial⟩) rfl ?_ | refine call_auto (hT2) (lets_rfl rfl) (by exact ⟨⟨_, rfl, rfl, rfl⟩, trivial⟩) rfl ?_ | refine call_auto (hH) (lets_rfl rfl) (by exact trivial) rfl ?_); intro u; clear u))
    all_goals (refine con_end ?_ rfl; intro u; clear u; refine ⟨rfl, rfl, EntGoal.mk ?_ ?_⟩ <;> (repeat' (first | exact trivial | (with_reducible rfl) | apply And.intro | rfl)))
  by_cases hto : s.to ≤ hasV c
  · rw [hE, if_neg hga, show ctC c s = c by unfold ctC; rw [if_neg (by unfold ctOk; omega)], decide_eq_false (show ¬ ctOk c s by unfold ctOk; omega)] at hT
    have hT2 := con_known3 hT
    generalize hasV c = v at *
    refine con_of_call2 rfl ?_
    refine call_inline Try.func10 rfl rfl ?_
    intro _
    repeat' (first | (refine is_split ?_; (first | (refine sp_no (nb_f (by omega)) ?_) | (refine sp_yes q1 ?_) | refine sp_yes (by rfl) ?_ | refine sp_no (by rfl) ?_) <;> (intro u; clear u)) | (refine is_asked ?_; refine asked () (by show heldFree Try.prog _ _ = true; decide +kernel) ?_; intro u; clear u) | (refine is_call ?_; (first | refine call_auto (clwakes_con) (lets_rfl rfl) (by exact trivial) rfl ?_ | refine call_auto (g1) (lets_rfl rfl) (by exact ⟨⟨_, rfl, rfl, rfl⟩, trivial⟩) rfl ?_ | refine call_auto (d2) (lets_rfl rfl) (by exact trivial) rfl ?_ | refine call_auto (e2) (lets_rfl rfl) (by exact ⟨⟨_, rfl, rfl, rfl⟩, trivial⟩) rfl ?_ | refine call_auto (hT2) (lets_rfl rfl) (by exact ⟨⟨_, rfl, rfl, rfl⟩, trivial⟩) rfl ?_ | refine call_auto (hH) (lets_rfl rfl) (by exact trivial) rfl ?_); intro u; clear u))
    all_goals (refine con_end ?_ rfl; intro u; clear u; refine ⟨rfl, rfl, EntGoal.mk ?_ ?_⟩ <;> (repeat' (first | exact trivial | (with_reducible rfl) | apply And.intro | rfl)))
  rw [hE, if_neg hga, show ctC c s = mrgT c s by unfold ctC; rw [if_pos ⟨ha, by omega, by omega⟩], decide_eq_true (show ctOk c s from ⟨ha, by omega, by omega⟩)] at hT
  have hT2 := con_known3 hT
  have hok := mrgT_ok h ha
  have hml : (mrgT c s).tab.rows.length = 16 := by show (mrgK (baseT c) s.rows _).rows.length = 16; rw [mrgK_len]; exact baseT_len h
  have hR := con_yes (clright_con hml) hok
  have hrows := h2.2.2
  have hY : (mrgT c s).tab = ⟨s.to, (mrgK (baseT c) s.rows s.rows.length).rows⟩ := rfl
  have hX : mrgT c s = ⟨true, (mrgT c s).tab⟩ := rfl
  rw [hX] at hT2 hR
  generalize (mrgT c s).tab = Y at *
  have hbl := baseT_len h
  clear hX hok hT hE q1 d2 g1 e2
  have d2 := con_yes (refclright_con h) h1
  have g1 := con_no (clgreat_con s) hg
  have e2 := con_yes (shref_con s (by omega)) h2
  obtain ⟨b, t⟩ := c
  cases b
  · rw [show baseT ⟨false, t⟩ = newTab from rfl] at hbl hY
    generalize hasV ⟨false, t⟩ = v at *
    refine con_of_call2 rfl ?_
    refine call_inline Try.func10 rfl rfl ?_
    intro _
    repeat' (first | (refine is_split ?_; (first | (refine sp_no (nb_f (by omega)) ?_) | (refine sp_no (nb_t (by omega)) ?_) | refine sp_yes (by rfl) ?_ | refine sp_no (by rfl) ?_) <;> (intro u; clear u)) | (refine is_call ?_; (first | refine call_auto (refnew_con) (lets_rfl rfl) (by exact trivial) rfl ?_ | refine call_auto (g1) (lets_rfl rfl) (by exact ⟨⟨_, rfl, rfl, rfl⟩, trivial⟩) rfl ?_ | refine call_auto (d2) (lets_rfl rfl) (by exact trivial) rfl ?_ | refine call_auto (e2) (lets_rfl rfl) (by exact ⟨⟨_, rfl, rfl, rfl⟩, trivial⟩) rfl ?_ | refine call_auto (hT2) (lets_rfl rfl) (by exact ⟨⟨_, rfl, rfl, rfl⟩, trivial⟩) rfl ?_ | refine call_auto (hH) (lets_rfl rfl) (by exact trivial) rfl ?_); intro u; clear u))
    refine loop_keep (ι := Nat × Tab) (fun | (k, _) => s.rows.length - k) (fun | (k, m) => k ≤ s.rows.length ∧ m = mrgK newTab s.rows k) [3, 5, 9] (fun | (k, _) => [(10, .t (.one (.v (.int .i64 k))))]) (fun | (_, m) => [(4, .box (tabS m) 1 26)]) (fun _ => []) [] 0 (0, newTab) ⟨by omega, rfl⟩ ?_ ?_
    · (intro u; clear u; refine ⟨rfl, rfl, EntGoal.mk ?_ ?_⟩ <;> (repeat' (first | exact trivial | (with_reducible rfl) | apply And.intro | rfl)))
    rintro ⟨k, m⟩ ⟨hk, hm⟩ u
    clear u
    have hmm : m.rows.length = 16 := by rw [hm, mrgK_len]; exact hbl
    by_cases hc : k < s.rows.length
    · have hok := hrows k hc
      have hbk := hok.1
      repeat' (first | (refine is_split ?_; (first | refine sp_yes (by exact dec_t (by omega)) ?_ | refine sp_dec (fun g => ?_) (fun g => ?_)) <;> (intro u; clear u)) | (refine is_asked ?_; (first | (refine is_spec ?_; (with_reducible refine asked _ (sp_add (by simp only [lo, hi]; omega) (by simp only [lo, hi]; omega)) ?_)) | (refine asked _ (row_gen s.rows k (by show (0 + Int.toNat (k : Int)) * 5 + 1 + 2 = _; omega) (by omega)) ?_) | (refine asked _ (row_bkt s.rows k (by show (0 + Int.toNat (k : Int)) * 5 + 0 = _; omega) (by omega)) ?_) | (refine asked _ (row_ent s.rows k (by show (0 + Int.toNat (k : Int)) * 5 + 1 = _; omega) (by omega)) ?_) | (refine asked _ (tab_gen m (i := (rAt s.rows k).bkt.toNat) (by omega)) ?_) | (refine asked _ (tab_put hmm (i := (rAt s.rows k).bkt.toNat) (rAt s.rows k).ent (by omega)) ?_) | refine asked () ⟨by omega, by omega⟩ ?_); intro u; clear u) | (refine is_draw ?_; refine draw_step mixed (by kernel_rfl) ?_; intro u; clear u))
      · rename_i g
        refine again (k + 1, m.set (rAt s.rows k).bkt.toNat (rAt s.rows k).ent) ⟨by omega, mrg_yes hm g⟩ (by show s.rows.length - (k + 1) < s.rows.length - k; omega) ?_
        (intro u; clear u; refine ⟨rfl, rfl, EntGoal.mk ?_ ?_⟩ <;> (repeat' (first | exact trivial | (with_reducible rfl) | apply And.intro | rfl)))
      · rename_i g
        refine again (k + 1, m) ⟨by omega, mrg_no hm g⟩ (by show s.rows.length - (k + 1) < s.rows.length - k; omega) ?_
        (intro u; clear u; refine ⟨rfl, rfl, EntGoal.mk ?_ ?_⟩ <;> (repeat' (first | exact trivial | (with_reducible rfl) | apply And.intro | rfl)))
    · obtain rfl : k = s.rows.length := by omega
      have hq : eqTab Y ⟨s.to, m.rows⟩ = true := by rw [hm, ← hY]; exact (eqTab_iff hml hml).2 rfl
      repeat' (first | (refine is_split ?_; (first | (refine sp_yes hq ?_) | refine sp_no (by exact dec_f (by omega)) ?_) <;> (intro u; clear u)) | (refine is_asked ?_; refine asked () (by show heldFree Try.prog _ _ = true; decide +kernel) ?_; intro u; clear u) | (refine is_call ?_; (first | refine call_auto (hR) (lets_rfl rfl) (by exact trivial) rfl ?_ | refine call_auto (clwakes_con) (lets_rfl rfl) (by exact trivial) rfl ?_); intro u; clear u))
      all_goals (refine con_end ?_ rfl; intro u; clear u; refine ⟨rfl, rfl, EntGoal.mk ?_ ?_⟩ <;> (repeat' (first | exact trivial | (with_reducible rfl) | apply And.intro | rfl)))
  · rw [show baseT ⟨true, t⟩ = t from rfl] at hbl hY
    generalize hasV ⟨true, t⟩ = v at *
    refine con_of_call2 rfl ?_
    refine call_inline Try.func10 rfl rfl ?_
    intro _
    repeat' (first | (refine is_split ?_; (first | (refine sp_no (nb_f (by omega)) ?_) | (refine sp_no (nb_t (by omega)) ?_) | refine sp_yes (by rfl) ?_ | refine sp_no (by rfl) ?_) <;> (intro u; clear u)) | (refine is_call ?_; (first | refine call_auto (g1) (lets_rfl rfl) (by exact ⟨⟨_, rfl, rfl, rfl⟩, trivial⟩) rfl ?_ | refine call_auto (d2) (lets_rfl rfl) (by exact trivial) rfl ?_ | refine call_auto (e2) (lets_rfl rfl) (by exact ⟨⟨_, rfl, rfl, rfl⟩, trivial⟩) rfl ?_ | refine call_auto (hT2) (lets_rfl rfl) (by exact ⟨⟨_, rfl, rfl, rfl⟩, trivial⟩) rfl ?_ | refine call_auto (hH) (lets_rfl rfl) (by exact trivial) rfl ?_); intro u; clear u))
    refine loop_keep (ι := Nat × Tab) (fun | (k, _) => s.rows.length - k) (fun | (k, m) => k ≤ s.rows.length ∧ m = mrgK t s.rows k) [3, 5, 9] (fun | (k, _) => [(10, .t (.one (.v (.int .i64 k))))]) (fun | (_, m) => [(4, .box (tabS m) 1 26)]) (fun _ => []) [] 0 (0, t) ⟨by omega, rfl⟩ ?_ ?_
    · (intro u; clear u; refine ⟨rfl, rfl, EntGoal.mk ?_ ?_⟩ <;> (repeat' (first | exact trivial | (with_reducible rfl) | apply And.intro | rfl)))
    rintro ⟨k, m⟩ ⟨hk, hm⟩ u
    clear u
    have hmm : m.rows.length = 16 := by rw [hm, mrgK_len]; exact hbl
    by_cases hc : k < s.rows.length
    · have hok := hrows k hc
      have hbk := hok.1
      repeat' (first | (refine is_split ?_; (first | refine sp_yes (by exact dec_t (by omega)) ?_ | refine sp_dec (fun g => ?_) (fun g => ?_)) <;> (intro u; clear u)) | (refine is_asked ?_; (first | (refine is_spec ?_; (with_reducible refine asked _ (sp_add (by simp only [lo, hi]; omega) (by simp only [lo, hi]; omega)) ?_)) | (refine asked _ (row_gen s.rows k (by show (0 + Int.toNat (k : Int)) * 5 + 1 + 2 = _; omega) (by omega)) ?_) | (refine asked _ (row_bkt s.rows k (by show (0 + Int.toNat (k : Int)) * 5 + 0 = _; omega) (by omega)) ?_) | (refine asked _ (row_ent s.rows k (by show (0 + Int.toNat (k : Int)) * 5 + 1 = _; omega) (by omega)) ?_) | (refine asked _ (tab_gen m (i := (rAt s.rows k).bkt.toNat) (by omega)) ?_) | (refine asked _ (tab_put hmm (i := (rAt s.rows k).bkt.toNat) (rAt s.rows k).ent (by omega)) ?_) | refine asked () ⟨by omega, by omega⟩ ?_); intro u; clear u) | (refine is_draw ?_; refine draw_step mixed (by kernel_rfl) ?_; intro u; clear u))
      · rename_i g
        refine again (k + 1, m.set (rAt s.rows k).bkt.toNat (rAt s.rows k).ent) ⟨by omega, mrg_yes hm g⟩ (by show s.rows.length - (k + 1) < s.rows.length - k; omega) ?_
        (intro u; clear u; refine ⟨rfl, rfl, EntGoal.mk ?_ ?_⟩ <;> (repeat' (first | exact trivial | (with_reducible rfl) | apply And.intro | rfl)))
      · rename_i g
        refine again (k + 1, m) ⟨by omega, mrg_no hm g⟩ (by show s.rows.length - (k + 1) < s.rows.length - k; omega) ?_
        (intro u; clear u; refine ⟨rfl, rfl, EntGoal.mk ?_ ?_⟩ <;> (repeat' (first | exact trivial | (with_reducible rfl) | apply And.intro | rfl)))
    · obtain rfl : k = s.rows.length := by omega
      have hq : eqTab Y ⟨s.to, m.rows⟩ = true := by rw [hm, ← hY]; exact (eqTab_iff hml hml).2 rfl
      repeat' (first | (refine is_split ?_; (first | (refine sp_yes hq ?_) | refine sp_no (by exact dec_f (by omega)) ?_) <;> (intro u; clear u)) | (refine is_asked ?_; refine asked () (by show heldFree Try.prog _ _ = true; decide +kernel) ?_; intro u; clear u) | (refine is_call ?_; (first | refine call_auto (hR) (lets_rfl rfl) (by exact trivial) rfl ?_ | refine call_auto (clwakes_con) (lets_rfl rfl) (by exact trivial) rfl ?_); intro u; clear u))
      all_goals (refine con_end ?_ rfl; intro u; clear u; refine ⟨rfl, rfl, EntGoal.mk ?_ ?_⟩ <;> (repeat' (first | exact trivial | (with_reducible rfl) | apply And.intro | rfl)))
