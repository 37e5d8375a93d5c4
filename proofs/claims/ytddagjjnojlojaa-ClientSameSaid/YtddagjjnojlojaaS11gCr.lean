/- Contracts of functions of the program, or a row of the seat, proved out of them. No condition beyond those that stand in each statement. -/
import Derived.Test.YtddagjjnojlojaaS11gCt
namespace Go.Proofs.S11
open Go Go.SE
set_option maxRecDepth 100000
set_option maxHeartbeats 4000000
attribute [local irreducible] specI

theorem row_gen (l : List Row) {p : Nat} (k : Nat) (hp : p = k * 5 + 3) (hk : k < l.length) : (rowsV l)[p]? = some (.int .i64 (rAt l k).ent.gen) := by
  subst hp
  obtain ⟨R, hR⟩ := rowsV_drop l k hk
  rw [← List.getElem?_drop, hR]; rfl
theorem tab_gen (t : Tab) {a i n : Nat} (hi : i < 16) (hn : n = 4 := by exact cells23) (ha : a = 1 := by rfl) : nth (tabS t) (a + i * n + 2) = some (.v (.int .i64 (t.at i).gen)) := by
  subst hn ha
  exact tab_nth2 t i hi

theorem refcltake_con {c : Cl} (h : c.tab.rows.length = 16) (s : Sh) (hl : s.rows.length ≤ 1000000) : CallCon Try.prog 34 [clT c, shT 0 s] [.row (rowsV s.rows) 5 48 false] (.tup [clT (ctC c s), .one (.b (ctOk c s)), .one (.v (.int .i64 (ctE c s)))]) [] := by
  have hR := refclright_con h
  have hS := shref_con s hl
  have hH := refhas_con c
  by_cases ha : ctArg c s
  rotate_left
  · rw [show ctC c s = c by unfold ctC; rw [if_neg (fun q => ha q.1)], show ctE c s = 2 by unfold ctE; rw [if_pos ha], decide_eq_false (show ¬ ctOk c s from fun q => ha q.1)]
    by_cases h1 : okCl c
    · have hR2 := con_yes hR h1
      have hS2 := con_no hS fun q => ha ⟨h1, q⟩
      refine con_of_call2 rfl ?_
      refine call_inline Try.func34 rfl rfl ?_
      intro _
      repeat' (refine is_call ?_; (first | refine call_auto (hR2) (lets_rfl rfl) (by exact trivial) rfl ?_ | refine call_auto (hS2) (lets_rfl rfl) (by exact ⟨⟨_, rfl, rfl, rfl⟩, trivial⟩) rfl ?_); intro u; clear u)
      all_goals (refine con_end ?_ rfl; intro u; clear u; refine ⟨rfl, rfl, EntGoal.mk ?_ ?_⟩ <;> (repeat' (first | exact trivial | (with_reducible rfl) | apply And.intro | rfl)))
    · have hR2 := con_no hR h1
      refine con_of_call2 rfl ?_
      refine call_inline Try.func34 rfl rfl ?_
      intro _
      repeat' (refine is_call ?_; refine call_auto (hR2) (lets_rfl rfl) (by exact trivial) rfl ?_; intro u; clear u)
      all_goals (refine con_end ?_ rfl; intro u; clear u; refine ⟨rfl, rfl, EntGoal.mk ?_ ?_⟩ <;> (repeat' (first | exact trivial | (with_reducible rfl) | apply And.intro | rfl)))
  have hR2 := con_yes hR ha.1
  have hS2 := con_yes hS ha.2
  have hE : ctE c s = if hasV c < s.base then 120 else 0 := by unfold ctE; rw [if_neg (fun q => q ha)]
  have hrows := ha.2.2.2
  have hhd := ha.2.1
  unfold okHd at hhd
  obtain ⟨b, t⟩ := c
  cases b
  · have hv : hasV ⟨false, t⟩ = -1 := rfl
    by_cases hg : hasV ⟨false, t⟩ < s.base
    · rw [hE, if_pos hg, show ctC ⟨false, t⟩ s = ⟨false, t⟩ by unfold ctC; rw [if_neg (by unfold ctOk; omega)], decide_eq_false (show ¬ ctOk ⟨false, t⟩ s by unfold ctOk; omega)]
      refine con_of_call2 rfl ?_
      refine call_inline Try.func34 rfl rfl ?_
      intro _
      repeat' (first | (refine is_split ?_; refine sp_yes (by exact dec_t (by omega)) ?_ <;> (intro u; clear u)) | (refine is_call ?_; (first | refine call_auto (hR2) (lets_rfl rfl) (by exact trivial) rfl ?_ | refine call_auto (hS2) (lets_rfl rfl) (by exact ⟨⟨_, rfl, rfl, rfl⟩, trivial⟩) rfl ?_); intro u; clear u))
      all_goals (refine con_end ?_ rfl; intro u; clear u; refine ⟨rfl, rfl, EntGoal.mk ?_ ?_⟩ <;> (repeat' (first | exact trivial | (with_reducible rfl) | apply And.intro | rfl)))
    rw [hE, if_neg hg]
    rw [show ctC ⟨false, t⟩ s = mrgT ⟨false, t⟩ s by unfold ctC; rw [if_pos ⟨ha, by omega, by omega⟩], decide_eq_true (show ctOk ⟨false, t⟩ s from ⟨ha, by omega, by omega⟩)]
    have hbl : newTab.rows.length = 16 := rfl
    rw [hv] at hH
    refine con_of_call2 rfl ?_
    refine call_inline Try.func34 rfl rfl ?_
    intro _
    repeat' (first | (refine is_split ?_; refine sp_no (by exact dec_f (by omega)) ?_ <;> (intro u; clear u)) | (refine is_draw ?_; refine draw_step mixed (by kernel_rfl) ?_; intro u; clear u) | (refine is_call ?_; (first | refine call_auto (refnew_con) (lets_rfl rfl) (by exact trivial) rfl ?_ | refine call_auto (hR2) (lets_rfl rfl) (by exact trivial) rfl ?_ | refine call_auto (hS2) (lets_rfl rfl) (by exact ⟨⟨_, rfl, rfl, rfl⟩, trivial⟩) rfl ?_); intro u; clear u) | (refine is_dcall ?_; refine dcall_auto (hH) (lets_rfl rfl) (by exact trivial) rfl ?_; intro u; clear u))
    all_goals
      refine loop_keep (ι := Nat × Tab) (fun | (k, _) => s.rows.length - k) (fun | (k, m) => k ≤ s.rows.length ∧ m = mrgK newTab s.rows k) [3, 4, 7] (fun | (k, _) => [(8, .t (.one (.v (.int .i64 k))))]) (fun | (_, m) => [(4, .box (tabS m) 1 26)]) (fun _ => []) [] 0 (0, newTab) ⟨by omega, rfl⟩ ?_ ?_
      · (intro u; clear u; refine ⟨rfl, rfl, EntGoal.mk ?_ ?_⟩ <;> (repeat' (first | exact trivial | (with_reducible rfl) | apply And.intro | rfl)))
      rintro ⟨k, m⟩ ⟨hk, hm⟩ u
      clear u
      have hml : m.rows.length = 16 := by rw [hm, mrgK_len]; exact hbl
      by_cases hc : k < s.rows.length
      · have hok := hrows k hc
        have hbk := hok.1
        repeat' (first | (refine is_split ?_; (first | refine sp_yes (by exact dec_t (by omega)) ?_ | refine sp_dec (fun g => ?_) (fun g => ?_)) <;> (intro u; clear u)) | (refine is_asked ?_; (first | (refine is_spec ?_; (with_reducible refine asked _ (sp_add (by simp only [lo, hi]; omega) (by simp only [lo, hi]; omega)) ?_)) | (refine asked _ (row_gen s.rows k (by show (0 + Int.toNat (k : Int)) * 5 + 1 + 2 = _; omega) (by omega)) ?_) | (refine asked _ (row_bkt s.rows k (by show (0 + Int.toNat (k : Int)) * 5 + 0 = _; omega) (by omega)) ?_) | (refine asked _ (row_ent s.rows k (by show (0 + Int.toNat (k : Int)) * 5 + 1 = _; omega) (by omega)) ?_) | (refine asked _ (tab_gen m (i := (rAt s.rows k).bkt.toNat) (by omega)) ?_) | (refine asked _ (tab_put hml (i := (rAt s.rows k).bkt.toNat) (rAt s.rows k).ent (by omega)) ?_) | refine asked () ⟨by omega, by omega⟩ ?_); intro u; clear u) | (refine is_draw ?_; refine draw_step mixed (by kernel_rfl) ?_; intro u; clear u))
        · rename_i g
          refine again (k + 1, m.set (rAt s.rows k).bkt.toNat (rAt s.rows k).ent) ⟨by omega, mrg_yes hm g⟩ (by show s.rows.length - (k + 1) < s.rows.length - k; omega) ?_
          (intro u; clear u; refine ⟨rfl, rfl, EntGoal.mk ?_ ?_⟩ <;> (repeat' (first | exact trivial | (with_reducible rfl) | apply And.intro | rfl)))
        · rename_i g
          refine again (k + 1, m) ⟨by omega, mrg_no hm g⟩ (by show s.rows.length - (k + 1) < s.rows.length - k; omega) ?_
          (intro u; clear u; refine ⟨rfl, rfl, EntGoal.mk ?_ ?_⟩ <;> (repeat' (first | exact trivial | (with_reducible rfl) | apply And.intro | rfl)))
      · obtain rfl : k = s.rows.length := by omega
        rw [show mrgT ⟨false, t⟩ s = ⟨true, ⟨s.to, m.rows⟩⟩ by rw [hm]; rfl]
        repeat' (refine is_split ?_; refine sp_no (by exact dec_f (by omega)) ?_ <;> (intro u; clear u))
        (refine con_end ?_ rfl; intro u; clear u; refine ⟨rfl, rfl, EntGoal.mk ?_ ?_⟩ <;> (repeat' (first | exact trivial | (with_reducible rfl) | apply And.intro | rfl)))
  · have hv : hasV ⟨true, t⟩ = t.ver := rfl
    have hok : okTab t := by rcases ha.1 with ⟨_, q⟩ | ⟨q, _⟩; (· exact q); cases q
    have hver := hok.1
    by_cases hg : hasV ⟨true, t⟩ < s.base
    · rw [hE, if_pos hg, show ctC ⟨true, t⟩ s = ⟨true, t⟩ by unfold ctC; rw [if_neg (by unfold ctOk; omega)], decide_eq_false (show ¬ ctOk ⟨true, t⟩ s by unfold ctOk; omega)]
      rw [hv] at hg
      refine con_of_call2 rfl ?_
      refine call_inline Try.func34 rfl rfl ?_
      intro _
      repeat' (first | (refine is_split ?_; refine sp_yes (by exact dec_t (by omega)) ?_ <;> (intro u; clear u)) | (refine is_call ?_; (first | refine call_auto (hR2) (lets_rfl rfl) (by exact trivial) rfl ?_ | refine call_auto (hS2) (lets_rfl rfl) (by exact ⟨⟨_, rfl, rfl, rfl⟩, trivial⟩) rfl ?_); intro u; clear u))
      all_goals (refine con_end ?_ rfl; intro u; clear u; refine ⟨rfl, rfl, EntGoal.mk ?_ ?_⟩ <;> (repeat' (first | exact trivial | (with_reducible rfl) | apply And.intro | rfl)))
    rw [hE, if_neg hg]
    by_cases ht : s.to ≤ hasV ⟨true, t⟩
    · rw [show ctC ⟨true, t⟩ s = ⟨true, t⟩ by unfold ctC; rw [if_neg (by unfold ctOk; omega)], decide_eq_false (show ¬ ctOk ⟨true, t⟩ s by unfold ctOk; omega)]
      rw [hv] at hH ht hg
      refine con_of_call2 rfl ?_
      refine call_inline Try.func34 rfl rfl ?_
      intro _
      repeat' (first | (refine is_split ?_; (first | refine sp_yes (by exact dec_t (by omega)) ?_ | refine sp_no (by exact dec_f (by omega)) ?_ | refine sp_dec (fun g => ?_) (fun g => ?_)) <;> (intro u; clear u)) | (refine is_draw ?_; refine draw_step mixed (by kernel_rfl) ?_; intro u; clear u) | (refine is_call ?_; (first | refine call_auto (hR2) (lets_rfl rfl) (by exact trivial) rfl ?_ | refine call_auto (hS2) (lets_rfl rfl) (by exact ⟨⟨_, rfl, rfl, rfl⟩, trivial⟩) rfl ?_); intro u; clear u) | (refine is_dcall ?_; refine dcall_auto (hH) (lets_rfl rfl) (by exact trivial) rfl ?_; intro u; clear u))
      all_goals (refine con_end ?_ rfl; intro u; clear u; refine ⟨rfl, rfl, EntGoal.mk ?_ ?_⟩ <;> (repeat' (first | exact trivial | (with_reducible rfl) | apply And.intro | rfl)))
    rw [show ctC ⟨true, t⟩ s = mrgT ⟨true, t⟩ s by unfold ctC; rw [if_pos ⟨ha, by omega, by omega⟩], decide_eq_true (show ctOk ⟨true, t⟩ s from ⟨ha, by omega, by omega⟩)]
    have hbl : t.rows.length = 16 := h
    rw [hv] at hH ht hg
    refine con_of_call2 rfl ?_
    refine call_inline Try.func34 rfl rfl ?_
    intro _
    repeat' (first | (refine is_split ?_; (first | refine sp_no (by exact dec_f (by omega)) ?_ | refine sp_dec (fun g => ?_) (fun g => ?_)) <;> (intro u; clear u)) | (refine is_draw ?_; refine draw_step mixed (by kernel_rfl) ?_; intro u; clear u) | (refine is_call ?_; (first | refine call_auto (hR2) (lets_rfl rfl) (by exact trivial) rfl ?_ | refine call_auto (hS2) (lets_rfl rfl) (by exact ⟨⟨_, rfl, rfl, rfl⟩, trivial⟩) rfl ?_); intro u; clear u) | (refine is_dcall ?_; refine dcall_auto (hH) (lets_rfl rfl) (by exact trivial) rfl ?_; intro u; clear u))
    all_goals
      refine loop_keep (ι := Nat × Tab) (fun | (k, _) => s.rows.length - k) (fun | (k, m) => k ≤ s.rows.length ∧ m = mrgK t s.rows k) [3, 4, 7] (fun | (k, _) => [(8, .t (.one (.v (.int .i64 k))))]) (fun | (_, m) => [(4, .box (tabS m) 1 26)]) (fun _ => []) [] 0 (0, t) ⟨by omega, rfl⟩ ?_ ?_
      · (intro u; clear u; refine ⟨rfl, rfl, EntGoal.mk ?_ ?_⟩ <;> (repeat' (first | exact trivial | (with_reducible rfl) | apply And.intro | rfl)))
      rintro ⟨k, m⟩ ⟨hk, hm⟩ u
      clear u
      have hml : m.rows.length = 16 := by rw [hm, mrgK_len]; exact hbl
      by_cases hc : k < s.rows.length
      · have hok := hrows k hc
        have hbk := hok.1
        repeat' (first | (refine is_split ?_; (first | refine sp_yes (by exact dec_t (by omega)) ?_ | refine sp_dec (fun g => ?_) (fun g => ?_)) <;> (intro u; clear u)) | (refine is_asked ?_; (first | (refine is_spec ?_; (with_reducible refine asked _ (sp_add (by simp only [lo, hi]; omega) (by simp only [lo, hi]; omega)) ?_)) | (refine asked _ (row_gen s.rows k (by show (0 + Int.toNat (k : Int)) * 5 + 1 + 2 = _; omega) (by omega)) ?_) | (refine asked _ (row_bkt s.rows k (by show (0 + Int.toNat (k : Int)) * 5 + 0 = _; omega) (by omega)) ?_) | (refine asked _ (row_ent s.rows k (by show (0 + Int.toNat (k : Int)) * 5 + 1 = _; omega) (by omega)) ?_) | (refine asked _ (tab_gen m (i := (rAt s.rows k).bkt.toNat) (by omega)) ?_) | (refine asked _ (tab_put hml (i := (rAt s.rows k).bkt.toNat) (rAt s.rows k).ent (by omega)) ?_) | refine asked () ⟨by omega, by omega⟩ ?_); intro u; clear u) | (refine is_draw ?_; refine draw_step mixed (by kernel_rfl) ?_; intro u; clear u))
        · rename_i g
          refine again (k + 1, m.set (rAt s.rows k).bkt.toNat (rAt s.rows k).ent) ⟨by omega, mrg_yes hm g⟩ (by show s.rows.length - (k + 1) < s.rows.length - k; omega) ?_
          (intro u; clear u; refine ⟨rfl, rfl, EntGoal.mk ?_ ?_⟩ <;> (repeat' (first | exact trivial | (with_reducible rfl) | apply And.intro | rfl)))
        · rename_i g
          refine again (k + 1, m) ⟨by omega, mrg_no hm g⟩ (by show s.rows.length - (k + 1) < s.rows.length - k; omega) ?_
          (intro u; clear u; refine ⟨rfl, rfl, EntGoal.mk ?_ ?_⟩ <;> (repeat' (first | exact trivial | (with_reducible rfl) | apply And.intro | rfl)))
      · obtain rfl : k = s.rows.length := by omega
        rw [show mrgT ⟨true, t⟩ s = ⟨true, ⟨s.to, m.rows⟩⟩ by rw [hm]; rfl]
        repeat' (refine is_split ?_; refine sp_no (by exact dec_f (by omega)) ?_ <;> (intro u; clear u))
        (refine con_end ?_ rfl; intro u; clear u; refine ⟨rfl, rfl, EntGoal.mk ?_ ?_⟩ <;> (repeat' (first | exact trivial | (with_reducible rfl) | apply And.intro | rfl)))
