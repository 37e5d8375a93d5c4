/- Contracts of functions of the program, or a row of the seat, proved out of them. No condition beyond those that stand in each statement. -/
import Derived.Test.YtiijiofhofkhkaaS19gB2
namespace Go.Proofs.S19
open Go Go.SE
set_option maxRecDepth 100000
set_option maxHeartbeats 4000000
attribute [local irreducible] specI

theorem cellsCt : Try.prog.cellsOf 26 = 10 := by kernel_rfl
theorem con_nilack (q : Mv) (b now : Int) (h0 : 0 ≤ q.ph) : CallCon Try.prog 33 [mvT q, .one (.v (.int .i64 b)), ctlN (lackC q b), .one (.v (.int .i64 now))] [] (.tup [mvT (mvAckM q b (lackC q b) now), .one (.b (mvAckB q b (lackC q b) now))]) [] :=
  mvackn_con q b (lackC q b) now h0 (by unfold lackC; rw [ackC_nil]; rfl)
theorem rises_con (m : Mv) (b window : Int) (l : List Dd) (hw : ∀ d ∈ l, DdWf d) (h0 : 0 ≤ m.ph) : CallCon Try.prog 8 [mvT m, .one (.v (.int .i64 b)), .one (.sl 0 0 l.length), .one (.v (.int .i64 window))] [.row (ddsV l) 13 49 false] (.t (.one (.v (.bool true)))) [] := by
  have hR := refmvright_con m h0
  by_cases hG : l.length ≤ 40 ∧ okMv m ∧ (0 ≤ b ∧ b ≤ 15)
  rotate_left
  · by_cases c0 : okMv m
    · have hR := con_yes hR c0
      refine con_of_call2 rfl ?_
      refine call_inline Try.func8 rfl rfl ?_
      intro _
      repeat' (first | (refine is_split ?_; refine sp_dec (fun g => ?_) (fun g => ?_) <;> (intro u; clear u)) | (refine is_call ?_; (first | refine call_auto (hR) (lets_rfl rfl) (by exact trivial) rfl ?_ | refine call_auto (wakes22_con) (lets_rfl rfl) (by exact trivial) rfl ?_); intro u; clear u))
      all_goals first | ((refine con_end ?_ rfl; intro u; clear u; refine ⟨rfl, rfl, EntGoal.mk ?_ ?_⟩ <;> (repeat' (first | exact trivial | (with_reducible rfl) | apply And.intro | rfl))); done) | (exact absurd ⟨by omega, c0, by omega⟩ hG)
    · have hR := con_no hR c0
      refine con_of_call2 rfl ?_
      refine call_inline Try.func8 rfl rfl ?_
      intro _
      repeat' (first | (refine is_split ?_; refine sp_dec (fun g => ?_) (fun g => ?_) <;> (intro u; clear u)) | (refine is_call ?_; (first | refine call_auto (hR) (lets_rfl rfl) (by exact trivial) rfl ?_ | refine call_auto (wakes22_con) (lets_rfl rfl) (by exact trivial) rfl ?_); intro u; clear u))
      all_goals (first | ((refine con_end ?_ rfl; intro u; clear u; refine ⟨rfl, rfl, EntGoal.mk ?_ ?_⟩ <;> (repeat' (first | exact trivial | (with_reducible rfl) | apply And.intro | rfl))); done))
  obtain ⟨g1, g2, g3⟩ := hG
  have hR := con_yes hR g2
  refine con_of_call2 rfl ?_
  refine call_inline Try.func8 rfl rfl ?_
  intro _
  repeat' (first | (refine is_split ?_; refine sp_no (by exact dec_f (by omega)) ?_ <;> (intro u; clear u)) | (refine is_call ?_; refine call_auto (hR) (lets_rfl rfl) (by exact trivial) rfl ?_; intro u; clear u))
  refine loop_keep (fun k : Nat => l.length - k) (fun k => k ≤ l.length ∧ okMv (mvK b window l m k)) [1, 2, 3, 4] (fun k => [(9, .t (.one (.v (.int .i64 k))))]) (fun k => [(1, .box (mvS (mvK b window l m k)) 1 45)]) (fun _ => []) [] 0 0 ⟨by omega, g2⟩ ?_ ?_
  · (intro u; clear u; refine ⟨rfl, rfl, EntGoal.mk ?_ ?_⟩ <;> (repeat' (first | exact trivial | (with_reducible rfl) | apply And.intro | rfl)))
  intro k hk u
  clear u
  by_cases hc : k < l.length
  rotate_left
  · obtain rfl : k = l.length := by omega
    repeat' (first | (refine is_split ?_; refine sp_no (by exact dec_f (by omega)) ?_ <;> (intro u; clear u)) | (refine is_call ?_; refine call_auto (wakes22_con) (lets_rfl rfl) (by exact trivial) rfl ?_; intro u; clear u))
    (refine con_end ?_ rfl; intro u; clear u; refine ⟨rfl, rfl, EntGoal.mk ?_ ?_⟩ <;> (repeat' (first | exact trivial | (with_reducible rfl) | apply And.intro | rfl)))
  have hwf := (hw (ddAt l k) (by unfold ddAt; rw [List.getD_eq_getElem?_getD, List.getElem?_eq_getElem hc]; exact List.getElem_mem hc)).raw
  have hok := hk.2
  have hrise := step_rises (b := b) (window := window) (ddAt l k) hok
  have hnext : mvK b window l m (k + 1) = stepM b window (mvK b window l m k) (ddAt l k) := rfl
  generalize mvK b window l m k = q at *
  generalize hd : ddAt l k = d at *
  clear hw g2 h0 hR hk
  obtain ⟨act, to, now, ack, sl⟩ := d
  dsimp only at hwf
  have hq0 : 0 ≤ q.ph := by unfold okMv at hok; omega
  rcases hwf with ⟨rfl, hrows⟩ | ⟨ad, rn, rcap, rfl, hiff⟩
  · skip
    by_cases a0 : act = 0
    · subst a0
      have hB := bg_con q to now hq0
      have heq : stepM b window q ⟨0, to, now, ack, .slice none 0 0⟩ = bgM q to now := by unfold stepM; simp
      rw [← heq] at hB
      generalize bgE q to now = e at hB
      clear heq
      generalize hst : stepM b window q _ = o at hB hrise hnext
      have hoo := hrise
      have ho0 : 0 ≤ o.ph := by have h := hoo.1; unfold okMv at h; omega
      have hg := hoo.2
      have hgb := hok.1
      have hRo := con_yes (refmvright_con o ho0) hoo.1
      have hO := open_con o b ho0
      have hW := mvrow_con o ho0
      by_cases ho : opOk o b
      · obtain ⟨f1, f2, f3, f4⟩ := op_facts ho
        have hC := con_yes (refctlrightn_con (c := opC o b) (by rw [opC_of]; decide) (by rw [opC_nil]; rfl)) f1
        rw [decide_eq_true ho] at hO
        have hO := con_known2 hO
        rw [decide_eq_false f4] at hW
        have hW := con_known2 hW
        generalize opC o b = oc at hO hC f1 f2 f3
        repeat' (first | (refine is_split ?_; (first | refine sp_yes (by (first | rfl | exact dec_t (by omega))) ?_ | refine sp_no (by (first | exact dec_f (by omega) | exact ndec_f (by omega))) ?_) <;> (intro u; clear u)) | (refine is_asked ?_; (first | (refine is_spec ?_; (with_reducible refine asked _ (sp_add (by simp only [lo, hi]; omega) (by simp only [lo, hi]; omega)) ?_)) | (refine asked _ (dd_cell l k 12 hd (by show (0 + Int.toNat (k : Int)) * 13 + 3 + 7 + 2 = _; omega) hc rfl) ?_) | (refine asked _ (dd_cell l k 0 hd (by show (0 + Int.toNat (k : Int)) * 13 + 0 = _; omega) hc rfl) ?_) | (refine asked _ (dd_cell l k 1 hd (by show (0 + Int.toNat (k : Int)) * 13 + 1 = _; omega) hc rfl) ?_) | (refine asked _ (dd_cell l k 2 hd (by show (0 + Int.toNat (k : Int)) * 13 + 2 = _; omega) hc rfl) ?_) | refine asked () ⟨by omega, by omega⟩ ?_); intro u; clear u) | (refine is_draw ?_; refine draw_step mixed (by kernel_rfl) ?_; intro u; clear u) | (refine is_call ?_; (first | refine call_auto (hO) (lets_rfl rfl) (by exact trivial) rfl ?_ | refine call_auto (hW) (lets_rfl rfl) (by exact trivial) rfl ?_ | refine call_auto (hC) (lets_rfl rfl) (by exact trivial) rfl ?_ | refine call_auto (hRo) (lets_rfl rfl) (by exact trivial) rfl ?_); intro u; clear u) | (refine is_dcall ?_; refine dcall_auto (hB) (lets_rfl rfl) (by exact trivial) rfl ?_; intro u; clear u))
        all_goals first | ((refine con_end ?_ rfl; intro u; clear u; refine ⟨rfl, rfl, EntGoal.mk ?_ ?_⟩ <;> (repeat' (first | exact trivial | (with_reducible rfl) | apply And.intro | rfl))); done) | (refine again (k + 1) ⟨by omega, by rw [hnext]; exact hoo.1⟩ (by omega) ?_; (intro u; clear u; refine ⟨rfl, rfl, EntGoal.mk ?_ ?_⟩ <;> (repeat' (first | exact trivial | (with_reducible rfl) | apply And.intro | rfl))); all_goals first | rfl | (simp only [hnext]; done) | (rw [hnext]; done))
      · rw [decide_eq_false ho] at hO
        have hO := con_known2 hO
        by_cases hr : mvRowB o
        · rw [decide_eq_true hr] at hW
          have hW := con_known2 hW
          have hE := con_yes (refright_con (mvRowE o)) (row_facts hr)
          generalize mvRowE o = oe at hW hE
          repeat' (first | (refine is_split ?_; (first | refine sp_yes (by (first | rfl | exact dec_t (by omega))) ?_ | refine sp_no (by exact dec_f (by omega)) ?_) <;> (intro u; clear u)) | (refine is_asked ?_; (first | (refine is_spec ?_; (with_reducible refine asked _ (sp_add (by simp only [lo, hi]; omega) (by simp only [lo, hi]; omega)) ?_)) | (refine asked _ (dd_cell l k 12 hd (by show (0 + Int.toNat (k : Int)) * 13 + 3 + 7 + 2 = _; omega) hc rfl) ?_) | (refine asked _ (dd_cell l k 0 hd (by show (0 + Int.toNat (k : Int)) * 13 + 0 = _; omega) hc rfl) ?_) | (refine asked _ (dd_cell l k 1 hd (by show (0 + Int.toNat (k : Int)) * 13 + 1 = _; omega) hc rfl) ?_) | (refine asked _ (dd_cell l k 2 hd (by show (0 + Int.toNat (k : Int)) * 13 + 2 = _; omega) hc rfl) ?_) | refine asked () ⟨by omega, by omega⟩ ?_); intro u; clear u) | (refine is_draw ?_; refine draw_step mixed (by kernel_rfl) ?_; intro u; clear u) | (refine is_call ?_; (first | refine call_auto (hO) (lets_rfl rfl) (by exact trivial) rfl ?_ | refine call_auto (hW) (lets_rfl rfl) (by exact trivial) rfl ?_ | refine call_auto (hE) (lets_rfl rfl) (by exact trivial) rfl ?_ | refine call_auto (hRo) (lets_rfl rfl) (by exact trivial) rfl ?_); intro u; clear u) | (refine is_dcall ?_; refine dcall_auto (hB) (lets_rfl rfl) (by exact trivial) rfl ?_; intro u; clear u))
          all_goals first | ((refine con_end ?_ rfl; intro u; clear u; refine ⟨rfl, rfl, EntGoal.mk ?_ ?_⟩ <;> (repeat' (first | exact trivial | (with_reducible rfl) | apply And.intro | rfl))); done) | (refine again (k + 1) ⟨by omega, by rw [hnext]; exact hoo.1⟩ (by omega) ?_; (intro u; clear u; refine ⟨rfl, rfl, EntGoal.mk ?_ ?_⟩ <;> (repeat' (first | exact trivial | (with_reducible rfl) | apply And.intro | rfl))); all_goals first | rfl | (simp only [hnext]; done) | (rw [hnext]; done))
        · rw [decide_eq_false hr] at hW
          have hW := con_known2 hW
          repeat' (first | (refine is_split ?_; (first | refine sp_yes (by (first | rfl | exact dec_t (by omega))) ?_ | refine sp_no (by exact dec_f (by omega)) ?_) <;> (intro u; clear u)) | (refine is_asked ?_; (first | (refine is_spec ?_; (with_reducible refine asked _ (sp_add (by simp only [lo, hi]; omega) (by simp only [lo, hi]; omega)) ?_)) | (refine asked _ (dd_cell l k 12 hd (by show (0 + Int.toNat (k : Int)) * 13 + 3 + 7 + 2 = _; omega) hc rfl) ?_) | (refine asked _ (dd_cell l k 0 hd (by show (0 + Int.toNat (k : Int)) * 13 + 0 = _; omega) hc rfl) ?_) | (refine asked _ (dd_cell l k 1 hd (by show (0 + Int.toNat (k : Int)) * 13 + 1 = _; omega) hc rfl) ?_) | (refine asked _ (dd_cell l k 2 hd (by show (0 + Int.toNat (k : Int)) * 13 + 2 = _; omega) hc rfl) ?_) | refine asked () ⟨by omega, by omega⟩ ?_); intro u; clear u) | (refine is_draw ?_; refine draw_step mixed (by kernel_rfl) ?_; intro u; clear u) | (refine is_call ?_; (first | refine call_auto (hO) (lets_rfl rfl) (by exact trivial) rfl ?_ | refine call_auto (hW) (lets_rfl rfl) (by exact trivial) rfl ?_ | refine call_auto (hRo) (lets_rfl rfl) (by exact trivial) rfl ?_); intro u; clear u) | (refine is_dcall ?_; refine dcall_auto (hB) (lets_rfl rfl) (by exact trivial) rfl ?_; intro u; clear u))
          all_goals first | ((refine con_end ?_ rfl; intro u; clear u; refine ⟨rfl, rfl, EntGoal.mk ?_ ?_⟩ <;> (repeat' (first | exact trivial | (with_reducible rfl) | apply And.intro | rfl))); done) | (refine again (k + 1) ⟨by omega, by rw [hnext]; exact hoo.1⟩ (by omega) ?_; (intro u; clear u; refine ⟨rfl, rfl, EntGoal.mk ?_ ?_⟩ <;> (repeat' (first | exact trivial | (with_reducible rfl) | apply And.intro | rfl))); all_goals first | rfl | (simp only [hnext]; done) | (rw [hnext]; done))
    by_cases a1 : act = 1
    · subst a1
      have hB := se_con q to hq0
      have heq : stepM b window q ⟨1, to, now, ack, .slice none 0 0⟩ = seM q to := by unfold stepM; simp
      rw [← heq] at hB
      generalize seE q to = e at hB
      clear heq
      generalize hst : stepM b window q _ = o at hB hrise hnext
      have hoo := hrise
      have ho0 : 0 ≤ o.ph := by have h := hoo.1; unfold okMv at h; omega
      have hg := hoo.2
      have hgb := hok.1
      have hRo := con_yes (refmvright_con o ho0) hoo.1
      have hO := open_con o b ho0
      have hW := mvrow_con o ho0
      by_cases ho : opOk o b
      · obtain ⟨f1, f2, f3, f4⟩ := op_facts ho
        have hC := con_yes (refctlrightn_con (c := opC o b) (by rw [opC_of]; decide) (by rw [opC_nil]; rfl)) f1
        rw [decide_eq_true ho] at hO
        have hO := con_known2 hO
        rw [decide_eq_false f4] at hW
        have hW := con_known2 hW
        generalize opC o b = oc at hO hC f1 f2 f3
        repeat' (first | (refine is_split ?_; (first | refine sp_yes (by (first | rfl | exact dec_t (by omega))) ?_ | refine sp_no (by (first | rfl | exact dec_f (by omega) | exact ndec_f (by omega))) ?_) <;> (intro u; clear u)) | (refine is_asked ?_; (first | (refine is_spec ?_; (with_reducible refine asked _ (sp_add (by simp only [lo, hi]; omega) (by simp only [lo, hi]; omega)) ?_)) | (refine asked _ (dd_cell l k 12 hd (by show (0 + Int.toNat (k : Int)) * 13 + 3 + 7 + 2 = _; omega) hc rfl) ?_) | (refine asked _ (dd_cell l k 0 hd (by show (0 + Int.toNat (k : Int)) * 13 + 0 = _; omega) hc rfl) ?_) | (refine asked _ (dd_cell l k 1 hd (by show (0 + Int.toNat (k : Int)) * 13 + 1 = _; omega) hc rfl) ?_) | refine asked () ⟨by omega, by omega⟩ ?_); intro u; clear u) | (refine is_draw ?_; refine draw_step mixed (by kernel_rfl) ?_; intro u; clear u) | (refine is_call ?_; (first | refine call_auto (hO) (lets_rfl rfl) (by exact trivial) rfl ?_ | refine call_auto (hW) (lets_rfl rfl) (by exact trivial) rfl ?_ | refine call_auto (hC) (lets_rfl rfl) (by exact trivial) rfl ?_ | refine call_auto (hRo) (lets_rfl rfl) (by exact trivial) rfl ?_); intro u; clear u) | (refine is_dcall ?_; refine dcall_auto (hB) (lets_rfl rfl) (by exact trivial) rfl ?_; intro u; clear u))
        all_goals first | ((refine con_end ?_ rfl; intro u; clear u; refine ⟨rfl, rfl, EntGoal.mk ?_ ?_⟩ <;> (repeat' (first | exact trivial | (with_reducible rfl) | apply And.intro | rfl))); done) | (refine again (k + 1) ⟨by omega, by rw [hnext]; exact hoo.1⟩ (by omega) ?_; (intro u; clear u; refine ⟨rfl, rfl, EntGoal.mk ?_ ?_⟩ <;> (repeat' (first | exact trivial | (with_reducible rfl) | apply And.intro | rfl))); all_goals first | rfl | (simp only [hnext]; done) | (rw [hnext]; done))
      · rw [decide_eq_false ho] at hO
        have hO := con_known2 hO
        by_cases hr : mvRowB o
        · rw [decide_eq_true hr] at hW
          have hW := con_known2 hW
          have hE := con_yes (refright_con (mvRowE o)) (row_facts hr)
          generalize mvRowE o = oe at hW hE
          repeat' (first | (refine is_split ?_; (first | refine sp_yes (by (first | rfl | exact dec_t (by omega))) ?_ | refine sp_no (by (first | rfl | exact dec_f (by omega))) ?_) <;> (intro u; clear u)) | (refine is_asked ?_; (first | (refine is_spec ?_; (with_reducible refine asked _ (sp_add (by simp only [lo, hi]; omega) (by simp only [lo, hi]; omega)) ?_)) | (refine asked _ (dd_cell l k 12 hd (by show (0 + Int.toNat (k : Int)) * 13 + 3 + 7 + 2 = _; omega) hc rfl) ?_) | (refine asked _ (dd_cell l k 0 hd (by show (0 + Int.toNat (k : Int)) * 13 + 0 = _; omega) hc rfl) ?_) | (refine asked _ (dd_cell l k 1 hd (by show (0 + Int.toNat (k : Int)) * 13 + 1 = _; omega) hc rfl) ?_) | refine asked () ⟨by omega, by omega⟩ ?_); intro u; clear u) | (refine is_draw ?_; refine draw_step mixed (by kernel_rfl) ?_; intro u; clear u) | (refine is_call ?_; (first | refine call_auto (hO) (lets_rfl rfl) (by exact trivial) rfl ?_ | refine call_auto (hW) (lets_rfl rfl) (by exact trivial) rfl ?_ | refine call_auto (hE) (lets_rfl rfl) (by exact trivial) rfl ?_ | refine call_auto (hRo) (lets_rfl rfl) (by exact trivial) rfl ?_); intro u; clear u) | (refine is_dcall ?_; refine dcall_auto (hB) (lets_rfl rfl) (by exact trivial) rfl ?_; intro u; clear u))
          all_goals first | ((refine con_end ?_ rfl; intro u; clear u; refine ⟨rfl, rfl, EntGoal.mk ?_ ?_⟩ <;> (repeat' (first | exact trivial | (with_reducible rfl) | apply And.intro | rfl))); done) | (refine again (k + 1) ⟨by omega, by rw [hnext]; exact hoo.1⟩ (by omega) ?_; (intro u; clear u; refine ⟨rfl, rfl, EntGoal.mk ?_ ?_⟩ <;> (repeat' (first | exact trivial | (with_reducible rfl) | apply And.intro | rfl))); all_goals first | rfl | (simp only [hnext]; done) | (rw [hnext]; done))
        · rw [decide_eq_false hr] at hW
          have hW := con_known2 hW
          repeat' (first | (refine is_split ?_; (first | refine sp_yes (by (first | rfl | exact dec_t (by omega))) ?_ | refine sp_no (by (first | rfl | exact dec_f (by omega))) ?_) <;> (intro u; clear u)) | (refine is_asked ?_; (first | (refine is_spec ?_; (with_reducible refine asked _ (sp_add (by simp only [lo, hi]; omega) (by simp only [lo, hi]; omega)) ?_)) | (refine asked _ (dd_cell l k 12 hd (by show (0 + Int.toNat (k : Int)) * 13 + 3 + 7 + 2 = _; omega) hc rfl) ?_) | (refine asked _ (dd_cell l k 0 hd (by show (0 + Int.toNat (k : Int)) * 13 + 0 = _; omega) hc rfl) ?_) | (refine asked _ (dd_cell l k 1 hd (by show (0 + Int.toNat (k : Int)) * 13 + 1 = _; omega) hc rfl) ?_) | refine asked () ⟨by omega, by omega⟩ ?_); intro u; clear u) | (refine is_draw ?_; refine draw_step mixed (by kernel_rfl) ?_; intro u; clear u) | (refine is_call ?_; (first | refine call_auto (hO) (lets_rfl rfl) (by exact trivial) rfl ?_ | refine call_auto (hW) (lets_rfl rfl) (by exact trivial) rfl ?_ | refine call_auto (hRo) (lets_rfl rfl) (by exact trivial) rfl ?_); intro u; clear u) | (refine is_dcall ?_; refine dcall_auto (hB) (lets_rfl rfl) (by exact trivial) rfl ?_; intro u; clear u))
          all_goals first | ((refine con_end ?_ rfl; intro u; clear u; refine ⟨rfl, rfl, EntGoal.mk ?_ ?_⟩ <;> (repeat' (first | exact trivial | (with_reducible rfl) | apply And.intro | rfl))); done) | (refine again (k + 1) ⟨by omega, by rw [hnext]; exact hoo.1⟩ (by omega) ?_; (intro u; clear u; refine ⟨rfl, rfl, EntGoal.mk ?_ ?_⟩ <;> (repeat' (first | exact trivial | (with_reducible rfl) | apply And.intro | rfl))); all_goals first | rfl | (simp only [hnext]; done) | (rw [hnext]; done))
    by_cases a2 : act = 2
    · subst a2
      have hB := re_con q now window hq0
      have heq : stepM b window q ⟨2, to, now, ack, .slice none 0 0⟩ = reM q now window := by unfold stepM; simp
      rw [← heq] at hB
      generalize reE q now window = e at hB
      clear heq
      generalize hst : stepM b window q _ = o at hB hrise hnext
      have hoo := hrise
      have ho0 : 0 ≤ o.ph := by have h := hoo.1; unfold okMv at h; omega
      have hg := hoo.2
      have hgb := hok.1
      have hRo := con_yes (refmvright_con o ho0) hoo.1
      have hO := open_con o b ho0
      have hW := mvrow_con o ho0
      by_cases ho : opOk o b
      · obtain ⟨f1, f2, f3, f4⟩ := op_facts ho
        have hC := con_yes (refctlrightn_con (c := opC o b) (by rw [opC_of]; decide) (by rw [opC_nil]; rfl)) f1
        rw [decide_eq_true ho] at hO
        have hO := con_known2 hO
        rw [decide_eq_false f4] at hW
        have hW := con_known2 hW
        generalize opC o b = oc at hO hC f1 f2 f3
        repeat' (first | (refine is_split ?_; (first | refine sp_yes (by (first | rfl | exact dec_t (by omega))) ?_ | refine sp_no (by (first | rfl | exact dec_f (by omega) | exact ndec_f (by omega))) ?_) <;> (intro u; clear u)) | (refine is_asked ?_; (first | (refine is_spec ?_; (with_reducible refine asked _ (sp_add (by simp only [lo, hi]; omega) (by simp only [lo, hi]; omega)) ?_)) | (refine asked _ (dd_cell l k 12 hd (by show (0 + Int.toNat (k : Int)) * 13 + 3 + 7 + 2 = _; omega) hc rfl) ?_) | (refine asked _ (dd_cell l k 0 hd (by show (0 + Int.toNat (k : Int)) * 13 + 0 = _; omega) hc rfl) ?_) | (refine asked _ (dd_cell l k 2 hd (by show (0 + Int.toNat (k : Int)) * 13 + 2 = _; omega) hc rfl) ?_) | refine asked () ⟨by omega, by omega⟩ ?_); intro u; clear u) | (refine is_draw ?_; refine draw_step mixed (by kernel_rfl) ?_; intro u; clear u) | (refine is_call ?_; (first | refine call_auto (hO) (lets_rfl rfl) (by exact trivial) rfl ?_ | refine call_auto (hW) (lets_rfl rfl) (by exact trivial) rfl ?_ | refine call_auto (hC) (lets_rfl rfl) (by exact trivial) rfl ?_ | refine call_auto (hRo) (lets_rfl rfl) (by exact trivial) rfl ?_); intro u; clear u) | (refine is_dcall ?_; refine dcall_auto (hB) (lets_rfl rfl) (by exact trivial) rfl ?_; intro u; clear u))
        all_goals first | ((refine con_end ?_ rfl; intro u; clear u; refine ⟨rfl, rfl, EntGoal.mk ?_ ?_⟩ <;> (repeat' (first | exact trivial | (with_reducible rfl) | apply And.intro | rfl))); done) | (refine again (k + 1) ⟨by omega, by rw [hnext]; exact hoo.1⟩ (by omega) ?_; (intro u; clear u; refine ⟨rfl, rfl, EntGoal.mk ?_ ?_⟩ <;> (repeat' (first | exact trivial | (with_reducible rfl) | apply And.intro | rfl))); all_goals first | rfl | (simp only [hnext]; done) | (rw [hnext]; done))
      · rw [decide_eq_false ho] at hO
        have hO := con_known2 hO
        by_cases hr : mvRowB o
        · rw [decide_eq_true hr] at hW
          have hW := con_known2 hW
          have hE := con_yes (refright_con (mvRowE o)) (row_facts hr)
          generalize mvRowE o = oe at hW hE
          repeat' (first | (refine is_split ?_; (first | refine sp_yes (by (first | rfl | exact dec_t (by omega))) ?_ | refine sp_no (by (first | rfl | exact dec_f (by omega))) ?_) <;> (intro u; clear u)) | (refine is_asked ?_; (first | (refine is_spec ?_; (with_reducible refine asked _ (sp_add (by simp only [lo, hi]; omega) (by simp only [lo, hi]; omega)) ?_)) | (refine asked _ (dd_cell l k 12 hd (by show (0 + Int.toNat (k : Int)) * 13 + 3 + 7 + 2 = _; omega) hc rfl) ?_) | (refine asked _ (dd_cell l k 0 hd (by show (0 + Int.toNat (k : Int)) * 13 + 0 = _; omega) hc rfl) ?_) | (refine asked _ (dd_cell l k 2 hd (by show (0 + Int.toNat (k : Int)) * 13 + 2 = _; omega) hc rfl) ?_) | refine asked () ⟨by omega, by omega⟩ ?_); intro u; clear u) | (refine is_draw ?_; refine draw_step mixed (by kernel_rfl) ?_; intro u; clear u) | (refine is_call ?_; (first | refine call_auto (hO) (lets_rfl rfl) (by exact trivial) rfl ?_ | refine call_auto (hW) (lets_rfl rfl) (by exact trivial) rfl ?_ | refine call_auto (hE) (lets_rfl rfl) (by exact trivial) rfl ?_ | refine call_auto (hRo) (lets_rfl rfl) (by exact trivial) rfl ?_); intro u; clear u) | (refine is_dcall ?_; refine dcall_auto (hB) (lets_rfl rfl) (by exact trivial) rfl ?_; intro u; clear u))
          all_goals first | ((refine con_end ?_ rfl; intro u; clear u; refine ⟨rfl, rfl, EntGoal.mk ?_ ?_⟩ <;> (repeat' (first | exact trivial | (with_reducible rfl) | apply And.intro | rfl))); done) | (refine again (k + 1) ⟨by omega, by rw [hnext]; exact hoo.1⟩ (by omega) ?_; (intro u; clear u; refine ⟨rfl, rfl, EntGoal.mk ?_ ?_⟩ <;> (repeat' (first | exact trivial | (with_reducible rfl) | apply And.intro | rfl))); all_goals first | rfl | (simp only [hnext]; done) | (rw [hnext]; done))
        · rw [decide_eq_false hr] at hW
          have hW := con_known2 hW
          repeat' (first | (refine is_split ?_; (first | refine sp_yes (by (first | rfl | exact dec_t (by omega))) ?_ | refine sp_no (by (first | rfl | exact dec_f (by omega))) ?_) <;> (intro u; clear u)) | (refine is_asked ?_; (first | (refine is_spec ?_; (with_reducible refine asked _ (sp_add (by simp only [lo, hi]; omega) (by simp only [lo, hi]; omega)) ?_)) | (refine asked _ (dd_cell l k 12 hd (by show (0 + Int.toNat (k : Int)) * 13 + 3 + 7 + 2 = _; omega) hc rfl) ?_) | (refine asked _ (dd_cell l k 0 hd (by show (0 + Int.toNat (k : Int)) * 13 + 0 = _; omega) hc rfl) ?_) | (refine asked _ (dd_cell l k 2 hd (by show (0 + Int.toNat (k : Int)) * 13 + 2 = _; omega) hc rfl) ?_) | refine asked () ⟨by omega, by omega⟩ ?_); intro u; clear u) | (refine is_draw ?_; refine draw_step mixed (by kernel_rfl) ?_; intro u; clear u) | (refine is_call ?_; (first | refine call_auto (hO) (lets_rfl rfl) (by exact trivial) rfl ?_ | refine call_auto (hW) (lets_rfl rfl) (by exact trivial) rfl ?_ | refine call_auto (hRo) (lets_rfl rfl) (by exact trivial) rfl ?_); intro u; clear u) | (refine is_dcall ?_; refine dcall_auto (hB) (lets_rfl rfl) (by exact trivial) rfl ?_; intro u; clear u))
          all_goals first | ((refine con_end ?_ rfl; intro u; clear u; refine ⟨rfl, rfl, EntGoal.mk ?_ ?_⟩ <;> (repeat' (first | exact trivial | (with_reducible rfl) | apply And.intro | rfl))); done) | (refine again (k + 1) ⟨by omega, by rw [hnext]; exact hoo.1⟩ (by omega) ?_; (intro u; clear u; refine ⟨rfl, rfl, EntGoal.mk ?_ ?_⟩ <;> (repeat' (first | exact trivial | (with_reducible rfl) | apply And.intro | rfl))); all_goals first | rfl | (simp only [hnext]; done) | (rw [hnext]; done))
    by_cases a3 : act = 3
    · subst a3
      have hL := lack_con q b hq0
      have hB := con_nilack q b now hq0
      have heq : stepM b window q ⟨3, to, now, ack, .slice none 0 0⟩ = mvAckM q b (lackC q b) now := by unfold stepM; simp
      rw [← heq] at hB
      generalize decide (mvAckB q b (lackC q b) now) = e at hB
      generalize lackC q b = lc at hB hL heq
      clear heq
      generalize hst : stepM b window q _ = o at hB hrise hnext
      have hoo := hrise
      have ho0 : 0 ≤ o.ph := by have h := hoo.1; unfold okMv at h; omega
      have hg := hoo.2
      have hgb := hok.1
      have hRo := con_yes (refmvright_con o ho0) hoo.1
      have hO := open_con o b ho0
      have hW := mvrow_con o ho0
      by_cases ho : opOk o b
      · obtain ⟨f1, f2, f3, f4⟩ := op_facts ho
        have hC := con_yes (refctlrightn_con (c := opC o b) (by rw [opC_of]; decide) (by rw [opC_nil]; rfl)) f1
        rw [decide_eq_true ho] at hO
        have hO := con_known2 hO
        rw [decide_eq_false f4] at hW
        have hW := con_known2 hW
        generalize opC o b = oc at hO hC f1 f2 f3
        repeat' (first | (refine is_split ?_; (first | refine sp_yes (by (first | rfl | exact dec_t (by omega))) ?_ | refine sp_no (by (first | rfl | exact dec_f (by omega) | exact ndec_f (by omega))) ?_) <;> (intro u; clear u)) | (refine is_asked ?_; (first | (refine is_spec ?_; (with_reducible refine asked _ (sp_add (by simp only [lo, hi]; omega) (by simp only [lo, hi]; omega)) ?_)) | (refine asked _ (dd_cell l k 12 hd (by show (0 + Int.toNat (k : Int)) * 13 + 3 + 7 + 2 = _; omega) hc rfl) ?_) | (refine asked _ (dd_cell l k 0 hd (by show (0 + Int.toNat (k : Int)) * 13 + 0 = _; omega) hc rfl) ?_) | (refine asked _ (dd_cell l k 2 hd (by show (0 + Int.toNat (k : Int)) * 13 + 2 = _; omega) hc rfl) ?_) | refine asked () ⟨by omega, by omega⟩ ?_); intro u; clear u) | (refine is_draw ?_; refine draw_step mixed (by kernel_rfl) ?_; intro u; clear u) | (refine is_call ?_; (first | refine call_auto (hO) (lets_rfl rfl) (by exact trivial) rfl ?_ | refine call_auto (hW) (lets_rfl rfl) (by exact trivial) rfl ?_ | refine call_auto (hC) (lets_rfl rfl) (by exact trivial) rfl ?_ | refine call_auto (hRo) (lets_rfl rfl) (by exact trivial) rfl ?_); intro u; clear u) | (refine is_dcall ?_; (first | refine dcall_auto (hL) (lets_rfl rfl) (by exact trivial) rfl ?_ | refine dcall_auto (hB) (lets_rfl rfl) (by exact trivial) rfl ?_); intro u; clear u))
        all_goals first | ((refine con_end ?_ rfl; intro u; clear u; refine ⟨rfl, rfl, EntGoal.mk ?_ ?_⟩ <;> (repeat' (first | exact trivial | (with_reducible rfl) | apply And.intro | rfl))); done) | (refine again (k + 1) ⟨by omega, by rw [hnext]; exact hoo.1⟩ (by omega) ?_; (intro u; clear u; refine ⟨rfl, rfl, EntGoal.mk ?_ ?_⟩ <;> (repeat' (first | exact trivial | (with_reducible rfl) | apply And.intro | rfl))); all_goals first | rfl | (simp only [hnext]; done) | (rw [hnext]; done))
      · rw [decide_eq_false ho] at hO
        have hO := con_known2 hO
        by_cases hr : mvRowB o
        · rw [decide_eq_true hr] at hW
          have hW := con_known2 hW
          have hE := con_yes (refright_con (mvRowE o)) (row_facts hr)
          generalize mvRowE o = oe at hW hE
          repeat' (first | (refine is_split ?_; (first | refine sp_yes (by (first | rfl | exact dec_t (by omega))) ?_ | refine sp_no (by (first | rfl | exact dec_f (by omega))) ?_) <;> (intro u; clear u)) | (refine is_asked ?_; (first | (refine is_spec ?_; (with_reducible refine asked _ (sp_add (by simp only [lo, hi]; omega) (by simp only [lo, hi]; omega)) ?_)) | (refine asked _ (dd_cell l k 12 hd (by show (0 + Int.toNat (k : Int)) * 13 + 3 + 7 + 2 = _; omega) hc rfl) ?_) | (refine asked _ (dd_cell l k 0 hd (by show (0 + Int.toNat (k : Int)) * 13 + 0 = _; omega) hc rfl) ?_) | (refine asked _ (dd_cell l k 2 hd (by show (0 + Int.toNat (k : Int)) * 13 + 2 = _; omega) hc rfl) ?_) | refine asked () ⟨by omega, by omega⟩ ?_); intro u; clear u) | (refine is_draw ?_; refine draw_step mixed (by kernel_rfl) ?_; intro u; clear u) | (refine is_call ?_; (first | refine call_auto (hO) (lets_rfl rfl) (by exact trivial) rfl ?_ | refine call_auto (hW) (lets_rfl rfl) (by exact trivial) rfl ?_ | refine call_auto (hE) (lets_rfl rfl) (by exact trivial) rfl ?_ | refine call_auto (hRo) (lets_rfl rfl) (by exact trivial) rfl ?_); intro u; clear u) | (refine is_dcall ?_; (first | refine dcall_auto (hL) (lets_rfl rfl) (by exact trivial) rfl ?_ | refine dcall_auto (hB) (lets_rfl rfl) (by exact trivial) rfl ?_); intro u; clear u))
          all_goals first | ((refine con_end ?_ rfl; intro u; clear u; refine ⟨rfl, rfl, EntGoal.mk ?_ ?_⟩ <;> (repeat' (first | exact trivial | (with_reducible rfl) | apply And.intro | rfl))); done) | (refine again (k + 1) ⟨by omega, by rw [hnext]; exact hoo.1⟩ (by omega) ?_; (intro u; clear u; refine ⟨rfl, rfl, EntGoal.mk ?_ ?_⟩ <;> (repeat' (first | exact trivial | (with_reducible rfl) | apply And.intro | rfl))); all_goals first | rfl | (simp only [hnext]; done) | (rw [hnext]; done))
        · rw [decide_eq_false hr] at hW
          have hW := con_known2 hW
          repeat' (first | (refine is_split ?_; (first | refine sp_yes (by (first | rfl | exact dec_t (by omega))) ?_ | refine sp_no (by (first | rfl | exact dec_f (by omega))) ?_) <;> (intro u; clear u)) | (refine is_asked ?_; (first | (refine is_spec ?_; (with_reducible refine asked _ (sp_add (by simp only [lo, hi]; omega) (by simp only [lo, hi]; omega)) ?_)) | (refine asked _ (dd_cell l k 12 hd (by show (0 + Int.toNat (k : Int)) * 13 + 3 + 7 + 2 = _; omega) hc rfl) ?_) | (refine asked _ (dd_cell l k 0 hd (by show (0 + Int.toNat (k : Int)) * 13 + 0 = _; omega) hc rfl) ?_) | (refine asked _ (dd_cell l k 2 hd (by show (0 + Int.toNat (k : Int)) * 13 + 2 = _; omega) hc rfl) ?_) | refine asked () ⟨by omega, by omega⟩ ?_); intro u; clear u) | (refine is_draw ?_; refine draw_step mixed (by kernel_rfl) ?_; intro u; clear u) | (refine is_call ?_; (first | refine call_auto (hO) (lets_rfl rfl) (by exact trivial) rfl ?_ | refine call_auto (hW) (lets_rfl rfl) (by exact trivial) rfl ?_ | refine call_auto (hRo) (lets_rfl rfl) (by exact trivial) rfl ?_); intro u; clear u) | (refine is_dcall ?_; (first | refine dcall_auto (hL) (lets_rfl rfl) (by exact trivial) rfl ?_ | refine dcall_auto (hB) (lets_rfl rfl) (by exact trivial) rfl ?_); intro u; clear u))
          all_goals first | ((refine con_end ?_ rfl; intro u; clear u; refine ⟨rfl, rfl, EntGoal.mk ?_ ?_⟩ <;> (repeat' (first | exact trivial | (with_reducible rfl) | apply And.intro | rfl))); done) | (refine again (k + 1) ⟨by omega, by rw [hnext]; exact hoo.1⟩ (by omega) ?_; (intro u; clear u; refine ⟨rfl, rfl, EntGoal.mk ?_ ?_⟩ <;> (repeat' (first | exact trivial | (with_reducible rfl) | apply And.intro | rfl))); all_goals first | rfl | (simp only [hnext]; done) | (rw [hnext]; done))
    by_cases a4 : act = 4
    · subst a4
      have hB := ag_con q to hq0
      have heq : stepM b window q ⟨4, to, now, ack, .slice none 0 0⟩ = agM q to := by unfold stepM; simp
      rw [← heq] at hB
      generalize agE q to = e at hB
      clear heq
      generalize hst : stepM b window q _ = o at hB hrise hnext
      have hoo := hrise
      have ho0 : 0 ≤ o.ph := by have h := hoo.1; unfold okMv at h; omega
      have hg := hoo.2
      have hgb := hok.1
      have hRo := con_yes (refmvright_con o ho0) hoo.1
      have hO := open_con o b ho0
      have hW := mvrow_con o ho0
      by_cases ho : opOk o b
      · obtain ⟨f1, f2, f3, f4⟩ := op_facts ho
        have hC := con_yes (refctlrightn_con (c := opC o b) (by rw [opC_of]; decide) (by rw [opC_nil]; rfl)) f1
        rw [decide_eq_true ho] at hO
        have hO := con_known2 hO
        rw [decide_eq_false f4] at hW
        have hW := con_known2 hW
        generalize opC o b = oc at hO hC f1 f2 f3
        repeat' (first | (refine is_split ?_; (first | refine sp_yes (by (first | rfl | exact dec_t (by omega))) ?_ | refine sp_no (by (first | rfl | exact dec_f (by omega) | exact ndec_f (by omega))) ?_) <;> (intro u; clear u)) | (refine is_asked ?_; (first | (refine is_spec ?_; (with_reducible refine asked _ (sp_add (by simp only [lo, hi]; omega) (by simp only [lo, hi]; omega)) ?_)) | (refine asked _ (dd_cell l k 12 hd (by show (0 + Int.toNat (k : Int)) * 13 + 3 + 7 + 2 = _; omega) hc rfl) ?_) | (refine asked _ (dd_cell l k 0 hd (by show (0 + Int.toNat (k : Int)) * 13 + 0 = _; omega) hc rfl) ?_) | (refine asked _ (dd_cell l k 1 hd (by show (0 + Int.toNat (k : Int)) * 13 + 1 = _; omega) hc rfl) ?_) | refine asked () ⟨by omega, by omega⟩ ?_); intro u; clear u) | (refine is_draw ?_; refine draw_step mixed (by kernel_rfl) ?_; intro u; clear u) | (refine is_call ?_; (first | refine call_auto (hO) (lets_rfl rfl) (by exact trivial) rfl ?_ | refine call_auto (hW) (lets_rfl rfl) (by exact trivial) rfl ?_ | refine call_auto (hC) (lets_rfl rfl) (by exact trivial) rfl ?_ | refine call_auto (hRo) (lets_rfl rfl) (by exact trivial) rfl ?_); intro u; clear u) | (refine is_dcall ?_; refine dcall_auto (hB) (lets_rfl rfl) (by exact trivial) rfl ?_; intro u; clear u))
        all_goals first | ((refine con_end ?_ rfl; intro u; clear u; refine ⟨rfl, rfl, EntGoal.mk ?_ ?_⟩ <;> (repeat' (first | exact trivial | (with_reducible rfl) | apply And.intro | rfl))); done) | (refine again (k + 1) ⟨by omega, by rw [hnext]; exact hoo.1⟩ (by omega) ?_; (intro u; clear u; refine ⟨rfl, rfl, EntGoal.mk ?_ ?_⟩ <;> (repeat' (first | exact trivial | (with_reducible rfl) | apply And.intro | rfl))); all_goals first | rfl | (simp only [hnext]; done) | (rw [hnext]; done))
      · rw [decide_eq_false ho] at hO
        have hO := con_known2 hO
        by_cases hr : mvRowB o
        · rw [decide_eq_true hr] at hW
          have hW := con_known2 hW
          have hE := con_yes (refright_con (mvRowE o)) (row_facts hr)
          generalize mvRowE o = oe at hW hE
          repeat' (first | (refine is_split ?_; (first | refine sp_yes (by (first | rfl | exact dec_t (by omega))) ?_ | refine sp_no (by (first | rfl | exact dec_f (by omega))) ?_) <;> (intro u; clear u)) | (refine is_asked ?_; (first | (refine is_spec ?_; (with_reducible refine asked _ (sp_add (by simp only [lo, hi]; omega) (by simp only [lo, hi]; omega)) ?_)) | (refine asked _ (dd_cell l k 12 hd (by show (0 + Int.toNat (k : Int)) * 13 + 3 + 7 + 2 = _; omega) hc rfl) ?_) | (refine asked _ (dd_cell l k 0 hd (by show (0 + Int.toNat (k : Int)) * 13 + 0 = _; omega) hc rfl) ?_) | (refine asked _ (dd_cell l k 1 hd (by show (0 + Int.toNat (k : Int)) * 13 + 1 = _; omega) hc rfl) ?_) | refine asked () ⟨by omega, by omega⟩ ?_); intro u; clear u) | (refine is_draw ?_; refine draw_step mixed (by kernel_rfl) ?_; intro u; clear u) | (refine is_call ?_; (first | refine call_auto (hO) (lets_rfl rfl) (by exact trivial) rfl ?_ | refine call_auto (hW) (lets_rfl rfl) (by exact trivial) rfl ?_ | refine call_auto (hE) (lets_rfl rfl) (by exact trivial) rfl ?_ | refine call_auto (hRo) (lets_rfl rfl) (by exact trivial) rfl ?_); intro u; clear u) | (refine is_dcall ?_; refine dcall_auto (hB) (lets_rfl rfl) (by exact trivial) rfl ?_; intro u; clear u))
          all_goals first | ((refine con_end ?_ rfl; intro u; clear u; refine ⟨rfl, rfl, EntGoal.mk ?_ ?_⟩ <;> (repeat' (first | exact trivial | (with_reducible rfl) | apply And.intro | rfl))); done) | (refine again (k + 1) ⟨by omega, by rw [hnext]; exact hoo.1⟩ (by omega) ?_; (intro u; clear u; refine ⟨rfl, rfl, EntGoal.mk ?_ ?_⟩ <;> (repeat' (first | exact trivial | (with_reducible rfl) | apply And.intro | rfl))); all_goals first | rfl | (simp only [hnext]; done) | (rw [hnext]; done))
        · rw [decide_eq_false hr] at hW
          have hW := con_known2 hW
          repeat' (first | (refine is_split ?_; (first | refine sp_yes (by (first | rfl | exact dec_t (by omega))) ?_ | refine sp_no (by (first | rfl | exact dec_f (by omega))) ?_) <;> (intro u; clear u)) | (refine is_asked ?_; (first | (refine is_spec ?_; (with_reducible refine asked _ (sp_add (by simp only [lo, hi]; omega) (by simp only [lo, hi]; omega)) ?_)) | (refine asked _ (dd_cell l k 12 hd (by show (0 + Int.toNat (k : Int)) * 13 + 3 + 7 + 2 = _; omega) hc rfl) ?_) | (refine asked _ (dd_cell l k 0 hd (by show (0 + Int.toNat (k : Int)) * 13 + 0 = _; omega) hc rfl) ?_) | (refine asked _ (dd_cell l k 1 hd (by show (0 + Int.toNat (k : Int)) * 13 + 1 = _; omega) hc rfl) ?_) | refine asked () ⟨by omega, by omega⟩ ?_); intro u; clear u) | (refine is_draw ?_; refine draw_step mixed (by kernel_rfl) ?_; intro u; clear u) | (refine is_call ?_; (first | refine call_auto (hO) (lets_rfl rfl) (by exact trivial) rfl ?_ | refine call_auto (hW) (lets_rfl rfl) (by exact trivial) rfl ?_ | refine call_auto (hRo) (lets_rfl rfl) (by exact trivial) rfl ?_); intro u; clear u) | (refine is_dcall ?_; refine dcall_auto (hB) (lets_rfl rfl) (by exact trivial) rfl ?_; intro u; clear u))
          all_goals first | ((refine con_end ?_ rfl; intro u; clear u; refine ⟨rfl, rfl, EntGoal.mk ?_ ?_⟩ <;> (repeat' (first | exact trivial | (with_reducible rfl) | apply And.intro | rfl))); done) | (refine again (k + 1) ⟨by omega, by rw [hnext]; exact hoo.1⟩ (by omega) ?_; (intro u; clear u; refine ⟨rfl, rfl, EntGoal.mk ?_ ?_⟩ <;> (repeat' (first | exact trivial | (with_reducible rfl) | apply And.intro | rfl))); all_goals first | rfl | (simp only [hnext]; done) | (rw [hnext]; done))
    have hB := mvackn_con q b ack now hq0 hrows
    have heq : stepM b window q ⟨act, to, now, ack, .slice none 0 0⟩ = mvAckM q b ack now := by unfold stepM; simp [a0, a1, a2, a3, a4]
    rw [← heq] at hB
    generalize decide (mvAckB q b ack now) = e at hB
    clear heq
    generalize hst : stepM b window q _ = o at hB hrise hnext
    have hoo := hrise
    have ho0 : 0 ≤ o.ph := by have h := hoo.1; unfold okMv at h; omega
    have hg := hoo.2
    have hgb := hok.1
    have hRo := con_yes (refmvright_con o ho0) hoo.1
    have hO := open_con o b ho0
    have hW := mvrow_con o ho0
    by_cases ho : opOk o b
    · obtain ⟨f1, f2, f3, f4⟩ := op_facts ho
      have hC := con_yes (refctlrightn_con (c := opC o b) (by rw [opC_of]; decide) (by rw [opC_nil]; rfl)) f1
      rw [decide_eq_true ho] at hO
      have hO := con_known2 hO
      rw [decide_eq_false f4] at hW
      have hW := con_known2 hW
      generalize opC o b = oc at hO hC f1 f2 f3
      repeat' (first | (refine is_split ?_; (first | refine sp_yes (by exact dec_t (by omega)) ?_ | refine sp_no (by (first | exact dec_f (by omega) | exact ndec_f (by omega))) ?_) <;> (intro u; clear u)) | (refine is_asked ?_; (first | (refine is_spec ?_; (with_reducible refine asked _ (sp_add (by simp only [lo, hi]; omega) (by simp only [lo, hi]; omega)) ?_)) | (refine asked _ (dd_cell l k 12 hd (by show (0 + Int.toNat (k : Int)) * 13 + 3 + 7 + 2 = _; omega) hc rfl) ?_) | (refine asked _ (dd_cell l k 0 hd (by show (0 + Int.toNat (k : Int)) * 13 + 0 = _; omega) hc rfl) ?_) | (refine asked _ (dd_cell l k 2 hd (by show (0 + Int.toNat (k : Int)) * 13 + 2 = _; omega) hc rfl) ?_) | (refine asked _ (dd_ack l k hd (by show (0 + Int.toNat (k : Int)) * 13 + 3 = _; omega) hc cellsCt) ?_) | refine asked () ⟨by omega, by omega⟩ ?_); intro u; clear u) | (refine is_draw ?_; refine draw_step mixed (by kernel_rfl) ?_; intro u; clear u) | (refine is_call ?_; (first | refine call_auto (hO) (lets_rfl rfl) (by exact trivial) rfl ?_ | refine call_auto (hW) (lets_rfl rfl) (by exact trivial) rfl ?_ | refine call_auto (hC) (lets_rfl rfl) (by exact trivial) rfl ?_ | refine call_auto (hRo) (lets_rfl rfl) (by exact trivial) rfl ?_); intro u; clear u) | (refine is_dcall ?_; refine dcall_auto (hB) (lets_rfl rfl) (by exact trivial) rfl ?_; intro u; clear u))
      all_goals first | ((refine con_end ?_ rfl; intro u; clear u; refine ⟨rfl, rfl, EntGoal.mk ?_ ?_⟩ <;> (repeat' (first | exact trivial | (with_reducible rfl) | apply And.intro | rfl))); done) | (refine again (k + 1) ⟨by omega, by rw [hnext]; exact hoo.1⟩ (by omega) ?_; (intro u; clear u; refine ⟨rfl, rfl, EntGoal.mk ?_ ?_⟩ <;> (repeat' (first | exact trivial | (with_reducible rfl) | apply And.intro | rfl))); all_goals first | rfl | (simp only [hnext]; done) | (rw [hnext]; done))
    · rw [decide_eq_false ho] at hO
      have hO := con_known2 hO
      by_cases hr : mvRowB o
      · rw [decide_eq_true hr] at hW
        have hW := con_known2 hW
        have hE := con_yes (refright_con (mvRowE o)) (row_facts hr)
        generalize mvRowE o = oe at hW hE
        repeat' (first | (refine is_split ?_; (first | refine sp_yes (by exact dec_t (by omega)) ?_ | refine sp_no (by exact dec_f (by omega)) ?_) <;> (intro u; clear u)) | (refine is_asked ?_; (first | (refine is_spec ?_; (with_reducible refine asked _ (sp_add (by simp only [lo, hi]; omega) (by simp only [lo, hi]; omega)) ?_)) | (refine asked _ (dd_cell l k 12 hd (by show (0 + Int.toNat (k : Int)) * 13 + 3 + 7 + 2 = _; omega) hc rfl) ?_) | (refine asked _ (dd_cell l k 0 hd (by show (0 + Int.toNat (k : Int)) * 13 + 0 = _; omega) hc rfl) ?_) | (refine asked _ (dd_cell l k 2 hd (by show (0 + Int.toNat (k : Int)) * 13 + 2 = _; omega) hc rfl) ?_) | (refine asked _ (dd_ack l k hd (by show (0 + Int.toNat (k : Int)) * 13 + 3 = _; omega) hc cellsCt) ?_) | refine asked () ⟨by omega, by omega⟩ ?_); intro u; clear u) | (refine is_draw ?_; refine draw_step mixed (by kernel_rfl) ?_; intro u; clear u) | (refine is_call ?_; (first | refine call_auto (hO) (lets_rfl rfl) (by exact trivial) rfl ?_ | refine call_auto (hW) (lets_rfl rfl) (by exact trivial) rfl ?_ | refine call_auto (hE) (lets_rfl rfl) (by exact trivial) rfl ?_ | refine call_auto (hRo) (lets_rfl rfl) (by exact trivial) rfl ?_); intro u; clear u) | (refine is_dcall ?_; refine dcall_auto (hB) (lets_rfl rfl) (by exact trivial) rfl ?_; intro u; clear u))
        all_goals first | ((refine con_end ?_ rfl; intro u; clear u; refine ⟨rfl, rfl, EntGoal.mk ?_ ?_⟩ <;> (repeat' (first | exact trivial | (with_reducible rfl) | apply And.intro | rfl))); done) | (refine again (k + 1) ⟨by omega, by rw [hnext]; exact hoo.1⟩ (by omega) ?_; (intro u; clear u; refine ⟨rfl, rfl, EntGoal.mk ?_ ?_⟩ <;> (repeat' (first | exact trivial | (with_reducible rfl) | apply And.intro | rfl))); all_goals first | rfl | (simp only [hnext]; done) | (rw [hnext]; done))
      · rw [decide_eq_false hr] at hW
        have hW := con_known2 hW
        repeat' (first | (refine is_split ?_; (first | refine sp_yes (by exact dec_t (by omega)) ?_ | refine sp_no (by exact dec_f (by omega)) ?_) <;> (intro u; clear u)) | (refine is_asked ?_; (first | (refine is_spec ?_; (with_reducible refine asked _ (sp_add (by simp only [lo, hi]; omega) (by simp only [lo, hi]; omega)) ?_)) | (refine asked _ (dd_cell l k 12 hd (by show (0 + Int.toNat (k : Int)) * 13 + 3 + 7 + 2 = _; omega) hc rfl) ?_) | (refine asked _ (dd_cell l k 0 hd (by show (0 + Int.toNat (k : Int)) * 13 + 0 = _; omega) hc rfl) ?_) | (refine asked _ (dd_cell l k 2 hd (by show (0 + Int.toNat (k : Int)) * 13 + 2 = _; omega) hc rfl) ?_) | (refine asked _ (dd_ack l k hd (by show (0 + Int.toNat (k : Int)) * 13 + 3 = _; omega) hc cellsCt) ?_) | refine asked () ⟨by omega, by omega⟩ ?_); intro u; clear u) | (refine is_draw ?_; refine draw_step mixed (by kernel_rfl) ?_; intro u; clear u) | (refine is_call ?_; (first | refine call_auto (hO) (lets_rfl rfl) (by exact trivial) rfl ?_ | refine call_auto (hW) (lets_rfl rfl) (by exact trivial) rfl ?_ | refine call_auto (hRo) (lets_rfl rfl) (by exact trivial) rfl ?_); intro u; clear u) | (refine is_dcall ?_; refine dcall_auto (hB) (lets_rfl rfl) (by exact trivial) rfl ?_; intro u; clear u))
        all_goals first | ((refine con_end ?_ rfl; intro u; clear u; refine ⟨rfl, rfl, EntGoal.mk ?_ ?_⟩ <;> (repeat' (first | exact trivial | (with_reducible rfl) | apply And.intro | rfl))); done) | (refine again (k + 1) ⟨by omega, by rw [hnext]; exact hoo.1⟩ (by omega) ?_; (intro u; clear u; refine ⟨rfl, rfl, EntGoal.mk ?_ ?_⟩ <;> (repeat' (first | exact trivial | (with_reducible rfl) | apply And.intro | rfl))); all_goals first | rfl | (simp only [hnext]; done) | (rw [hnext]; done))
  · skip
    by_cases a0 : act = 0
    · subst a0
      have hB := bg_con q to now hq0
      have heq : stepM b window q ⟨0, to, now, ack, .slice (some ad) rn rcap⟩ = bgM q to now := by unfold stepM; simp
      rw [← heq] at hB
      generalize bgE q to now = e at hB
      clear heq
      generalize hst : stepM b window q _ = o at hB hrise hnext
      have hoo := hrise
      have ho0 : 0 ≤ o.ph := by have h := hoo.1; unfold okMv at h; omega
      have hg := hoo.2
      have hgb := hok.1
      have hRo := con_yes (refmvright_con o ho0) hoo.1
      have hO := open_con o b ho0
      have hW := mvrow_con o ho0
      by_cases ho : opOk o b
      · obtain ⟨f1, f2, f3, f4⟩ := op_facts ho
        have hC := con_yes (refctlrightn_con (c := opC o b) (by rw [opC_of]; decide) (by rw [opC_nil]; rfl)) f1
        rw [decide_eq_true ho] at hO
        have hO := con_known2 hO
        rw [decide_eq_false f4] at hW
        have hW := con_known2 hW
        generalize opC o b = oc at hO hC f1 f2 f3
        repeat' (first | (refine is_split ?_; (first | refine sp_yes (by (first | rfl | exact dec_t (by omega))) ?_ | refine sp_no (by (first | exact dec_f (by omega) | exact ndec_f (by omega))) ?_ | refine sp_dec (fun g => ?_) (fun g => ?_)) <;> (intro u; clear u)) | (refine is_asked ?_; (first | (refine is_spec ?_; (with_reducible refine asked _ (sp_add (by simp only [lo, hi]; omega) (by simp only [lo, hi]; omega)) ?_)) | (refine asked _ (dd_cell l k 12 hd (by show (0 + Int.toNat (k : Int)) * 13 + 3 + 7 + 2 = _; omega) hc rfl) ?_) | (refine asked _ (dd_cell l k 0 hd (by show (0 + Int.toNat (k : Int)) * 13 + 0 = _; omega) hc rfl) ?_) | (refine asked _ (dd_cell l k 1 hd (by show (0 + Int.toNat (k : Int)) * 13 + 1 = _; omega) hc rfl) ?_) | (refine asked _ (dd_cell l k 2 hd (by show (0 + Int.toNat (k : Int)) * 13 + 2 = _; omega) hc rfl) ?_) | refine asked () ⟨by omega, by omega⟩ ?_); intro u; clear u) | (refine is_draw ?_; refine draw_step mixed (by kernel_rfl) ?_; intro u; clear u) | (refine is_call ?_; (first | refine call_auto (hO) (lets_rfl rfl) (by exact trivial) rfl ?_ | refine call_auto (hW) (lets_rfl rfl) (by exact trivial) rfl ?_ | refine call_auto (hC) (lets_rfl rfl) (by exact trivial) rfl ?_ | refine call_auto (hRo) (lets_rfl rfl) (by exact trivial) rfl ?_ | refine call_auto (wakes22_con) (lets_rfl rfl) (by exact trivial) rfl ?_); intro u; clear u) | (refine is_dcall ?_; refine dcall_auto (hB) (lets_rfl rfl) (by exact trivial) rfl ?_; intro u; clear u))
        all_goals first | ((refine con_end ?_ rfl; intro u; clear u; refine ⟨rfl, rfl, EntGoal.mk ?_ ?_⟩ <;> (repeat' (first | exact trivial | (with_reducible rfl) | apply And.intro | rfl))); done) | (refine again (k + 1) ⟨by omega, by rw [hnext]; exact hoo.1⟩ (by omega) ?_; (intro u; clear u; refine ⟨rfl, rfl, EntGoal.mk ?_ ?_⟩ <;> (repeat' (first | exact trivial | (with_reducible rfl) | apply And.intro | rfl))); all_goals first | rfl | (simp only [hnext]; done) | (rw [hnext]; done))
      · rw [decide_eq_false ho] at hO
        have hO := con_known2 hO
        by_cases hr : mvRowB o
        · rw [decide_eq_true hr] at hW
          have hW := con_known2 hW
          have hE := con_yes (refright_con (mvRowE o)) (row_facts hr)
          generalize mvRowE o = oe at hW hE
          repeat' (first | (refine is_split ?_; (first | refine sp_yes (by (first | rfl | exact dec_t (by omega))) ?_ | refine sp_no (by exact dec_f (by omega)) ?_ | refine sp_dec (fun g => ?_) (fun g => ?_)) <;> (intro u; clear u)) | (refine is_asked ?_; (first | (refine is_spec ?_; (with_reducible refine asked _ (sp_add (by simp only [lo, hi]; omega) (by simp only [lo, hi]; omega)) ?_)) | (refine asked _ (dd_cell l k 12 hd (by show (0 + Int.toNat (k : Int)) * 13 + 3 + 7 + 2 = _; omega) hc rfl) ?_) | (refine asked _ (dd_cell l k 0 hd (by show (0 + Int.toNat (k : Int)) * 13 + 0 = _; omega) hc rfl) ?_) | (refine asked _ (dd_cell l k 1 hd (by show (0 + Int.toNat (k : Int)) * 13 + 1 = _; omega) hc rfl) ?_) | (refine asked _ (dd_cell l k 2 hd (by show (0 + Int.toNat (k : Int)) * 13 + 2 = _; omega) hc rfl) ?_) | refine asked () ⟨by omega, by omega⟩ ?_); intro u; clear u) | (refine is_draw ?_; refine draw_step mixed (by kernel_rfl) ?_; intro u; clear u) | (refine is_call ?_; (first | refine call_auto (hO) (lets_rfl rfl) (by exact trivial) rfl ?_ | refine call_auto (hW) (lets_rfl rfl) (by exact trivial) rfl ?_ | refine call_auto (hE) (lets_rfl rfl) (by exact trivial) rfl ?_ | refine call_auto (hRo) (lets_rfl rfl) (by exact trivial) rfl ?_ | refine call_auto (wakes22_con) (lets_rfl rfl) (by exact trivial) rfl ?_); intro u; clear u) | (refine is_dcall ?_; refine dcall_auto (hB) (lets_rfl rfl) (by exact trivial) rfl ?_; intro u; clear u))
          all_goals first | ((refine con_end ?_ rfl; intro u; clear u; refine ⟨rfl, rfl, EntGoal.mk ?_ ?_⟩ <;> (repeat' (first | exact trivial | (with_reducible rfl) | apply And.intro | rfl))); done) | (refine again (k + 1) ⟨by omega, by rw [hnext]; exact hoo.1⟩ (by omega) ?_; (intro u; clear u; refine ⟨rfl, rfl, EntGoal.mk ?_ ?_⟩ <;> (repeat' (first | exact trivial | (with_reducible rfl) | apply And.intro | rfl))); all_goals first | rfl | (simp only [hnext]; done) | (rw [hnext]; done))
        · rw [decide_eq_false hr] at hW
          have hW := con_known2 hW
          repeat' (first | (refine is_split ?_; (first | refine sp_yes (by (first | rfl | exact dec_t (by omega))) ?_ | refine sp_no (by exact dec_f (by omega)) ?_ | refine sp_dec (fun g => ?_) (fun g => ?_)) <;> (intro u; clear u)) | (refine is_asked ?_; (first | (refine is_spec ?_; (with_reducible refine asked _ (sp_add (by simp only [lo, hi]; omega) (by simp only [lo, hi]; omega)) ?_)) | (refine asked _ (dd_cell l k 12 hd (by show (0 + Int.toNat (k : Int)) * 13 + 3 + 7 + 2 = _; omega) hc rfl) ?_) | (refine asked _ (dd_cell l k 0 hd (by show (0 + Int.toNat (k : Int)) * 13 + 0 = _; omega) hc rfl) ?_) | (refine asked _ (dd_cell l k 1 hd (by show (0 + Int.toNat (k : Int)) * 13 + 1 = _; omega) hc rfl) ?_) | (refine asked _ (dd_cell l k 2 hd (by show (0 + Int.toNat (k : Int)) * 13 + 2 = _; omega) hc rfl) ?_) | refine asked () ⟨by omega, by omega⟩ ?_); intro u; clear u) | (refine is_draw ?_; refine draw_step mixed (by kernel_rfl) ?_; intro u; clear u) | (refine is_call ?_; (first | refine call_auto (hO) (lets_rfl rfl) (by exact trivial) rfl ?_ | refine call_auto (hW) (lets_rfl rfl) (by exact trivial) rfl ?_ | refine call_auto (hRo) (lets_rfl rfl) (by exact trivial) rfl ?_ | refine call_auto (wakes22_con) (lets_rfl rfl) (by exact trivial) rfl ?_); intro u; clear u) | (refine is_dcall ?_; refine dcall_auto (hB) (lets_rfl rfl) (by exact trivial) rfl ?_; intro u; clear u))
          all_goals first | ((refine con_end ?_ rfl; intro u; clear u; refine ⟨rfl, rfl, EntGoal.mk ?_ ?_⟩ <;> (repeat' (first | exact trivial | (with_reducible rfl) | apply And.intro | rfl))); done) | (refine again (k + 1) ⟨by omega, by rw [hnext]; exact hoo.1⟩ (by omega) ?_; (intro u; clear u; refine ⟨rfl, rfl, EntGoal.mk ?_ ?_⟩ <;> (repeat' (first | exact trivial | (with_reducible rfl) | apply And.intro | rfl))); all_goals first | rfl | (simp only [hnext]; done) | (rw [hnext]; done))
    by_cases a1 : act = 1
    · subst a1
      have hB := se_con q to hq0
      have heq : stepM b window q ⟨1, to, now, ack, .slice (some ad) rn rcap⟩ = seM q to := by unfold stepM; simp
      rw [← heq] at hB
      generalize seE q to = e at hB
      clear heq
      generalize hst : stepM b window q _ = o at hB hrise hnext
      have hoo := hrise
      have ho0 : 0 ≤ o.ph := by have h := hoo.1; unfold okMv at h; omega
      have hg := hoo.2
      have hgb := hok.1
      have hRo := con_yes (refmvright_con o ho0) hoo.1
      have hO := open_con o b ho0
      have hW := mvrow_con o ho0
      by_cases ho : opOk o b
      · obtain ⟨f1, f2, f3, f4⟩ := op_facts ho
        have hC := con_yes (refctlrightn_con (c := opC o b) (by rw [opC_of]; decide) (by rw [opC_nil]; rfl)) f1
        rw [decide_eq_true ho] at hO
        have hO := con_known2 hO
        rw [decide_eq_false f4] at hW
        have hW := con_known2 hW
        generalize opC o b = oc at hO hC f1 f2 f3
        repeat' (first | (refine is_split ?_; (first | refine sp_yes (by (first | rfl | exact dec_t (by omega))) ?_ | refine sp_no (by (first | rfl | exact dec_f (by omega) | exact ndec_f (by omega))) ?_ | refine sp_dec (fun g => ?_) (fun g => ?_)) <;> (intro u; clear u)) | (refine is_asked ?_; (first | (refine is_spec ?_; (with_reducible refine asked _ (sp_add (by simp only [lo, hi]; omega) (by simp only [lo, hi]; omega)) ?_)) | (refine asked _ (dd_cell l k 12 hd (by show (0 + Int.toNat (k : Int)) * 13 + 3 + 7 + 2 = _; omega) hc rfl) ?_) | (refine asked _ (dd_cell l k 0 hd (by show (0 + Int.toNat (k : Int)) * 13 + 0 = _; omega) hc rfl) ?_) | (refine asked _ (dd_cell l k 1 hd (by show (0 + Int.toNat (k : Int)) * 13 + 1 = _; omega) hc rfl) ?_) | refine asked () ⟨by omega, by omega⟩ ?_); intro u; clear u) | (refine is_draw ?_; refine draw_step mixed (by kernel_rfl) ?_; intro u; clear u) | (refine is_call ?_; (first | refine call_auto (hO) (lets_rfl rfl) (by exact trivial) rfl ?_ | refine call_auto (hW) (lets_rfl rfl) (by exact trivial) rfl ?_ | refine call_auto (hC) (lets_rfl rfl) (by exact trivial) rfl ?_ | refine call_auto (hRo) (lets_rfl rfl) (by exact trivial) rfl ?_ | refine call_auto (wakes22_con) (lets_rfl rfl) (by exact trivial) rfl ?_); intro u; clear u) | (refine is_dcall ?_; refine dcall_auto (hB) (lets_rfl rfl) (by exact trivial) rfl ?_; intro u; clear u))
        all_goals first | ((refine con_end ?_ rfl; intro u; clear u; refine ⟨rfl, rfl, EntGoal.mk ?_ ?_⟩ <;> (repeat' (first | exact trivial | (with_reducible rfl) | apply And.intro | rfl))); done) | (refine again (k + 1) ⟨by omega, by rw [hnext]; exact hoo.1⟩ (by omega) ?_; (intro u; clear u; refine ⟨rfl, rfl, EntGoal.mk ?_ ?_⟩ <;> (repeat' (first | exact trivial | (with_reducible rfl) | apply And.intro | rfl))); all_goals first | rfl | (simp only [hnext]; done) | (rw [hnext]; done))
      · rw [decide_eq_false ho] at hO
        have hO := con_known2 hO
        by_cases hr : mvRowB o
        · rw [decide_eq_true hr] at hW
          have hW := con_known2 hW
          have hE := con_yes (refright_con (mvRowE o)) (row_facts hr)
          generalize mvRowE o = oe at hW hE
          repeat' (first | (refine is_split ?_; (first | refine sp_yes (by (first | rfl | exact dec_t (by omega))) ?_ | refine sp_no (by (first | rfl | exact dec_f (by omega))) ?_ | refine sp_dec (fun g => ?_) (fun g => ?_)) <;> (intro u; clear u)) | (refine is_asked ?_; (first | (refine is_spec ?_; (with_reducible refine asked _ (sp_add (by simp only [lo, hi]; omega) (by simp only [lo, hi]; omega)) ?_)) | (refine asked _ (dd_cell l k 12 hd (by show (0 + Int.toNat (k : Int)) * 13 + 3 + 7 + 2 = _; omega) hc rfl) ?_) | (refine asked _ (dd_cell l k 0 hd (by show (0 + Int.toNat (k : Int)) * 13 + 0 = _; omega) hc rfl) ?_) | (refine asked _ (dd_cell l k 1 hd (by show (0 + Int.toNat (k : Int)) * 13 + 1 = _; omega) hc rfl) ?_) | refine asked () ⟨by omega, by omega⟩ ?_); intro u; clear u) | (refine is_draw ?_; refine draw_step mixed (by kernel_rfl) ?_; intro u; clear u) | (refine is_call ?_; (first | refine call_auto (hO) (lets_rfl rfl) (by exact trivial) rfl ?_ | refine call_auto (hW) (lets_rfl rfl) (by exact trivial) rfl ?_ | refine call_auto (hE) (lets_rfl rfl) (by exact trivial) rfl ?_ | refine call_auto (hRo) (lets_rfl rfl) (by exact trivial) rfl ?_ | refine call_auto (wakes22_con) (lets_rfl rfl) (by exact trivial) rfl ?_); intro u; clear u) | (refine is_dcall ?_; refine dcall_auto (hB) (lets_rfl rfl) (by exact trivial) rfl ?_; intro u; clear u))
          all_goals first | ((refine con_end ?_ rfl; intro u; clear u; refine ⟨rfl, rfl, EntGoal.mk ?_ ?_⟩ <;> (repeat' (first | exact trivial | (with_reducible rfl) | apply And.intro | rfl))); done) | (refine again (k + 1) ⟨by omega, by rw [hnext]; exact hoo.1⟩ (by omega) ?_; (intro u; clear u; refine ⟨rfl, rfl, EntGoal.mk ?_ ?_⟩ <;> (repeat' (first | exact trivial | (with_reducible rfl) | apply And.intro | rfl))); all_goals first | rfl | (simp only [hnext]; done) | (rw [hnext]; done))
        · rw [decide_eq_false hr] at hW
          have hW := con_known2 hW
          repeat' (first | (refine is_split ?_; (first | refine sp_yes (by (first | rfl | exact dec_t (by omega))) ?_ | refine sp_no (by (first | rfl | exact dec_f (by omega))) ?_ | refine sp_dec (fun g => ?_) (fun g => ?_)) <;> (intro u; clear u)) | (refine is_asked ?_; (first | (refine is_spec ?_; (with_reducible refine asked _ (sp_add (by simp only [lo, hi]; omega) (by simp only [lo, hi]; omega)) ?_)) | (refine asked _ (dd_cell l k 12 hd (by show (0 + Int.toNat (k : Int)) * 13 + 3 + 7 + 2 = _; omega) hc rfl) ?_) | (refine asked _ (dd_cell l k 0 hd (by show (0 + Int.toNat (k : Int)) * 13 + 0 = _; omega) hc rfl) ?_) | (refine asked _ (dd_cell l k 1 hd (by show (0 + Int.toNat (k : Int)) * 13 + 1 = _; omega) hc rfl) ?_) | refine asked () ⟨by omega, by omega⟩ ?_); intro u; clear u) | (refine is_draw ?_; refine draw_step mixed (by kernel_rfl) ?_; intro u; clear u) | (refine is_call ?_; (first | refine call_auto (hO) (lets_rfl rfl) (by exact trivial) rfl ?_ | refine call_auto (hW) (lets_rfl rfl) (by exact trivial) rfl ?_ | refine call_auto (hRo) (lets_rfl rfl) (by exact trivial) rfl ?_ | refine call_auto (wakes22_con) (lets_rfl rfl) (by exact trivial) rfl ?_); intro u; clear u) | (refine is_dcall ?_; refine dcall_auto (hB) (lets_rfl rfl) (by exact trivial) rfl ?_; intro u; clear u))
          all_goals first | ((refine con_end ?_ rfl; intro u; clear u; refine ⟨rfl, rfl, EntGoal.mk ?_ ?_⟩ <;> (repeat' (first | exact trivial | (with_reducible rfl) | apply And.intro | rfl))); done) | (refine again (k + 1) ⟨by omega, by rw [hnext]; exact hoo.1⟩ (by omega) ?_; (intro u; clear u; refine ⟨rfl, rfl, EntGoal.mk ?_ ?_⟩ <;> (repeat' (first | exact trivial | (with_reducible rfl) | apply And.intro | rfl))); all_goals first | rfl | (simp only [hnext]; done) | (rw [hnext]; done))
    by_cases a2 : act = 2
    · subst a2
      have hB := re_con q now window hq0
      have heq : stepM b window q ⟨2, to, now, ack, .slice (some ad) rn rcap⟩ = reM q now window := by unfold stepM; simp
      rw [← heq] at hB
      generalize reE q now window = e at hB
      clear heq
      generalize hst : stepM b window q _ = o at hB hrise hnext
      have hoo := hrise
      have ho0 : 0 ≤ o.ph := by have h := hoo.1; unfold okMv at h; omega
      have hg := hoo.2
      have hgb := hok.1
      have hRo := con_yes (refmvright_con o ho0) hoo.1
      have hO := open_con o b ho0
      have hW := mvrow_con o ho0
      by_cases ho : opOk o b
      · obtain ⟨f1, f2, f3, f4⟩ := op_facts ho
        have hC := con_yes (refctlrightn_con (c := opC o b) (by rw [opC_of]; decide) (by rw [opC_nil]; rfl)) f1
        rw [decide_eq_true ho] at hO
        have hO := con_known2 hO
        rw [decide_eq_false f4] at hW
        have hW := con_known2 hW
        generalize opC o b = oc at hO hC f1 f2 f3
        repeat' (first | (refine is_split ?_; (first | refine sp_yes (by (first | rfl | exact dec_t (by omega))) ?_ | refine sp_no (by (first | rfl | exact dec_f (by omega) | exact ndec_f (by omega))) ?_ | refine sp_dec (fun g => ?_) (fun g => ?_)) <;> (intro u; clear u)) | (refine is_asked ?_; (first | (refine is_spec ?_; (with_reducible refine asked _ (sp_add (by simp only [lo, hi]; omega) (by simp only [lo, hi]; omega)) ?_)) | (refine asked _ (dd_cell l k 12 hd (by show (0 + Int.toNat (k : Int)) * 13 + 3 + 7 + 2 = _; omega) hc rfl) ?_) | (refine asked _ (dd_cell l k 0 hd (by show (0 + Int.toNat (k : Int)) * 13 + 0 = _; omega) hc rfl) ?_) | (refine asked _ (dd_cell l k 2 hd (by show (0 + Int.toNat (k : Int)) * 13 + 2 = _; omega) hc rfl) ?_) | refine asked () ⟨by omega, by omega⟩ ?_); intro u; clear u) | (refine is_draw ?_; refine draw_step mixed (by kernel_rfl) ?_; intro u; clear u) | (refine is_call ?_; (first | refine call_auto (hO) (lets_rfl rfl) (by exact trivial) rfl ?_ | refine call_auto (hW) (lets_rfl rfl) (by exact trivial) rfl ?_ | refine call_auto (hC) (lets_rfl rfl) (by exact trivial) rfl ?_ | refine call_auto (hRo) (lets_rfl rfl) (by exact trivial) rfl ?_ | refine call_auto (wakes22_con) (lets_rfl rfl) (by exact trivial) rfl ?_); intro u; clear u) | (refine is_dcall ?_; refine dcall_auto (hB) (lets_rfl rfl) (by exact trivial) rfl ?_; intro u; clear u))
        all_goals first | ((refine con_end ?_ rfl; intro u; clear u; refine ⟨rfl, rfl, EntGoal.mk ?_ ?_⟩ <;> (repeat' (first | exact trivial | (with_reducible rfl) | apply And.intro | rfl))); done) | (refine again (k + 1) ⟨by omega, by rw [hnext]; exact hoo.1⟩ (by omega) ?_; (intro u; clear u; refine ⟨rfl, rfl, EntGoal.mk ?_ ?_⟩ <;> (repeat' (first | exact trivial | (with_reducible rfl) | apply And.intro | rfl))); all_goals first | rfl | (simp only [hnext]; done) | (rw [hnext]; done))
      · rw [decide_eq_false ho] at hO
        have hO := con_known2 hO
        by_cases hr : mvRowB o
        · rw [decide_eq_true hr] at hW
          have hW := con_known2 hW
          have hE := con_yes (refright_con (mvRowE o)) (row_facts hr)
          generalize mvRowE o = oe at hW hE
          repeat' (first | (refine is_split ?_; (first | refine sp_yes (by (first | rfl | exact dec_t (by omega))) ?_ | refine sp_no (by (first | rfl | exact dec_f (by omega))) ?_ | refine sp_dec (fun g => ?_) (fun g => ?_)) <;> (intro u; clear u)) | (refine is_asked ?_; (first | (refine is_spec ?_; (with_reducible refine asked _ (sp_add (by simp only [lo, hi]; omega) (by simp only [lo, hi]; omega)) ?_)) | (refine asked _ (dd_cell l k 12 hd (by show (0 + Int.toNat (k : Int)) * 13 + 3 + 7 + 2 = _; omega) hc rfl) ?_) | (refine asked _ (dd_cell l k 0 hd (by show (0 + Int.toNat (k : Int)) * 13 + 0 = _; omega) hc rfl) ?_) | (refine asked _ (dd_cell l k 2 hd (by show (0 + Int.toNat (k : Int)) * 13 + 2 = _; omega) hc rfl) ?_) | refine asked () ⟨by omega, by omega⟩ ?_); intro u; clear u) | (refine is_draw ?_; refine draw_step mixed (by kernel_rfl) ?_; intro u; clear u) | (refine is_call ?_; (first | refine call_auto (hO) (lets_rfl rfl) (by exact trivial) rfl ?_ | refine call_auto (hW) (lets_rfl rfl) (by exact trivial) rfl ?_ | refine call_auto (hE) (lets_rfl rfl) (by exact trivial) rfl ?_ | refine call_auto (hRo) (lets_rfl rfl) (by exact trivial) rfl ?_ | refine call_auto (wakes22_con) (lets_rfl rfl) (by exact trivial) rfl ?_); intro u; clear u) | (refine is_dcall ?_; refine dcall_auto (hB) (lets_rfl rfl) (by exact trivial) rfl ?_; intro u; clear u))
          all_goals first | ((refine con_end ?_ rfl; intro u; clear u; refine ⟨rfl, rfl, EntGoal.mk ?_ ?_⟩ <;> (repeat' (first | exact trivial | (with_reducible rfl) | apply And.intro | rfl))); done) | (refine again (k + 1) ⟨by omega, by rw [hnext]; exact hoo.1⟩ (by omega) ?_; (intro u; clear u; refine ⟨rfl, rfl, EntGoal.mk ?_ ?_⟩ <;> (repeat' (first | exact trivial | (with_reducible rfl) | apply And.intro | rfl))); all_goals first | rfl | (simp only [hnext]; done) | (rw [hnext]; done))
        · rw [decide_eq_false hr] at hW
          have hW := con_known2 hW
          repeat' (first | (refine is_split ?_; (first | refine sp_yes (by (first | rfl | exact dec_t (by omega))) ?_ | refine sp_no (by (first | rfl | exact dec_f (by omega))) ?_ | refine sp_dec (fun g => ?_) (fun g => ?_)) <;> (intro u; clear u)) | (refine is_asked ?_; (first | (refine is_spec ?_; (with_reducible refine asked _ (sp_add (by simp only [lo, hi]; omega) (by simp only [lo, hi]; omega)) ?_)) | (refine asked _ (dd_cell l k 12 hd (by show (0 + Int.toNat (k : Int)) * 13 + 3 + 7 + 2 = _; omega) hc rfl) ?_) | (refine asked _ (dd_cell l k 0 hd (by show (0 + Int.toNat (k : Int)) * 13 + 0 = _; omega) hc rfl) ?_) | (refine asked _ (dd_cell l k 2 hd (by show (0 + Int.toNat (k : Int)) * 13 + 2 = _; omega) hc rfl) ?_) | refine asked () ⟨by omega, by omega⟩ ?_); intro u; clear u) | (refine is_draw ?_; refine draw_step mixed (by kernel_rfl) ?_; intro u; clear u) | (refine is_call ?_; (first | refine call_auto (hO) (lets_rfl rfl) (by exact trivial) rfl ?_ | refine call_auto (hW) (lets_rfl rfl) (by exact trivial) rfl ?_ | refine call_auto (hRo) (lets_rfl rfl) (by exact trivial) rfl ?_ | refine call_auto (wakes22_con) (lets_rfl rfl) (by exact trivial) rfl ?_); intro u; clear u) | (refine is_dcall ?_; refine dcall_auto (hB) (lets_rfl rfl) (by exact trivial) rfl ?_; intro u; clear u))
          all_goals first | ((refine con_end ?_ rfl; intro u; clear u; refine ⟨rfl, rfl, EntGoal.mk ?_ ?_⟩ <;> (repeat' (first | exact trivial | (with_reducible rfl) | apply And.intro | rfl))); done) | (refine again (k + 1) ⟨by omega, by rw [hnext]; exact hoo.1⟩ (by omega) ?_; (intro u; clear u; refine ⟨rfl, rfl, EntGoal.mk ?_ ?_⟩ <;> (repeat' (first | exact trivial | (with_reducible rfl) | apply And.intro | rfl))); all_goals first | rfl | (simp only [hnext]; done) | (rw [hnext]; done))
    by_cases a3 : act = 3
    · subst a3
      have hL := lack_con q b hq0
      have hB := con_nilack q b now hq0
      have heq : stepM b window q ⟨3, to, now, ack, .slice (some ad) rn rcap⟩ = mvAckM q b (lackC q b) now := by unfold stepM; simp
      rw [← heq] at hB
      generalize decide (mvAckB q b (lackC q b) now) = e at hB
      generalize lackC q b = lc at hB hL heq
      clear heq
      generalize hst : stepM b window q _ = o at hB hrise hnext
      have hoo := hrise
      have ho0 : 0 ≤ o.ph := by have h := hoo.1; unfold okMv at h; omega
      have hg := hoo.2
      have hgb := hok.1
      have hRo := con_yes (refmvright_con o ho0) hoo.1
      have hO := open_con o b ho0
      have hW := mvrow_con o ho0
      by_cases ho : opOk o b
      · obtain ⟨f1, f2, f3, f4⟩ := op_facts ho
        have hC := con_yes (refctlrightn_con (c := opC o b) (by rw [opC_of]; decide) (by rw [opC_nil]; rfl)) f1
        rw [decide_eq_true ho] at hO
        have hO := con_known2 hO
        rw [decide_eq_false f4] at hW
        have hW := con_known2 hW
        generalize opC o b = oc at hO hC f1 f2 f3
        repeat' (first | (refine is_split ?_; (first | refine sp_yes (by (first | rfl | exact dec_t (by omega))) ?_ | refine sp_no (by (first | rfl | exact dec_f (by omega) | exact ndec_f (by omega))) ?_ | refine sp_dec (fun g => ?_) (fun g => ?_)) <;> (intro u; clear u)) | (refine is_asked ?_; (first | (refine is_spec ?_; (with_reducible refine asked _ (sp_add (by simp only [lo, hi]; omega) (by simp only [lo, hi]; omega)) ?_)) | (refine asked _ (dd_cell l k 12 hd (by show (0 + Int.toNat (k : Int)) * 13 + 3 + 7 + 2 = _; omega) hc rfl) ?_) | (refine asked _ (dd_cell l k 0 hd (by show (0 + Int.toNat (k : Int)) * 13 + 0 = _; omega) hc rfl) ?_) | (refine asked _ (dd_cell l k 2 hd (by show (0 + Int.toNat (k : Int)) * 13 + 2 = _; omega) hc rfl) ?_) | refine asked () ⟨by omega, by omega⟩ ?_); intro u; clear u) | (refine is_draw ?_; refine draw_step mixed (by kernel_rfl) ?_; intro u; clear u) | (refine is_call ?_; (first | refine call_auto (hO) (lets_rfl rfl) (by exact trivial) rfl ?_ | refine call_auto (hW) (lets_rfl rfl) (by exact trivial) rfl ?_ | refine call_auto (hC) (lets_rfl rfl) (by exact trivial) rfl ?_ | refine call_auto (hRo) (lets_rfl rfl) (by exact trivial) rfl ?_ | refine call_auto (wakes22_con) (lets_rfl rfl) (by exact trivial) rfl ?_); intro u; clear u) | (refine is_dcall ?_; (first | refine dcall_auto (hL) (lets_rfl rfl) (by exact trivial) rfl ?_ | refine dcall_auto (hB) (lets_rfl rfl) (by exact trivial) rfl ?_); intro u; clear u))
        all_goals first | ((refine con_end ?_ rfl; intro u; clear u; refine ⟨rfl, rfl, EntGoal.mk ?_ ?_⟩ <;> (repeat' (first | exact trivial | (with_reducible rfl) | apply And.intro | rfl))); done) | (refine again (k + 1) ⟨by omega, by rw [hnext]; exact hoo.1⟩ (by omega) ?_; (intro u; clear u; refine ⟨rfl, rfl, EntGoal.mk ?_ ?_⟩ <;> (repeat' (first | exact trivial | (with_reducible rfl) | apply And.intro | rfl))); all_goals first | rfl | (simp only [hnext]; done) | (rw [hnext]; done))
      · rw [decide_eq_false ho] at hO
        have hO := con_known2 hO
        by_cases hr : mvRowB o
        · rw [decide_eq_true hr] at hW
          have hW := con_known2 hW
          have hE := con_yes (refright_con (mvRowE o)) (row_facts hr)
          generalize mvRowE o = oe at hW hE
          repeat' (first | (refine is_split ?_; (first | refine sp_yes (by (first | rfl | exact dec_t (by omega))) ?_ | refine sp_no (by (first | rfl | exact dec_f (by omega))) ?_ | refine sp_dec (fun g => ?_) (fun g => ?_)) <;> (intro u; clear u)) | (refine is_asked ?_; (first | (refine is_spec ?_; (with_reducible refine asked _ (sp_add (by simp only [lo, hi]; omega) (by simp only [lo, hi]; omega)) ?_)) | (refine asked _ (dd_cell l k 12 hd (by show (0 + Int.toNat (k : Int)) * 13 + 3 + 7 + 2 = _; omega) hc rfl) ?_) | (refine asked _ (dd_cell l k 0 hd (by show (0 + Int.toNat (k : Int)) * 13 + 0 = _; omega) hc rfl) ?_) | (refine asked _ (dd_cell l k 2 hd (by show (0 + Int.toNat (k : Int)) * 13 + 2 = _; omega) hc rfl) ?_) | refine asked () ⟨by omega, by omega⟩ ?_); intro u; clear u) | (refine is_draw ?_; refine draw_step mixed (by kernel_rfl) ?_; intro u; clear u) | (refine is_call ?_; (first | refine call_auto (hO) (lets_rfl rfl) (by exact trivial) rfl ?_ | refine call_auto (hW) (lets_rfl rfl) (by exact trivial) rfl ?_ | refine call_auto (hE) (lets_rfl rfl) (by exact trivial) rfl ?_ | refine call_auto (hRo) (lets_rfl rfl) (by exact trivial) rfl ?_ | refine call_auto (wakes22_con) (lets_rfl rfl) (by exact trivial) rfl ?_); intro u; clear u) | (refine is_dcall ?_; (first | refine dcall_auto (hL) (lets_rfl rfl) (by exact trivial) rfl ?_ | refine dcall_auto (hB) (lets_rfl rfl) (by exact trivial) rfl ?_); intro u; clear u))
          all_goals first | ((refine con_end ?_ rfl; intro u; clear u; refine ⟨rfl, rfl, EntGoal.mk ?_ ?_⟩ <;> (repeat' (first | exact trivial | (with_reducible rfl) | apply And.intro | rfl))); done) | (refine again (k + 1) ⟨by omega, by rw [hnext]; exact hoo.1⟩ (by omega) ?_; (intro u; clear u; refine ⟨rfl, rfl, EntGoal.mk ?_ ?_⟩ <;> (repeat' (first | exact trivial | (with_reducible rfl) | apply And.intro | rfl))); all_goals first | rfl | (simp only [hnext]; done) | (rw [hnext]; done))
        · rw [decide_eq_false hr] at hW
          have hW := con_known2 hW
          repeat' (first | (refine is_split ?_; (first | refine sp_yes (by (first | rfl | exact dec_t (by omega))) ?_ | refine sp_no (by (first | rfl | exact dec_f (by omega))) ?_ | refine sp_dec (fun g => ?_) (fun g => ?_)) <;> (intro u; clear u)) | (refine is_asked ?_; (first | (refine is_spec ?_; (with_reducible refine asked _ (sp_add (by simp only [lo, hi]; omega) (by simp only [lo, hi]; omega)) ?_)) | (refine asked _ (dd_cell l k 12 hd (by show (0 + Int.toNat (k : Int)) * 13 + 3 + 7 + 2 = _; omega) hc rfl) ?_) | (refine asked _ (dd_cell l k 0 hd (by show (0 + Int.toNat (k : Int)) * 13 + 0 = _; omega) hc rfl) ?_) | (refine asked _ (dd_cell l k 2 hd (by show (0 + Int.toNat (k : Int)) * 13 + 2 = _; omega) hc rfl) ?_) | refine asked () ⟨by omega, by omega⟩ ?_); intro u; clear u) | (refine is_draw ?_; refine draw_step mixed (by kernel_rfl) ?_; intro u; clear u) | (refine is_call ?_; (first | refine call_auto (hO) (lets_rfl rfl) (by exact trivial) rfl ?_ | refine call_auto (hW) (lets_rfl rfl) (by exact trivial) rfl ?_ | refine call_auto (hRo) (lets_rfl rfl) (by exact trivial) rfl ?_ | refine call_auto (wakes22_con) (lets_rfl rfl) (by exact trivial) rfl ?_); intro u; clear u) | (refine is_dcall ?_; (first | refine dcall_auto (hL) (lets_rfl rfl) (by exact trivial) rfl ?_ | refine dcall_auto (hB) (lets_rfl rfl) (by exact trivial) rfl ?_); intro u; clear u))
          all_goals first | ((refine con_end ?_ rfl; intro u; clear u; refine ⟨rfl, rfl, EntGoal.mk ?_ ?_⟩ <;> (repeat' (first | exact trivial | (with_reducible rfl) | apply And.intro | rfl))); done) | (refine again (k + 1) ⟨by omega, by rw [hnext]; exact hoo.1⟩ (by omega) ?_; (intro u; clear u; refine ⟨rfl, rfl, EntGoal.mk ?_ ?_⟩ <;> (repeat' (first | exact trivial | (with_reducible rfl) | apply And.intro | rfl))); all_goals first | rfl | (simp only [hnext]; done) | (rw [hnext]; done))
    by_cases a4 : act = 4
    · subst a4
      have hB := ag_con q to hq0
      have heq : stepM b window q ⟨4, to, now, ack, .slice (some ad) rn rcap⟩ = agM q to := by unfold stepM; simp
      rw [← heq] at hB
      generalize agE q to = e at hB
      clear heq
      generalize hst : stepM b window q _ = o at hB hrise hnext
      have hoo := hrise
      have ho0 : 0 ≤ o.ph := by have h := hoo.1; unfold okMv at h; omega
      have hg := hoo.2
      have hgb := hok.1
      have hRo := con_yes (refmvright_con o ho0) hoo.1
      have hO := open_con o b ho0
      have hW := mvrow_con o ho0
      by_cases ho : opOk o b
      · obtain ⟨f1, f2, f3, f4⟩ := op_facts ho
        have hC := con_yes (refctlrightn_con (c := opC o b) (by rw [opC_of]; decide) (by rw [opC_nil]; rfl)) f1
        rw [decide_eq_true ho] at hO
        have hO := con_known2 hO
        rw [decide_eq_false f4] at hW
        have hW := con_known2 hW
        generalize opC o b = oc at hO hC f1 f2 f3
        repeat' (first | (refine is_split ?_; (first | refine sp_yes (by (first | rfl | exact dec_t (by omega))) ?_ | refine sp_no (by (first | rfl | exact dec_f (by omega) | exact ndec_f (by omega))) ?_ | refine sp_dec (fun g => ?_) (fun g => ?_)) <;> (intro u; clear u)) | (refine is_asked ?_; (first | (refine is_spec ?_; (with_reducible refine asked _ (sp_add (by simp only [lo, hi]; omega) (by simp only [lo, hi]; omega)) ?_)) | (refine asked _ (dd_cell l k 12 hd (by show (0 + Int.toNat (k : Int)) * 13 + 3 + 7 + 2 = _; omega) hc rfl) ?_) | (refine asked _ (dd_cell l k 0 hd (by show (0 + Int.toNat (k : Int)) * 13 + 0 = _; omega) hc rfl) ?_) | (refine asked _ (dd_cell l k 1 hd (by show (0 + Int.toNat (k : Int)) * 13 + 1 = _; omega) hc rfl) ?_) | refine asked () ⟨by omega, by omega⟩ ?_); intro u; clear u) | (refine is_draw ?_; refine draw_step mixed (by kernel_rfl) ?_; intro u; clear u) | (refine is_call ?_; (first | refine call_auto (hO) (lets_rfl rfl) (by exact trivial) rfl ?_ | refine call_auto (hW) (lets_rfl rfl) (by exact trivial) rfl ?_ | refine call_auto (hC) (lets_rfl rfl) (by exact trivial) rfl ?_ | refine call_auto (hRo) (lets_rfl rfl) (by exact trivial) rfl ?_ | refine call_auto (wakes22_con) (lets_rfl rfl) (by exact trivial) rfl ?_); intro u; clear u) | (refine is_dcall ?_; refine dcall_auto (hB) (lets_rfl rfl) (by exact trivial) rfl ?_; intro u; clear u))
        all_goals first | ((refine con_end ?_ rfl; intro u; clear u; refine ⟨rfl, rfl, EntGoal.mk ?_ ?_⟩ <;> (repeat' (first | exact trivial | (with_reducible rfl) | apply And.intro | rfl))); done) | (refine again (k + 1) ⟨by omega, by rw [hnext]; exact hoo.1⟩ (by omega) ?_; (intro u; clear u; refine ⟨rfl, rfl, EntGoal.mk ?_ ?_⟩ <;> (repeat' (first | exact trivial | (with_reducible rfl) | apply And.intro | rfl))); all_goals first | rfl | (simp only [hnext]; done) | (rw [hnext]; done))
      · rw [decide_eq_false ho] at hO
        have hO := con_known2 hO
        by_cases hr : mvRowB o
        · rw [decide_eq_true hr] at hW
          have hW := con_known2 hW
          have hE := con_yes (refright_con (mvRowE o)) (row_facts hr)
          generalize mvRowE o = oe at hW hE
          repeat' (first | (refine is_split ?_; (first | refine sp_yes (by (first | rfl | exact dec_t (by omega))) ?_ | refine sp_no (by (first | rfl | exact dec_f (by omega))) ?_ | refine sp_dec (fun g => ?_) (fun g => ?_)) <;> (intro u; clear u)) | (refine is_asked ?_; (first | (refine is_spec ?_; (with_reducible refine asked _ (sp_add (by simp only [lo, hi]; omega) (by simp only [lo, hi]; omega)) ?_)) | (refine asked _ (dd_cell l k 12 hd (by show (0 + Int.toNat (k : Int)) * 13 + 3 + 7 + 2 = _; omega) hc rfl) ?_) | (refine asked _ (dd_cell l k 0 hd (by show (0 + Int.toNat (k : Int)) * 13 + 0 = _; omega) hc rfl) ?_) | (refine asked _ (dd_cell l k 1 hd (by show (0 + Int.toNat (k : Int)) * 13 + 1 = _; omega) hc rfl) ?_) | refine asked () ⟨by omega, by omega⟩ ?_); intro u; clear u) | (refine is_draw ?_; refine draw_step mixed (by kernel_rfl) ?_; intro u; clear u) | (refine is_call ?_; (first | refine call_auto (hO) (lets_rfl rfl) (by exact trivial) rfl ?_ | refine call_auto (hW) (lets_rfl rfl) (by exact trivial) rfl ?_ | refine call_auto (hE) (lets_rfl rfl) (by exact trivial) rfl ?_ | refine call_auto (hRo) (lets_rfl rfl) (by exact trivial) rfl ?_ | refine call_auto (wakes22_con) (lets_rfl rfl) (by exact trivial) rfl ?_); intro u; clear u) | (refine is_dcall ?_; refine dcall_auto (hB) (lets_rfl rfl) (by exact trivial) rfl ?_; intro u; clear u))
          all_goals first | ((refine con_end ?_ rfl; intro u; clear u; refine ⟨rfl, rfl, EntGoal.mk ?_ ?_⟩ <;> (repeat' (first | exact trivial | (with_reducible rfl) | apply And.intro | rfl))); done) | (refine again (k + 1) ⟨by omega, by rw [hnext]; exact hoo.1⟩ (by omega) ?_; (intro u; clear u; refine ⟨rfl, rfl, EntGoal.mk ?_ ?_⟩ <;> (repeat' (first | exact trivial | (with_reducible rfl) | apply And.intro | rfl))); all_goals first | rfl | (simp only [hnext]; done) | (rw [hnext]; done))
        · rw [decide_eq_false hr] at hW
          have hW := con_known2 hW
          repeat' (first | (refine is_split ?_; (first | refine sp_yes (by (first | rfl | exact dec_t (by omega))) ?_ | refine sp_no (by (first | rfl | exact dec_f (by omega))) ?_ | refine sp_dec (fun g => ?_) (fun g => ?_)) <;> (intro u; clear u)) | (refine is_asked ?_; (first | (refine is_spec ?_; (with_reducible refine asked _ (sp_add (by simp only [lo, hi]; omega) (by simp only [lo, hi]; omega)) ?_)) | (refine asked _ (dd_cell l k 12 hd (by show (0 + Int.toNat (k : Int)) * 13 + 3 + 7 + 2 = _; omega) hc rfl) ?_) | (refine asked _ (dd_cell l k 0 hd (by show (0 + Int.toNat (k : Int)) * 13 + 0 = _; omega) hc rfl) ?_) | (refine asked _ (dd_cell l k 1 hd (by show (0 + Int.toNat (k : Int)) * 13 + 1 = _; omega) hc rfl) ?_) | refine asked () ⟨by omega, by omega⟩ ?_); intro u; clear u) | (refine is_draw ?_; refine draw_step mixed (by kernel_rfl) ?_; intro u; clear u) | (refine is_call ?_; (first | refine call_auto (hO) (lets_rfl rfl) (by exact trivial) rfl ?_ | refine call_auto (hW) (lets_rfl rfl) (by exact trivial) rfl ?_ | refine call_auto (hRo) (lets_rfl rfl) (by exact trivial) rfl ?_ | refine call_auto (wakes22_con) (lets_rfl rfl) (by exact trivial) rfl ?_); intro u; clear u) | (refine is_dcall ?_; refine dcall_auto (hB) (lets_rfl rfl) (by exact trivial) rfl ?_; intro u; clear u))
          all_goals first | ((refine con_end ?_ rfl; intro u; clear u; refine ⟨rfl, rfl, EntGoal.mk ?_ ?_⟩ <;> (repeat' (first | exact trivial | (with_reducible rfl) | apply And.intro | rfl))); done) | (refine again (k + 1) ⟨by omega, by rw [hnext]; exact hoo.1⟩ (by omega) ?_; (intro u; clear u; refine ⟨rfl, rfl, EntGoal.mk ?_ ?_⟩ <;> (repeat' (first | exact trivial | (with_reducible rfl) | apply And.intro | rfl))); all_goals first | rfl | (simp only [hnext]; done) | (rw [hnext]; done))
    have hB := mvackraw_con q b ack now hq0 ad rn rcap hiff
    have heq : stepM b window q ⟨act, to, now, ack, .slice (some ad) rn rcap⟩ = mvAckM q b ack now := by unfold stepM; simp [a0, a1, a2, a3, a4]
    rw [← heq] at hB
    generalize decide (mvAckB q b ack now) = e at hB
    clear heq
    generalize hst : stepM b window q _ = o at hB hrise hnext
    have hoo := hrise
    have ho0 : 0 ≤ o.ph := by have h := hoo.1; unfold okMv at h; omega
    have hg := hoo.2
    have hgb := hok.1
    have hRo := con_yes (refmvright_con o ho0) hoo.1
    have hO := open_con o b ho0
    have hW := mvrow_con o ho0
    by_cases ho : opOk o b
    · obtain ⟨f1, f2, f3, f4⟩ := op_facts ho
      have hC := con_yes (refctlrightn_con (c := opC o b) (by rw [opC_of]; decide) (by rw [opC_nil]; rfl)) f1
      rw [decide_eq_true ho] at hO
      have hO := con_known2 hO
      rw [decide_eq_false f4] at hW
      have hW := con_known2 hW
      generalize opC o b = oc at hO hC f1 f2 f3
      repeat' (first | (refine is_split ?_; (first | refine sp_yes (by exact dec_t (by omega)) ?_ | refine sp_no (by (first | exact dec_f (by omega) | exact ndec_f (by omega))) ?_ | refine sp_dec (fun g => ?_) (fun g => ?_)) <;> (intro u; clear u)) | (refine is_asked ?_; (first | (refine is_spec ?_; (with_reducible refine asked _ (sp_add (by simp only [lo, hi]; omega) (by simp only [lo, hi]; omega)) ?_)) | (refine asked _ (dd_cell l k 12 hd (by show (0 + Int.toNat (k : Int)) * 13 + 3 + 7 + 2 = _; omega) hc rfl) ?_) | (refine asked _ (dd_cell l k 0 hd (by show (0 + Int.toNat (k : Int)) * 13 + 0 = _; omega) hc rfl) ?_) | (refine asked _ (dd_cell l k 2 hd (by show (0 + Int.toNat (k : Int)) * 13 + 2 = _; omega) hc rfl) ?_) | (refine asked _ (dd_ack l k hd (by show (0 + Int.toNat (k : Int)) * 13 + 3 = _; omega) hc cellsCt) ?_) | refine asked () ⟨by omega, by omega⟩ ?_); intro u; clear u) | (refine is_draw ?_; refine draw_step mixed (by kernel_rfl) ?_; intro u; clear u) | (refine is_call ?_; (first | refine call_auto (hO) (lets_rfl rfl) (by exact trivial) rfl ?_ | refine call_auto (hW) (lets_rfl rfl) (by exact trivial) rfl ?_ | refine call_auto (hC) (lets_rfl rfl) (by exact trivial) rfl ?_ | refine call_auto (hRo) (lets_rfl rfl) (by exact trivial) rfl ?_ | refine call_auto (wakes22_con) (lets_rfl rfl) (by exact trivial) rfl ?_); intro u; clear u) | (refine is_dcall ?_; refine dcall_auto (hB) (lets_rfl rfl) (by exact trivial) rfl ?_; intro u; clear u))
      all_goals first | ((refine con_end ?_ rfl; intro u; clear u; refine ⟨rfl, rfl, EntGoal.mk ?_ ?_⟩ <;> (repeat' (first | exact trivial | (with_reducible rfl) | apply And.intro | rfl))); done) | (refine again (k + 1) ⟨by omega, by rw [hnext]; exact hoo.1⟩ (by omega) ?_; (intro u; clear u; refine ⟨rfl, rfl, EntGoal.mk ?_ ?_⟩ <;> (repeat' (first | exact trivial | (with_reducible rfl) | apply And.intro | rfl))); all_goals first | rfl | (simp only [hnext]; done) | (rw [hnext]; done))
    · rw [decide_eq_false ho] at hO
      have hO := con_known2 hO
      by_cases hr : mvRowB o
      · rw [decide_eq_true hr] at hW
        have hW := con_known2 hW
        have hE := con_yes (refright_con (mvRowE o)) (row_facts hr)
        generalize mvRowE o = oe at hW hE
        repeat' (first | (refine is_split ?_; (first | refine sp_yes (by exact dec_t (by omega)) ?_ | refine sp_no (by exact dec_f (by omega)) ?_ | refine sp_dec (fun g => ?_) (fun g => ?_)) <;> (intro u; clear u)) | (refine is_asked ?_; (first | (refine is_spec ?_; (with_reducible refine asked _ (sp_add (by simp only [lo, hi]; omega) (by simp only [lo, hi]; omega)) ?_)) | (refine asked _ (dd_cell l k 12 hd (by show (0 + Int.toNat (k : Int)) * 13 + 3 + 7 + 2 = _; omega) hc rfl) ?_) | (refine asked _ (dd_cell l k 0 hd (by show (0 + Int.toNat (k : Int)) * 13 + 0 = _; omega) hc rfl) ?_) | (refine asked _ (dd_cell l k 2 hd (by show (0 + Int.toNat (k : Int)) * 13 + 2 = _; omega) hc rfl) ?_) | (refine asked _ (dd_ack l k hd (by show (0 + Int.toNat (k : Int)) * 13 + 3 = _; omega) hc cellsCt) ?_) | refine asked () ⟨by omega, by omega⟩ ?_); intro u; clear u) | (refine is_draw ?_; refine draw_step mixed (by kernel_rfl) ?_; intro u; clear u) | (refine is_call ?_; (first | refine call_auto (hO) (lets_rfl rfl) (by exact trivial) rfl ?_ | refine call_auto (hW) (lets_rfl rfl) (by exact trivial) rfl ?_ | refine call_auto (hE) (lets_rfl rfl) (by exact trivial) rfl ?_ | refine call_auto (hRo) (lets_rfl rfl) (by exact trivial) rfl ?_ | refine call_auto (wakes22_con) (lets_rfl rfl) (by exact trivial) rfl ?_); intro u; clear u) | (refine is_dcall ?_; refine dcall_auto (hB) (lets_rfl rfl) (by exact trivial) rfl ?_; intro u; clear u))
        all_goals first | ((refine con_end ?_ rfl; intro u; clear u; refine ⟨rfl, rfl, EntGoal.mk ?_ ?_⟩ <;> (repeat' (first | exact trivial | (with_reducible rfl) | apply And.intro | rfl))); done) | (refine again (k + 1) ⟨by omega, by rw [hnext]; exact hoo.1⟩ (by omega) ?_; (intro u; clear u; refine ⟨rfl, rfl, EntGoal.mk ?_ ?_⟩ <;> (repeat' (first | exact trivial | (with_reducible rfl) | apply And.intro | rfl))); all_goals first | rfl | (simp only [hnext]; done) | (rw [hnext]; done))
      · rw [decide_eq_false hr] at hW
        have hW := con_known2 hW
        repeat' (first | (refine is_split ?_; (first | refine sp_yes (by exact dec_t (by omega)) ?_ | refine sp_no (by exact dec_f (by omega)) ?_ | refine sp_dec (fun g => ?_) (fun g => ?_)) <;> (intro u; clear u)) | (refine is_asked ?_; (first | (refine is_spec ?_; (with_reducible refine asked _ (sp_add (by simp only [lo, hi]; omega) (by simp only [lo, hi]; omega)) ?_)) | (refine asked _ (dd_cell l k 12 hd (by show (0 + Int.toNat (k : Int)) * 13 + 3 + 7 + 2 = _; omega) hc rfl) ?_) | (refine asked _ (dd_cell l k 0 hd (by show (0 + Int.toNat (k : Int)) * 13 + 0 = _; omega) hc rfl) ?_) | (refine asked _ (dd_cell l k 2 hd (by show (0 + Int.toNat (k : Int)) * 13 + 2 = _; omega) hc rfl) ?_) | (refine asked _ (dd_ack l k hd (by show (0 + Int.toNat (k : Int)) * 13 + 3 = _; omega) hc cellsCt) ?_) | refine asked () ⟨by omega, by omega⟩ ?_); intro u; clear u) | (refine is_draw ?_; refine draw_step mixed (by kernel_rfl) ?_; intro u; clear u) | (refine is_call ?_; (first | refine call_auto (hO) (lets_rfl rfl) (by exact trivial) rfl ?_ | refine call_auto (hW) (lets_rfl rfl) (by exact trivial) rfl ?_ | refine call_auto (hRo) (lets_rfl rfl) (by exact trivial) rfl ?_ | refine call_auto (wakes22_con) (lets_rfl rfl) (by exact trivial) rfl ?_); intro u; clear u) | (refine is_dcall ?_; refine dcall_auto (hB) (lets_rfl rfl) (by exact trivial) rfl ?_; intro u; clear u))
        all_goals first | ((refine con_end ?_ rfl; intro u; clear u; refine ⟨rfl, rfl, EntGoal.mk ?_ ?_⟩ <;> (repeat' (first | exact trivial | (with_reducible rfl) | apply And.intro | rfl))); done) | (refine again (k + 1) ⟨by omega, by rw [hnext]; exact hoo.1⟩ (by omega) ?_; (intro u; clear u; refine ⟨rfl, rfl, EntGoal.mk ?_ ?_⟩ <;> (repeat' (first | exact trivial | (with_reducible rfl) | apply And.intro | rfl))); all_goals first | rfl | (simp only [hnext]; done) | (rw [hnext]; done))
end Go.Proofs.S19
