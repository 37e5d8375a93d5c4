/- Contracts of functions of the program, or a row of the seat, proved out of them. No condition beyond those that stand in each statement. -/
import Derived.Test.YtiijiofhofkhkaaS19gA3
namespace Go.Proofs.S19
open Go Go.SE
set_option maxRecDepth 100000
set_option maxHeartbeats 4000000
attribute [local irreducible] specI

theorem cacks_con {c d : Ctl} (hc : (0 ≤ c.of ∧ c.of ≤ 255) ∧ 0 ≤ c.kind) (hd : (0 ≤ d.of ∧ d.of ≤ 255) ∧ 0 ≤ d.kind) : CallCon Try.prog 6 [ctlT 0 c, ctlT 1 d] [.row (rowsV c.sh.rows) 5 101 false, .row (rowsV d.sh.rows) 5 101 false] (.t (.one (.v (.bool true)))) [] := by
  have g1 := great_con c
  have g2 := great_con d
  by_cases hg : 40 < c.sh.rows.length ∨ 40 < d.sh.rows.length
  · skip
    refine con_of_call2 rfl ?_
    refine call_inline Try.func6 rfl rfl ?_
    intro _
    repeat' (first | (refine is_split ?_; (first | refine sp_yes (by exact dec_t (by omega)) ?_ | refine sp_dec (fun g => ?_) (fun g => ?_)) <;> (intro u; clear u)) | (refine is_call ?_; (first | refine call_auto (wakes19_con) (lets_rfl rfl) (by exact trivial) rfl ?_ | refine call_auto (g1) (lets_rfl rfl) (by exact ⟨⟨_, rfl, rfl, rfl⟩, trivial⟩) rfl ?_ | refine call_auto (g2) (lets_rfl rfl) (by exact ⟨⟨_, rfl, rfl, rfl⟩, trivial⟩) rfl ?_); intro u; clear u))
    all_goals (first | ((refine con_end ?_ rfl; intro u; clear u; refine ⟨rfl, rfl, EntGoal.mk ?_ ?_⟩ <;> (repeat' (first | exact trivial | (with_reducible rfl) | apply And.intro | rfl))); done))
  have l1 : c.sh.rows.length ≤ 40 := by omega
  have l2 : d.sh.rows.length ≤ 40 := by omega
  have g1 := con_no g1 (by omega)
  have g2 := con_no g2 (by omega)
  have a1 := ctlack_con hc.1 hc.2 (by omega)
  have e2 := refctlright_con hc.1 (by omega)
  have f1 := answers_con (a := d) (c := c) (by omega) hc.1 hc.2 (by omega)
  by_cases ha : ackOk c
  rotate_left
  · rw [decide_eq_false ha, show ackC c = zeroCtl by unfold ackC; rw [if_neg ha]] at a1
    have a1 := con_known2 a1
    have z1 := con_yes (refsamenn_con (c := zeroCtl) (d := zeroCtl) rfl rfl) rfl
    have f1 := con_no f1 (fun h => ha h.1)
    by_cases hk : c.kind ≤ 3
    · have e2 := con_no e2 (fun h => ha ⟨h, hk⟩)
      refine con_of_call2 rfl ?_
      refine call_inline Try.func6 rfl rfl ?_
      intro _
      repeat' (refine is_call ?_; (first | refine call_auto (wakes19_con) (lets_rfl rfl) (by exact trivial) rfl ?_ | refine call_auto (g1) (lets_rfl rfl) (by exact ⟨⟨_, rfl, rfl, rfl⟩, trivial⟩) rfl ?_ | refine call_auto (g2) (lets_rfl rfl) (by exact ⟨⟨_, rfl, rfl, rfl⟩, trivial⟩) rfl ?_ | refine call_auto (a1) (lets_rfl rfl) (by exact ⟨⟨_, rfl, rfl, rfl⟩, trivial⟩) rfl ?_ | refine call_auto (e2) (lets_rfl rfl) (by exact ⟨⟨_, rfl, rfl, rfl⟩, trivial⟩) rfl ?_ | refine call_le (by (repeat' (first | exact trivial | apply And.intro | exact rfl)); (first | done | fail)) (z1) (by exact trivial) rfl ?_ | refine call_auto (f1) (lets_rfl rfl) (by exact ⟨⟨_, rfl, rfl, rfl⟩, ⟨_, rfl, rfl, rfl⟩, trivial⟩) rfl ?_); intro u; clear u)
      all_goals (first | ((refine con_end ?_ rfl; intro u; clear u; refine ⟨rfl, rfl, EntGoal.mk ?_ ?_⟩ <;> (repeat' (first | exact trivial | (with_reducible rfl) | apply And.intro | rfl))); done))
    · by_cases ho : okCtl c
      · have e2 := con_yes e2 ho
        refine con_of_call2 rfl ?_
        refine call_inline Try.func6 rfl rfl ?_
        intro _
        repeat' (first | (refine is_split ?_; ((refine sp_no ?_ ?_; focus (simp; omega))) <;> (intro u; clear u)) | (refine is_call ?_; (first | refine call_auto (wakes19_con) (lets_rfl rfl) (by exact trivial) rfl ?_ | refine call_auto (g1) (lets_rfl rfl) (by exact ⟨⟨_, rfl, rfl, rfl⟩, trivial⟩) rfl ?_ | refine call_auto (g2) (lets_rfl rfl) (by exact ⟨⟨_, rfl, rfl, rfl⟩, trivial⟩) rfl ?_ | refine call_auto (a1) (lets_rfl rfl) (by exact ⟨⟨_, rfl, rfl, rfl⟩, trivial⟩) rfl ?_ | refine call_auto (e2) (lets_rfl rfl) (by exact ⟨⟨_, rfl, rfl, rfl⟩, trivial⟩) rfl ?_ | refine call_le (by (repeat' (first | exact trivial | apply And.intro | exact rfl)); (first | done | fail)) (z1) (by exact trivial) rfl ?_ | refine call_auto (f1) (lets_rfl rfl) (by exact ⟨⟨_, rfl, rfl, rfl⟩, ⟨_, rfl, rfl, rfl⟩, trivial⟩) rfl ?_); intro u; clear u))
        all_goals (first | ((refine con_end ?_ rfl; intro u; clear u; refine ⟨rfl, rfl, EntGoal.mk ?_ ?_⟩ <;> (repeat' (first | exact trivial | (with_reducible rfl) | apply And.intro | rfl))); done))
      · have e2 := con_no e2 ho
        refine con_of_call2 rfl ?_
        refine call_inline Try.func6 rfl rfl ?_
        intro _
        repeat' (refine is_call ?_; (first | refine call_auto (wakes19_con) (lets_rfl rfl) (by exact trivial) rfl ?_ | refine call_auto (g1) (lets_rfl rfl) (by exact ⟨⟨_, rfl, rfl, rfl⟩, trivial⟩) rfl ?_ | refine call_auto (g2) (lets_rfl rfl) (by exact ⟨⟨_, rfl, rfl, rfl⟩, trivial⟩) rfl ?_ | refine call_auto (a1) (lets_rfl rfl) (by exact ⟨⟨_, rfl, rfl, rfl⟩, trivial⟩) rfl ?_ | refine call_auto (e2) (lets_rfl rfl) (by exact ⟨⟨_, rfl, rfl, rfl⟩, trivial⟩) rfl ?_ | refine call_le (by (repeat' (first | exact trivial | apply And.intro | exact rfl)); (first | done | fail)) (z1) (by exact trivial) rfl ?_ | refine call_auto (f1) (lets_rfl rfl) (by exact ⟨⟨_, rfl, rfl, rfl⟩, ⟨_, rfl, rfl, rfl⟩, trivial⟩) rfl ?_); intro u; clear u)
        all_goals (first | ((refine con_end ?_ rfl; intro u; clear u; refine ⟨rfl, rfl, EntGoal.mk ?_ ?_⟩ <;> (repeat' (first | exact trivial | (with_reducible rfl) | apply And.intro | rfl))); done))
  have e2 := con_yes e2 ha.1
  have hk := ha.2
  have eA : ackC c = ⟨4, c.kind, c.agent, c.bkt, c.gen, 0, 0, zeroSh⟩ := by unfold ackC; rw [if_pos ha]
  have k1 := ok_kind ha.1
  have okA : okCtl ⟨4, c.kind, c.agent, c.bkt, c.gen, 0, 0, zeroSh⟩ := by
    have h := ha.1
    have hx : okCtl ⟨4, c.kind, c.agent, c.bkt, c.gen, 0, 0, zeroSh⟩ ↔ _ := ok4_yes (of := c.kind) (agent := c.agent) (bkt := c.bkt) (gen := c.gen) (peer := 0) (ver := 0) (base := 0) (to := 0) (rows := []) rfl
    rw [hx]
    simp only [okCtl] at h
    omega
  have a1 : CallCon Try.prog 17 [ctlT 0 c] [.row (rowsV c.sh.rows) 5 101 false] (.tup [(.agg [.v (.int .u8 4), .v (.int .u8 c.kind), .v (.int .i64 c.agent), .v (.int .i64 c.bkt), .v (.int .i64 c.gen), .v (.int .i64 0), .v (.int .i64 0), .v (.int .i64 0), .v (.int .i64 0), .v (.slice none 0 0)]), .one (.v (.bool true))]) [] := by
    rw [decide_eq_true ha, eA] at a1
    exact con_known2 a1
  have a2 : CallCon Try.prog 17 [(.agg [.v (.int .u8 4), .v (.int .u8 c.kind), .v (.int .i64 c.agent), .v (.int .i64 c.bkt), .v (.int .i64 c.gen), .v (.int .i64 0), .v (.int .i64 0), .v (.int .i64 0), .v (.int .i64 0), .v (.slice none 0 0)])] [] (.tup [ctlN zeroCtl, .one (.v (.bool false))]) [] := by
    have na : ¬ ackOk ⟨4, c.kind, c.agent, c.bkt, c.gen, 0, 0, zeroSh⟩ := fun h => absurd h.2 (by show ¬ ((4 : Int) ≤ 3); decide)
    have t := ctlackn_con (c := ⟨4, c.kind, c.agent, c.bkt, c.gen, 0, 0, zeroSh⟩) (by show 0 ≤ c.kind ∧ c.kind ≤ 255; omega) (by show (0 : Int) ≤ 4; decide) rfl
    rw [decide_eq_false na, show ackC ⟨4, c.kind, c.agent, c.bkt, c.gen, 0, 0, zeroSh⟩ = zeroCtl by unfold ackC; rw [if_neg na]] at t
    exact con_known2 t
  have r1 : CallCon Try.prog 21 [(.agg [.v (.int .u8 4), .v (.int .u8 c.kind), .v (.int .i64 c.agent), .v (.int .i64 c.bkt), .v (.int .i64 c.gen), .v (.int .i64 0), .v (.int .i64 0), .v (.int .i64 0), .v (.int .i64 0), .v (.slice none 0 0)])] [] (.t (.one (.v (.bool true)))) [] := con_yes (ctlrightn_con (c := ⟨4, c.kind, c.agent, c.bkt, c.gen, 0, 0, zeroSh⟩) (by show 0 ≤ c.kind ∧ c.kind ≤ 255; omega) (by show (0 : Int) ≤ 4; decide) rfl) okA
  have n1 : CallCon Try.prog 23 [(.agg [.v (.int .u8 4), .v (.int .u8 c.kind), .v (.int .i64 c.agent), .v (.int .i64 c.bkt), .v (.int .i64 c.gen), .v (.int .i64 0), .v (.int .i64 0), .v (.int .i64 0), .v (.int .i64 0), .v (.slice none 0 0)]), ctlT 0 c] [.row (rowsV c.sh.rows) 5 101 false] (.t (.one (.v (.bool true)))) [] := con_yes (answers0_con (a := ⟨4, c.kind, c.agent, c.bkt, c.gen, 0, 0, zeroSh⟩) rfl hc.1 hc.2 (by omega)) ⟨ha, eA.symm⟩
  have r2 := refctlright_con hd.1 (c := d) (by omega)
  have n2 : CallCon Try.prog 23 [(.agg [.v (.int .u8 4), .v (.int .u8 c.kind), .v (.int .i64 c.agent), .v (.int .i64 c.bkt), .v (.int .i64 c.gen), .v (.int .i64 0), .v (.int .i64 0), .v (.int .i64 0), .v (.int .i64 0), .v (.slice none 0 0)]), ctlT 0 d] [.row (rowsV d.sh.rows) 5 101 false] (.t (.one (.b (ackOk d ∧ ⟨4, c.kind, c.agent, c.bkt, c.gen, 0, 0, zeroSh⟩ = ackC d)))) [] := answers0_con (a := ⟨4, c.kind, c.agent, c.bkt, c.gen, 0, 0, zeroSh⟩) (c := d) rfl hd.1 hd.2 (by omega)
  have s1 : CallCon Try.prog 20 [(.agg [.v (.int .u8 4), .v (.int .u8 c.kind), .v (.int .i64 c.agent), .v (.int .i64 c.bkt), .v (.int .i64 c.gen), .v (.int .i64 0), .v (.int .i64 0), .v (.int .i64 0), .v (.int .i64 0), .v (.slice none 0 0)]), ctlT 0 d] [.row (rowsV d.sh.rows) 5 101 false] (.t (.one (.b (⟨4, c.kind, c.agent, c.bkt, c.gen, 0, 0, zeroSh⟩ = d)))) [] := refsame0_con (a := ⟨4, c.kind, c.agent, c.bkt, c.gen, 0, 0, zeroSh⟩) (d := d) rfl (by omega)
  have iff1 : (ackOk d ∧ ⟨4, c.kind, c.agent, c.bkt, c.gen, 0, 0, zeroSh⟩ = ackC d) ↔ (okCtl d ∧ d.kind = c.kind ∧ d.agent = c.agent ∧ d.bkt = c.bkt ∧ d.gen = c.gen) := by
    constructor
    · rintro ⟨h1, h2⟩
      rw [show ackC d = ⟨4, d.kind, d.agent, d.bkt, d.gen, 0, 0, zeroSh⟩ by unfold ackC; rw [if_pos h1]] at h2
      simp only [Ctl.mk.injEq] at h2
      exact ⟨h1.1, h2.2.1.symm, h2.2.2.1.symm, h2.2.2.2.1.symm, h2.2.2.2.2.1.symm⟩
    · rintro ⟨h1, h2, h3, h4, h5⟩
      have hq : ackOk d := ⟨h1, by omega⟩
      exact ⟨hq, by rw [show ackC d = ⟨4, d.kind, d.agent, d.bkt, d.gen, 0, 0, zeroSh⟩ by unfold ackC; rw [if_pos hq], h2, h3, h4, h5]⟩
  have iff2 : (ackOk c ∧ d = ackC c) ↔ ⟨4, c.kind, c.agent, c.bkt, c.gen, 0, 0, zeroSh⟩ = d := ⟨fun h => by rw [← eA, h.2], fun h => ⟨ha, by rw [eA, h]⟩⟩
  by_cases hda : ⟨4, c.kind, c.agent, c.bkt, c.gen, 0, 0, zeroSh⟩ = d
  · have s1 := con_yes s1 hda
    have f1 := con_yes f1 (iff2.2 hda)
    clear iff2
    by_cases hod : okCtl d
    · have r2 := con_yes r2 hod
      by_cases hal : d.kind = c.kind ∧ d.agent = c.agent ∧ d.bkt = c.bkt ∧ d.gen = c.gen
      · have n2 := con_yes n2 (iff1.2 ⟨hod, hal⟩)
        clear iff1 okA eA hda
        refine con_of_call2 rfl ?_
        refine call_inline Try.func6 rfl rfl ?_
        intro _
        repeat' (first | (refine is_split ?_; (first | ((refine sp_yes ?_ ?_; focus (simp; omega))) | ((refine sp_no ?_ ?_; focus (simp; omega))) | refine sp_no (by exact ndec_f (by omega)) ?_) <;> (intro u; clear u)) | (refine is_draw ?_; refine draw_step mixed (by kernel_rfl) ?_; intro u; clear u) | (refine is_call ?_; (first | refine call_auto (g1) (lets_rfl rfl) (by exact ⟨⟨_, rfl, rfl, rfl⟩, trivial⟩) rfl ?_ | refine call_auto (g2) (lets_rfl rfl) (by exact ⟨⟨_, rfl, rfl, rfl⟩, trivial⟩) rfl ?_ | refine call_auto (a1) (lets_rfl rfl) (by exact ⟨⟨_, rfl, rfl, rfl⟩, trivial⟩) rfl ?_ | refine call_auto (e2) (lets_rfl rfl) (by exact ⟨⟨_, rfl, rfl, rfl⟩, trivial⟩) rfl ?_ | refine call_auto (a2) (lets_rfl rfl) (by exact trivial) rfl ?_ | refine call_auto (r1) (lets_rfl rfl) (by exact trivial) rfl ?_ | refine call_auto (n1) (lets_rfl rfl) (by exact ⟨⟨_, rfl, rfl, rfl⟩, trivial⟩) rfl ?_ | refine call_auto (r2) (lets_rfl rfl) (by exact ⟨⟨_, rfl, rfl, rfl⟩, trivial⟩) rfl ?_); intro u; clear u) | (refine is_dcall ?_; (first | refine dcall_auto (wakes19_con) (lets_rfl rfl) (by exact trivial) rfl ?_ | refine dcall_auto (n2) (lets_rfl rfl) (by exact ⟨⟨_, rfl, rfl, rfl⟩, trivial⟩) rfl ?_ | refine dcall_auto (f1) (lets_rfl rfl) (by exact ⟨⟨_, rfl, rfl, rfl⟩, ⟨_, rfl, rfl, rfl⟩, trivial⟩) rfl ?_ | refine dcall_auto (s1) (lets_rfl rfl) (by exact ⟨⟨_, rfl, rfl, rfl⟩, trivial⟩) rfl ?_); intro u; clear u))
        all_goals (first | ((refine con_end ?_ rfl; intro u; clear u; refine ⟨rfl, rfl, EntGoal.mk ?_ ?_⟩ <;> (repeat' (first | exact trivial | (with_reducible rfl) | apply And.intro | rfl))); done))
      · have n2 := con_no n2 (fun h => hal (iff1.1 h).2)
        clear iff1 okA eA hda
        refine con_of_call2 rfl ?_
        refine call_inline Try.func6 rfl rfl ?_
        intro _
        repeat' (first | (refine is_split ?_; (first | ((refine sp_yes ?_ ?_; focus (simp; omega))) | ((refine sp_no ?_ ?_; focus (simp; omega))) | refine sp_no (by exact ndec_f (by omega)) ?_ | refine sp_dec (fun g => ?_) (fun g => ?_)) <;> (intro u; clear u)) | (refine is_draw ?_; refine draw_step mixed (by kernel_rfl) ?_; intro u; clear u) | (refine is_call ?_; (first | refine call_auto (g1) (lets_rfl rfl) (by exact ⟨⟨_, rfl, rfl, rfl⟩, trivial⟩) rfl ?_ | refine call_auto (g2) (lets_rfl rfl) (by exact ⟨⟨_, rfl, rfl, rfl⟩, trivial⟩) rfl ?_ | refine call_auto (a1) (lets_rfl rfl) (by exact ⟨⟨_, rfl, rfl, rfl⟩, trivial⟩) rfl ?_ | refine call_auto (e2) (lets_rfl rfl) (by exact ⟨⟨_, rfl, rfl, rfl⟩, trivial⟩) rfl ?_ | refine call_auto (a2) (lets_rfl rfl) (by exact trivial) rfl ?_ | refine call_auto (r1) (lets_rfl rfl) (by exact trivial) rfl ?_ | refine call_auto (n1) (lets_rfl rfl) (by exact ⟨⟨_, rfl, rfl, rfl⟩, trivial⟩) rfl ?_ | refine call_auto (r2) (lets_rfl rfl) (by exact ⟨⟨_, rfl, rfl, rfl⟩, trivial⟩) rfl ?_); intro u; clear u) | (refine is_dcall ?_; (first | refine dcall_auto (wakes19_con) (lets_rfl rfl) (by exact trivial) rfl ?_ | refine dcall_auto (n2) (lets_rfl rfl) (by exact ⟨⟨_, rfl, rfl, rfl⟩, trivial⟩) rfl ?_ | refine dcall_auto (f1) (lets_rfl rfl) (by exact ⟨⟨_, rfl, rfl, rfl⟩, ⟨_, rfl, rfl, rfl⟩, trivial⟩) rfl ?_ | refine dcall_auto (s1) (lets_rfl rfl) (by exact ⟨⟨_, rfl, rfl, rfl⟩, trivial⟩) rfl ?_); intro u; clear u))
        all_goals (first | ((refine con_end ?_ rfl; intro u; clear u; refine ⟨rfl, rfl, EntGoal.mk ?_ ?_⟩ <;> (repeat' (first | exact trivial | (with_reducible rfl) | apply And.intro | rfl))); done))
    · have r2 := con_no r2 hod
      have n2 := con_no n2 (fun h => hod (iff1.1 h).1)
      clear iff1 okA eA hda
      refine con_of_call2 rfl ?_
      refine call_inline Try.func6 rfl rfl ?_
      intro _
      repeat' (first | (refine is_split ?_; (first | ((refine sp_no ?_ ?_; focus (simp; omega))) | refine sp_no (by exact ndec_f (by omega)) ?_) <;> (intro u; clear u)) | (refine is_draw ?_; refine draw_step mixed (by kernel_rfl) ?_; intro u; clear u) | (refine is_call ?_; (first | refine call_auto (g1) (lets_rfl rfl) (by exact ⟨⟨_, rfl, rfl, rfl⟩, trivial⟩) rfl ?_ | refine call_auto (g2) (lets_rfl rfl) (by exact ⟨⟨_, rfl, rfl, rfl⟩, trivial⟩) rfl ?_ | refine call_auto (a1) (lets_rfl rfl) (by exact ⟨⟨_, rfl, rfl, rfl⟩, trivial⟩) rfl ?_ | refine call_auto (e2) (lets_rfl rfl) (by exact ⟨⟨_, rfl, rfl, rfl⟩, trivial⟩) rfl ?_ | refine call_auto (a2) (lets_rfl rfl) (by exact trivial) rfl ?_ | refine call_auto (r1) (lets_rfl rfl) (by exact trivial) rfl ?_ | refine call_auto (n1) (lets_rfl rfl) (by exact ⟨⟨_, rfl, rfl, rfl⟩, trivial⟩) rfl ?_ | refine call_auto (r2) (lets_rfl rfl) (by exact ⟨⟨_, rfl, rfl, rfl⟩, trivial⟩) rfl ?_); intro u; clear u) | (refine is_dcall ?_; (first | refine dcall_auto (wakes19_con) (lets_rfl rfl) (by exact trivial) rfl ?_ | refine dcall_auto (n2) (lets_rfl rfl) (by exact ⟨⟨_, rfl, rfl, rfl⟩, trivial⟩) rfl ?_ | refine dcall_auto (f1) (lets_rfl rfl) (by exact ⟨⟨_, rfl, rfl, rfl⟩, ⟨_, rfl, rfl, rfl⟩, trivial⟩) rfl ?_ | refine dcall_auto (s1) (lets_rfl rfl) (by exact ⟨⟨_, rfl, rfl, rfl⟩, trivial⟩) rfl ?_); intro u; clear u))
      all_goals (first | ((refine con_end ?_ rfl; intro u; clear u; refine ⟨rfl, rfl, EntGoal.mk ?_ ?_⟩ <;> (repeat' (first | exact trivial | (with_reducible rfl) | apply And.intro | rfl))); done))

  · have s1 := con_no s1 hda
    have f1 := con_no f1 (fun h => hda (iff2.1 h))
    clear iff2
    by_cases hod : okCtl d
    · have r2 := con_yes r2 hod
      by_cases hal : d.kind = c.kind ∧ d.agent = c.agent ∧ d.bkt = c.bkt ∧ d.gen = c.gen
      · have n2 := con_yes n2 (iff1.2 ⟨hod, hal⟩)
        clear iff1 okA eA hda
        refine con_of_call2 rfl ?_
        refine call_inline Try.func6 rfl rfl ?_
        intro _
        repeat' (first | (refine is_split ?_; (first | ((refine sp_yes ?_ ?_; focus (simp; omega))) | ((refine sp_no ?_ ?_; focus (simp; omega))) | refine sp_no (by exact ndec_f (by omega)) ?_) <;> (intro u; clear u)) | (refine is_draw ?_; refine draw_step mixed (by kernel_rfl) ?_; intro u; clear u) | (refine is_call ?_; (first | refine call_auto (g1) (lets_rfl rfl) (by exact ⟨⟨_, rfl, rfl, rfl⟩, trivial⟩) rfl ?_ | refine call_auto (g2) (lets_rfl rfl) (by exact ⟨⟨_, rfl, rfl, rfl⟩, trivial⟩) rfl ?_ | refine call_auto (a1) (lets_rfl rfl) (by exact ⟨⟨_, rfl, rfl, rfl⟩, trivial⟩) rfl ?_ | refine call_auto (e2) (lets_rfl rfl) (by exact ⟨⟨_, rfl, rfl, rfl⟩, trivial⟩) rfl ?_ | refine call_auto (a2) (lets_rfl rfl) (by exact trivial) rfl ?_ | refine call_auto (r1) (lets_rfl rfl) (by exact trivial) rfl ?_ | refine call_auto (n1) (lets_rfl rfl) (by exact ⟨⟨_, rfl, rfl, rfl⟩, trivial⟩) rfl ?_ | refine call_auto (r2) (lets_rfl rfl) (by exact ⟨⟨_, rfl, rfl, rfl⟩, trivial⟩) rfl ?_); intro u; clear u) | (refine is_dcall ?_; (first | refine dcall_auto (wakes19_con) (lets_rfl rfl) (by exact trivial) rfl ?_ | refine dcall_auto (n2) (lets_rfl rfl) (by exact ⟨⟨_, rfl, rfl, rfl⟩, trivial⟩) rfl ?_ | refine dcall_auto (f1) (lets_rfl rfl) (by exact ⟨⟨_, rfl, rfl, rfl⟩, ⟨_, rfl, rfl, rfl⟩, trivial⟩) rfl ?_ | refine dcall_auto (s1) (lets_rfl rfl) (by exact ⟨⟨_, rfl, rfl, rfl⟩, trivial⟩) rfl ?_); intro u; clear u))
        all_goals (first | ((refine con_end ?_ rfl; intro u; clear u; refine ⟨rfl, rfl, EntGoal.mk ?_ ?_⟩ <;> (repeat' (first | exact trivial | (with_reducible rfl) | apply And.intro | rfl))); done))
      · have n2 := con_no n2 (fun h => hal (iff1.1 h).2)
        clear iff1 okA eA hda
        refine con_of_call2 rfl ?_
        refine call_inline Try.func6 rfl rfl ?_
        intro _
        repeat' (first | (refine is_split ?_; (first | ((refine sp_yes ?_ ?_; focus (simp; omega))) | ((refine sp_no ?_ ?_; focus (simp; omega))) | refine sp_no (by exact ndec_f (by omega)) ?_ | refine sp_dec (fun g => ?_) (fun g => ?_)) <;> (intro u; clear u)) | (refine is_draw ?_; refine draw_step mixed (by kernel_rfl) ?_; intro u; clear u) | (refine is_call ?_; (first | refine call_auto (g1) (lets_rfl rfl) (by exact ⟨⟨_, rfl, rfl, rfl⟩, trivial⟩) rfl ?_ | refine call_auto (g2) (lets_rfl rfl) (by exact ⟨⟨_, rfl, rfl, rfl⟩, trivial⟩) rfl ?_ | refine call_auto (a1) (lets_rfl rfl) (by exact ⟨⟨_, rfl, rfl, rfl⟩, trivial⟩) rfl ?_ | refine call_auto (e2) (lets_rfl rfl) (by exact ⟨⟨_, rfl, rfl, rfl⟩, trivial⟩) rfl ?_ | refine call_auto (a2) (lets_rfl rfl) (by exact trivial) rfl ?_ | refine call_auto (r1) (lets_rfl rfl) (by exact trivial) rfl ?_ | refine call_auto (n1) (lets_rfl rfl) (by exact ⟨⟨_, rfl, rfl, rfl⟩, trivial⟩) rfl ?_ | refine call_auto (r2) (lets_rfl rfl) (by exact ⟨⟨_, rfl, rfl, rfl⟩, trivial⟩) rfl ?_); intro u; clear u) | (refine is_dcall ?_; (first | refine dcall_auto (wakes19_con) (lets_rfl rfl) (by exact trivial) rfl ?_ | refine dcall_auto (n2) (lets_rfl rfl) (by exact ⟨⟨_, rfl, rfl, rfl⟩, trivial⟩) rfl ?_ | refine dcall_auto (f1) (lets_rfl rfl) (by exact ⟨⟨_, rfl, rfl, rfl⟩, ⟨_, rfl, rfl, rfl⟩, trivial⟩) rfl ?_ | refine dcall_auto (s1) (lets_rfl rfl) (by exact ⟨⟨_, rfl, rfl, rfl⟩, trivial⟩) rfl ?_); intro u; clear u))
        all_goals (first | ((refine con_end ?_ rfl; intro u; clear u; refine ⟨rfl, rfl, EntGoal.mk ?_ ?_⟩ <;> (repeat' (first | exact trivial | (with_reducible rfl) | apply And.intro | rfl))); done))
    · have r2 := con_no r2 hod
      have n2 := con_no n2 (fun h => hod (iff1.1 h).1)
      clear iff1 okA eA hda
      refine con_of_call2 rfl ?_
      refine call_inline Try.func6 rfl rfl ?_
      intro _
      repeat' (first | (refine is_split ?_; (first | ((refine sp_no ?_ ?_; focus (simp; omega))) | refine sp_no (by exact ndec_f (by omega)) ?_) <;> (intro u; clear u)) | (refine is_draw ?_; refine draw_step mixed (by kernel_rfl) ?_; intro u; clear u) | (refine is_call ?_; (first | refine call_auto (g1) (lets_rfl rfl) (by exact ⟨⟨_, rfl, rfl, rfl⟩, trivial⟩) rfl ?_ | refine call_auto (g2) (lets_rfl rfl) (by exact ⟨⟨_, rfl, rfl, rfl⟩, trivial⟩) rfl ?_ | refine call_auto (a1) (lets_rfl rfl) (by exact ⟨⟨_, rfl, rfl, rfl⟩, trivial⟩) rfl ?_ | refine call_auto (e2) (lets_rfl rfl) (by exact ⟨⟨_, rfl, rfl, rfl⟩, trivial⟩) rfl ?_ | refine call_auto (a2) (lets_rfl rfl) (by exact trivial) rfl ?_ | refine call_auto (r1) (lets_rfl rfl) (by exact trivial) rfl ?_ | refine call_auto (n1) (lets_rfl rfl) (by exact ⟨⟨_, rfl, rfl, rfl⟩, trivial⟩) rfl ?_ | refine call_auto (r2) (lets_rfl rfl) (by exact ⟨⟨_, rfl, rfl, rfl⟩, trivial⟩) rfl ?_); intro u; clear u) | (refine is_dcall ?_; (first | refine dcall_auto (wakes19_con) (lets_rfl rfl) (by exact trivial) rfl ?_ | refine dcall_auto (n2) (lets_rfl rfl) (by exact ⟨⟨_, rfl, rfl, rfl⟩, trivial⟩) rfl ?_ | refine dcall_auto (f1) (lets_rfl rfl) (by exact ⟨⟨_, rfl, rfl, rfl⟩, ⟨_, rfl, rfl, rfl⟩, trivial⟩) rfl ?_ | refine dcall_auto (s1) (lets_rfl rfl) (by exact ⟨⟨_, rfl, rfl, rfl⟩, trivial⟩) rfl ?_); intro u; clear u))
      all_goals (first | ((refine con_end ?_ rfl; intro u; clear u; refine ⟨rfl, rfl, EntGoal.mk ?_ ?_⟩ <;> (repeat' (first | exact trivial | (with_reducible rfl) | apply And.intro | rfl))); done))
end Go.Proofs.S19
