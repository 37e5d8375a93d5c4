/- Contracts of functions of the program, or a row of the seat, proved out of them. No condition beyond those that stand in each statement. -/
import Derived.Test.YtiijiofhofkhkaaS19gA2
import Derived.Test.YtiijiofhofkhkaaS19gA6
namespace Go.Proofs.S19
open Go Go.SE
set_option maxRecDepth 100000
set_option maxHeartbeats 4000000
attribute [local irreducible] specI

theorem refsame0_con {a d : Ctl} (ha : a.sh.rows = []) (hd : d.sh.rows.length ≤ 1000000) : CallCon Try.prog 20 [ctlN a, ctlT 0 d] [.row (rowsV d.sh.rows) 5 101 false] (.t (.one (.b (a = d)))) [] := by
  have t := refsame_con (c := a) (d := d) (by rw [ha]; decide) hd
  rw [show ctlT 0 a = .agg [.v (.int .u8 a.kind), .v (.int .u8 a.of), .v (.int .i64 a.agent), .v (.int .i64 a.bkt), .v (.int .i64 a.gen), .v (.int .i64 a.peer), .v (.int .i64 a.ver), .v (.int .i64 a.sh.base), .v (.int .i64 a.sh.to), .sl 0 0 0] by unfold ctlT ctlS; rw [ha]; rfl, ha] at t
  exact con_nil0 [ctlN a, ctlT 0 d] t (by repeat' (first | exact trivial | exact rfl | exact Or.inl rfl | apply And.intro))
theorem answers0_con {a c : Ctl} (ha : a.sh.rows = []) (ho : 0 ≤ c.of ∧ c.of ≤ 255) (h0 : 0 ≤ c.kind) (hl : c.sh.rows.length ≤ 1000000) : CallCon Try.prog 23 [ctlN a, ctlT 0 c] [.row (rowsV c.sh.rows) 5 101 false] (.t (.one (.b (ackOk c ∧ a = ackC c)))) [] := by
  have t := answers_con (a := a) (c := c) (by rw [ha]; decide) ho h0 hl
  rw [show ctlT 0 a = .agg [.v (.int .u8 a.kind), .v (.int .u8 a.of), .v (.int .i64 a.agent), .v (.int .i64 a.bkt), .v (.int .i64 a.gen), .v (.int .i64 a.peer), .v (.int .i64 a.ver), .v (.int .i64 a.sh.base), .v (.int .i64 a.sh.to), .sl 0 0 0] by unfold ctlT ctlS; rw [ha]; rfl, ha] at t
  exact con_nil0 [ctlN a, ctlT 0 c] t (by repeat' (first | exact trivial | exact rfl | exact Or.inl rfl | apply And.intro))
theorem refanswers_con {a c : Ctl} (hs : a.sh.rows.length ≤ 1000000) (ho : 0 ≤ c.of ∧ c.of ≤ 255) (h0 : 0 ≤ c.kind) (hl : c.sh.rows.length ≤ 1000000) : CallCon Try.prog 24 [ctlT 0 a, ctlT 1 c] [.row (rowsV a.sh.rows) 5 101 false, .row (rowsV c.sh.rows) 5 101 false] (.t (.one (.b (ackOk c ∧ a = ackC c)))) [] := by
  have hA := refctlack_con ho h0 hl
  have hS := refsame0_con (a := ackC c) (d := a) (by rw [ackC_nil]; rfl) hs
  by_cases ha : ackOk c
  · rw [decide_eq_true ha] at hA
    have hA := con_known2 hA
    rw [show decide (ackOk c ∧ a = ackC c) = decide (ackC c = a) by rw [decide_eq_decide]; exact ⟨fun h => h.2.symm, fun h => ⟨ha, h.symm⟩⟩]
    refine con_of_call2 rfl ?_
    refine call_inline Try.func24 rfl rfl ?_
    intro _
    repeat' (refine is_call ?_; (first | refine call_auto (hA) (lets_rfl rfl) (by exact ⟨⟨_, rfl, rfl, rfl⟩, trivial⟩) rfl ?_ | refine call_auto (hS) (lets_rfl rfl) (by exact ⟨⟨_, rfl, rfl, rfl⟩, trivial⟩) rfl ?_); intro u; clear u)
    all_goals (first | ((refine con_end ?_ rfl; intro u; clear u; refine ⟨rfl, rfl, EntGoal.mk ?_ ?_⟩ <;> (repeat' (first | exact trivial | (with_reducible rfl) | apply And.intro | rfl))); done))
  · rw [decide_eq_false ha] at hA
    have hA := con_known2 hA
    rw [decide_eq_false (fun h => ha h.1 : ¬ (ackOk c ∧ a = ackC c))]
    refine con_of_call2 rfl ?_
    refine call_inline Try.func24 rfl rfl ?_
    intro _
    repeat' (refine is_call ?_; refine call_auto (hA) (lets_rfl rfl) (by exact ⟨⟨_, rfl, rfl, rfl⟩, trivial⟩) rfl ?_; intro u; clear u)
    all_goals (first | ((refine con_end ?_ rfl; intro u; clear u; refine ⟨rfl, rfl, EntGoal.mk ?_ ?_⟩ <;> (repeat' (first | exact trivial | (with_reducible rfl) | apply And.intro | rfl))); done))
theorem ctells_con {c d : Ctl} {b : List Int} (hc : (0 ≤ c.of ∧ c.of ≤ 255) ∧ 0 ≤ c.kind) (hd : (0 ≤ d.of ∧ d.of ≤ 255) ∧ 0 ≤ d.kind) (hb : Bytes b) : CallCon Try.prog 3 [ctlT 0 c, ctlT 1 d, .one (.sl 2 0 b.length)] [.row (rowsV c.sh.rows) 5 101 false, .row (rowsV d.sh.rows) 5 101 false, .row (ints .u8 b) 1 5 false] (.t (.one (.v (.bool true)))) [] := by
  have g1 := great_con c
  have g2 := great_con d
  by_cases hg : (40 < c.sh.rows.length ∨ 40 < d.sh.rows.length) ∨ 1000 < b.length
  · skip
    refine con_of_call2 rfl ?_
    refine call_inline Try.func3 rfl rfl ?_
    intro _
    repeat' (first | (refine is_split ?_; (first | refine sp_yes (by exact dec_t (by omega)) ?_ | refine sp_dec (fun g => ?_) (fun g => ?_)) <;> (intro u; clear u)) | (refine is_call ?_; (first | refine call_auto (wakes19_con) (lets_rfl rfl) (by exact trivial) rfl ?_ | refine call_auto (g1) (lets_rfl rfl) (by exact ⟨⟨_, rfl, rfl, rfl⟩, trivial⟩) rfl ?_ | refine call_auto (g2) (lets_rfl rfl) (by exact ⟨⟨_, rfl, rfl, rfl⟩, trivial⟩) rfl ?_); intro u; clear u))
    all_goals (first | ((refine con_end ?_ rfl; intro u; clear u; refine ⟨rfl, rfl, EntGoal.mk ?_ ?_⟩ <;> (repeat' (first | exact trivial | (with_reducible rfl) | apply And.intro | rfl))); done))
  have l1 : c.sh.rows.length ≤ 40 := by omega
  have l2 : d.sh.rows.length ≤ 40 := by omega
  have l3 : b.length ≤ 1000 := by omega
  have lx := tcC_le hb
  have g1 := con_no g1 (by omega)
  have g2 := con_no g2 (by omega)
  have c1 := cput_con hc.1 hc.2 (by omega)
  have c2 := crefput_con hc.1 hc.2 (by omega)
  have c3 := con_yes (samebytes_con (cp_byte c) (cp_byte c)) rfl
  have d1 := ctake_con hb (by omega)
  have d2 := rctake_con hb (by omega)
  have d3 := con_yes (refsame_con (c := tcC b) (d := tcC b) (by omega) (by omega)) rfl
  have a1 := ctlack_con hc.1 hc.2 (by omega)
  have a2 := refctlack_con hc.1 hc.2 (by omega)
  have a3 := con_yes (refsamenn_con (c := ackC c) (d := ackC c) (by rw [ackC_nil]; rfl) (by rw [ackC_nil]; rfl)) rfl
  have e1 := ctlright_con hc.1 hc.2 (by omega)
  have e2 := refctlright_con hc.1 (by omega)
  have f1 := answers_con (a := c) (c := d) (by omega) hd.1 hd.2 (by omega)
  have f2 := refanswers_con (a := c) (c := d) (by omega) hd.1 hd.2 (by omega)
  have s1 := same_con (c := c) (d := d) (by omega) (by omega)
  have s2 := refsame_con (c := c) (d := d) (by omega) (by omega)
  have o1 := own_con (c := c) (by omega)
  have o2 := con_yes (refsame_con (c := c) (d := c) (by omega) (by omega)) rfl
  refine con_of_call2 rfl ?_
  refine call_inline Try.func3 rfl rfl ?_
  intro _
  repeat' (first | (refine is_split ?_; (first | (refine sp_yes (beq_self_eq_true _) ?_) | (refine sp_no (by rw [beq_self_eq_true]; rfl) ?_) | refine sp_no (by (first | exact dec_f (by omega) | exact ndec_f (by omega))) ?_) <;> (intro u; clear u)) | (refine is_draw ?_; refine draw_step mixed (by kernel_rfl) ?_; intro u; clear u) | (refine is_call ?_; (first | refine call_auto (g1) (lets_rfl rfl) (by exact ⟨⟨_, rfl, rfl, rfl⟩, trivial⟩) rfl ?_ | refine call_auto (g2) (lets_rfl rfl) (by exact ⟨⟨_, rfl, rfl, rfl⟩, trivial⟩) rfl ?_ | refine call_auto (c1) (lets_rfl rfl) (by exact ⟨⟨_, rfl, rfl, rfl⟩, trivial⟩) rfl ?_ | refine call_auto (c2) (lets_rfl rfl) (by exact ⟨⟨_, rfl, rfl, rfl⟩, trivial⟩) rfl ?_ | refine call_auto (c3) (lets_rfl rfl) (by exact ⟨⟨_, rfl, rfl, rfl⟩, ⟨_, rfl, rfl, rfl⟩, trivial⟩) rfl ?_ | refine call_auto (d1) (lets_rfl rfl) (by exact ⟨⟨_, rfl, rfl, rfl⟩, trivial⟩) rfl ?_ | refine call_auto (d2) (lets_rfl rfl) (by exact ⟨⟨_, rfl, rfl, rfl⟩, trivial⟩) rfl ?_ | refine call_auto (d3) (lets_rfl rfl) (by exact ⟨⟨_, rfl, rfl, rfl⟩, ⟨_, rfl, rfl, rfl⟩, trivial⟩) rfl ?_ | refine call_auto (a1) (lets_rfl rfl) (by exact ⟨⟨_, rfl, rfl, rfl⟩, trivial⟩) rfl ?_ | refine call_auto (a2) (lets_rfl rfl) (by exact ⟨⟨_, rfl, rfl, rfl⟩, trivial⟩) rfl ?_ | refine call_auto (a3) (lets_rfl rfl) (by exact trivial) rfl ?_); intro u; clear u) | (refine is_dcall ?_; (first | refine dcall_auto (wakes19_con) (lets_rfl rfl) (by exact trivial) rfl ?_ | refine dcall_auto (e1) (lets_rfl rfl) (by exact ⟨⟨_, rfl, rfl, rfl⟩, trivial⟩) rfl ?_ | refine dcall_auto (e2) (lets_rfl rfl) (by exact ⟨⟨_, rfl, rfl, rfl⟩, trivial⟩) rfl ?_ | refine dcall_auto (f1) (lets_rfl rfl) (by exact ⟨⟨_, rfl, rfl, rfl⟩, ⟨_, rfl, rfl, rfl⟩, trivial⟩) rfl ?_ | refine dcall_auto (f2) (lets_rfl rfl) (by exact ⟨⟨_, rfl, rfl, rfl⟩, ⟨_, rfl, rfl, rfl⟩, trivial⟩) rfl ?_ | refine dcall_auto (s1) (lets_rfl rfl) (by exact ⟨⟨_, rfl, rfl, rfl⟩, ⟨_, rfl, rfl, rfl⟩, trivial⟩) rfl ?_ | refine dcall_auto (s2) (lets_rfl rfl) (by exact ⟨⟨_, rfl, rfl, rfl⟩, ⟨_, rfl, rfl, rfl⟩, trivial⟩) rfl ?_ | refine dcall_auto (o1) (lets_rfl rfl) (by exact ⟨⟨_, rfl, rfl, rfl⟩, trivial⟩) rfl ?_ | refine dcall_auto (o2) (lets_rfl rfl) (by exact ⟨⟨_, rfl, rfl, rfl⟩, ⟨_, rfl, rfl, rfl⟩, trivial⟩) rfl ?_); intro u; clear u))
  all_goals (first | ((refine con_end ?_ rfl; intro u; clear u; refine ⟨rfl, rfl, EntGoal.mk ?_ ?_⟩ <;> (repeat' (first | exact trivial | (with_reducible rfl) | apply And.intro | rfl))); done))
end Go.Proofs.S19
