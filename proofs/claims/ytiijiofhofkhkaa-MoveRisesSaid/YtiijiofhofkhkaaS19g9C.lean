/- Contracts of functions of the program, or a row of the seat, proved out of them. No condition beyond those that stand in each statement. -/
import Derived.Test.YtiijiofhofkhkaaS19g9B
namespace Go.Proofs.S19
open Go Go.SE
set_option maxRecDepth 100000
set_option maxHeartbeats 4000000
attribute [local irreducible] specI

def okCtl (c : Ctl) : Prop :=
  (((c.kind = 1 ∨ c.kind = 2 ∨ c.kind = 3 ∨ c.kind = 4) ∧ (0 ≤ c.agent ∧ c.agent ≤ 5) ∧ (0 ≤ c.bkt ∧ c.bkt ≤ 15) ∧ (0 ≤ c.gen ∧ c.gen ≤ 2147483647) ∧ c.ver = 0 ∧ (c.kind = 4 → 1 ≤ c.of ∧ c.of ≤ 3 ∧ c.peer = 0) ∧ (c.kind ≠ 4 → c.of = 0) ∧
    (c.kind = 1 → 0 ≤ c.peer ∧ c.peer ≤ 5 ∧ c.peer ≠ c.agent) ∧ (c.kind = 2 → -1 ≤ c.peer ∧ c.peer ≤ 5 ∧ c.peer ≠ c.agent) ∧ (c.kind = 3 → c.peer = 0) ∧ (c.sh.base = 0 ∧ c.sh.to = 0 ∧ c.sh.rows = [])) ∨
   ((c.kind = 5 ∨ c.kind = 6) ∧ (0 ≤ c.agent ∧ c.agent ≤ 2) ∧ c.bkt = 0 ∧ c.gen = 0 ∧ c.peer = 0 ∧ c.of = 0 ∧ (c.kind = 5 → c.ver = 0 ∧ okSh c.sh) ∧ (c.kind = 6 → (0 ≤ c.ver ∧ c.ver ≤ 1099511627776) ∧ c.sh.base = 0 ∧ c.sh.to = 0 ∧ c.sh.rows = [])))
instance (c : Ctl) : Decidable (okCtl c) := by unfold okCtl; infer_instance

theorem eqnil_con {l : List Row} (hl : l.length ≤ 1000000) : CallCon Try.prog 81 [.one (.sl 0 0 l.length), .one (.v (.slice none 0 0))] [.row (rowsV l) 5 101 false] (.t (.one (.b (l = [])))) [] := 
  con_nil [.one (.sl 0 0 l.length), .one (.v (.slice none 0 0))] [.row (rowsV l) 5 101 false] rfl (eqrows_con (r := []) hl (by decide)) (by repeat' (first | exact trivial | exact rfl | exact Or.inl rfl | apply And.intro)) rfl

theorem end_no {p : Prop} [Decidable p] {x : X} {m : M} (hp : ¬ p) (h : ConEnd2 (.t (.one (.b false))) [] x m) : ConEnd2 (.t (.one (.b (decide p)))) [] x m := by rw [decide_eq_false hp]; exact h
theorem end_yes {p : Prop} [Decidable p] {x : X} {m : M} (hp : p) (h : ConEnd2 (.t (.one (.b true))) [] x m) : ConEnd2 (.t (.one (.b (decide p)))) [] x m := by rw [decide_eq_true hp]; exact h

theorem ok1_yes {of agent bkt gen peer ver base to : Int} {rows : List Row} (hr : rows = []) : okCtl ⟨1, of, agent, bkt, gen, peer, ver, ⟨base, to, rows⟩⟩ ↔ ((0 ≤ agent ∧ agent ≤ 5) ∧ (0 ≤ bkt ∧ bkt ≤ 15) ∧ (0 ≤ gen ∧ gen ≤ 2147483647) ∧ ver = 0 ∧ base = 0 ∧ to = 0 ∧ of = 0 ∧ 0 ≤ peer ∧ peer ≤ 5 ∧ peer ≠ agent) := by
  constructor
  · intro h; simp [okCtl, hr] at h; omega
  · intro h; simp [okCtl, hr]; omega
theorem ok1_no {of agent bkt gen peer ver base to : Int} {rows : List Row} (hr : ¬ rows = []) : ¬ okCtl ⟨1, of, agent, bkt, gen, peer, ver, ⟨base, to, rows⟩⟩ := by
  intro h; simp [okCtl, hr] at h
theorem ok2_yes {of agent bkt gen peer ver base to : Int} {rows : List Row} (hr : rows = []) : okCtl ⟨2, of, agent, bkt, gen, peer, ver, ⟨base, to, rows⟩⟩ ↔ ((0 ≤ agent ∧ agent ≤ 5) ∧ (0 ≤ bkt ∧ bkt ≤ 15) ∧ (0 ≤ gen ∧ gen ≤ 2147483647) ∧ ver = 0 ∧ base = 0 ∧ to = 0 ∧ of = 0 ∧ -1 ≤ peer ∧ peer ≤ 5 ∧ peer ≠ agent) := by
  constructor
  · intro h; simp [okCtl, hr] at h; omega
  · intro h; simp [okCtl, hr]; omega
theorem ok2_no {of agent bkt gen peer ver base to : Int} {rows : List Row} (hr : ¬ rows = []) : ¬ okCtl ⟨2, of, agent, bkt, gen, peer, ver, ⟨base, to, rows⟩⟩ := by
  intro h; simp [okCtl, hr] at h
theorem ok3_yes {of agent bkt gen peer ver base to : Int} {rows : List Row} (hr : rows = []) : okCtl ⟨3, of, agent, bkt, gen, peer, ver, ⟨base, to, rows⟩⟩ ↔ ((0 ≤ agent ∧ agent ≤ 5) ∧ (0 ≤ bkt ∧ bkt ≤ 15) ∧ (0 ≤ gen ∧ gen ≤ 2147483647) ∧ ver = 0 ∧ base = 0 ∧ to = 0 ∧ of = 0 ∧ peer = 0) := by
  constructor
  · intro h; simp [okCtl, hr] at h; omega
  · intro h; simp [okCtl, hr]; omega
theorem ok3_no {of agent bkt gen peer ver base to : Int} {rows : List Row} (hr : ¬ rows = []) : ¬ okCtl ⟨3, of, agent, bkt, gen, peer, ver, ⟨base, to, rows⟩⟩ := by
  intro h; simp [okCtl, hr] at h
theorem ok4_yes {of agent bkt gen peer ver base to : Int} {rows : List Row} (hr : rows = []) : okCtl ⟨4, of, agent, bkt, gen, peer, ver, ⟨base, to, rows⟩⟩ ↔ ((0 ≤ agent ∧ agent ≤ 5) ∧ (0 ≤ bkt ∧ bkt ≤ 15) ∧ (0 ≤ gen ∧ gen ≤ 2147483647) ∧ ver = 0 ∧ base = 0 ∧ to = 0 ∧ peer = 0 ∧ 1 ≤ of ∧ of ≤ 3) := by
  constructor
  · intro h; simp [okCtl, hr] at h; omega
  · intro h; simp [okCtl, hr]; omega
theorem ok4_no {of agent bkt gen peer ver base to : Int} {rows : List Row} (hr : ¬ rows = []) : ¬ okCtl ⟨4, of, agent, bkt, gen, peer, ver, ⟨base, to, rows⟩⟩ := by
  intro h; simp [okCtl, hr] at h
theorem ok5_yes {of agent bkt gen peer ver base to : Int} {rows : List Row} (hr : okSh ⟨base, to, rows⟩) : okCtl ⟨5, of, agent, bkt, gen, peer, ver, ⟨base, to, rows⟩⟩ ↔ ((0 ≤ agent ∧ agent ≤ 2) ∧ bkt = 0 ∧ gen = 0 ∧ peer = 0 ∧ of = 0 ∧ ver = 0) := by
  constructor
  · intro h; simp [okCtl, hr] at h; omega
  · intro h; simp [okCtl, hr]; omega
theorem ok5_no {of agent bkt gen peer ver base to : Int} {rows : List Row} (hr : ¬ okSh ⟨base, to, rows⟩) : ¬ okCtl ⟨5, of, agent, bkt, gen, peer, ver, ⟨base, to, rows⟩⟩ := by
  intro h; simp [okCtl, hr] at h
theorem ok6_yes {of agent bkt gen peer ver base to : Int} {rows : List Row} (hr : rows = []) : okCtl ⟨6, of, agent, bkt, gen, peer, ver, ⟨base, to, rows⟩⟩ ↔ ((0 ≤ agent ∧ agent ≤ 2) ∧ bkt = 0 ∧ gen = 0 ∧ peer = 0 ∧ of = 0 ∧ (0 ≤ ver ∧ ver ≤ 1099511627776) ∧ base = 0 ∧ to = 0) := by
  constructor
  · intro h; simp [okCtl, hr] at h; omega
  · intro h; simp [okCtl, hr]; omega
theorem ok6_no {of agent bkt gen peer ver base to : Int} {rows : List Row} (hr : ¬ rows = []) : ¬ okCtl ⟨6, of, agent, bkt, gen, peer, ver, ⟨base, to, rows⟩⟩ := by
  intro h; simp [okCtl, hr] at h
theorem right1 (of agent bkt gen peer ver base to : Int) (ho : 0 ≤ of ∧ of ≤ 255) (rows : List Row) (hl : rows.length ≤ 1000000) : CallCon Try.prog 21 [.agg [.v (.int .u8 1), .v (.int .u8 of), .v (.int .i64 agent), .v (.int .i64 bkt), .v (.int .i64 gen), .v (.int .i64 peer), .v (.int .i64 ver), .v (.int .i64 base), .v (.int .i64 to), .sl 0 0 rows.length]] [.row (rowsV rows) 5 101 false] (.t (.one (.b (okCtl ⟨1, of, agent, bkt, gen, peer, ver, ⟨base, to, rows⟩⟩)))) [] := by
  have hE := eqnil_con hl
  have hS := shright_con ⟨base, to, rows⟩ hl
  by_cases hr : rows = []
  · have hE := con_yes hE hr
    have hk := ok1_yes (of := of) (agent := agent) (bkt := bkt) (gen := gen) (peer := peer) (ver := ver) (base := base) (to := to) hr
    refine con_of_call2 rfl ?_
    refine call_inline Try.func21 rfl rfl ?_
    intro _
    repeat' (first | (refine is_dcall ?_; refine dcall_ptrs parts_con ?_; intro u; clear u) | (refine is_asked ?_; refine asked () ⟨by decide, by decide⟩ ?_; intro u; clear u) | (refine is_split ?_; (first | refine sp_yes (by rfl) ?_ | refine sp_no (by rfl) ?_ | refine sp_dec (fun g => ?_) (fun g => ?_)) <;> (intro u; clear u)) | (refine is_asked ?_; (first | (refine is_wrap ?_; refine asked _ (wrap_lohi (by simp only [lo, hi]; omega) (by simp only [lo, hi]; omega)) ?_) | (refine asked (some 1, _) ⟨⟨rfl, by omega, by omega⟩, rfl⟩ ?_)); intro u; clear u) | (refine is_loop ?_; refine loop_step ?_; intro u; clear u) | (refine is_yield ?_; refine yield_step rfl rfl rfl rfl ?_; intro u; clear u) | (refine is_draw ?_; refine draw_step mixed (by kernel_rfl) ?_; intro u; clear u) | (refine is_range ?_; refine range_step rfl rfl ?_; intro u; clear u) | (refine is_call ?_; (first | refine call_auto (hE) (lets_rfl rfl) (by exact ⟨⟨_, rfl, rfl, rfl⟩, trivial⟩) rfl ?_ | refine call_inline Try.func25 rfl rfl ?_ | refine call_inline Try.func55 rfl rfl ?_ | refine call_inline Try.func40 rfl rfl ?_ | refine call_inline Try.func73 rfl rfl ?_ | refine call_inline Try.func90 rfl rfl ?_); intro u; clear u))
    all_goals (first | (refine end_no ?_ ?_; (focus (rw [hk]; omega)); (refine con_end ?_ rfl; intro u; clear u; refine ⟨rfl, rfl, EntGoal.mk ?_ ?_⟩ <;> (repeat' (first | exact trivial | (with_reducible rfl) | apply And.intro | rfl))); done) | (refine end_yes ?_ ?_; (focus (rw [hk]; omega)); (refine con_end ?_ rfl; intro u; clear u; refine ⟨rfl, rfl, EntGoal.mk ?_ ?_⟩ <;> (repeat' (first | exact trivial | (with_reducible rfl) | apply And.intro | rfl))); done))
  · have hE := con_no hE hr
    have hk := ok1_no (of := of) (agent := agent) (bkt := bkt) (gen := gen) (peer := peer) (ver := ver) (base := base) (to := to) hr
    refine con_of_call2 rfl ?_
    refine call_inline Try.func21 rfl rfl ?_
    intro _
    repeat' (first | (refine is_dcall ?_; refine dcall_ptrs parts_con ?_; intro u; clear u) | (refine is_asked ?_; refine asked () ⟨by decide, by decide⟩ ?_; intro u; clear u) | (refine is_split ?_; (first | refine sp_yes (by rfl) ?_ | refine sp_no (by rfl) ?_ | refine sp_dec (fun g => ?_) (fun g => ?_)) <;> (intro u; clear u)) | (refine is_asked ?_; (first | (refine is_wrap ?_; refine asked _ (wrap_lohi (by simp only [lo, hi]; omega) (by simp only [lo, hi]; omega)) ?_) | (refine asked (some 1, _) ⟨⟨rfl, by omega, by omega⟩, rfl⟩ ?_)); intro u; clear u) | (refine is_loop ?_; refine loop_step ?_; intro u; clear u) | (refine is_yield ?_; refine yield_step rfl rfl rfl rfl ?_; intro u; clear u) | (refine is_draw ?_; refine draw_step mixed (by kernel_rfl) ?_; intro u; clear u) | (refine is_range ?_; refine range_step rfl rfl ?_; intro u; clear u) | (refine is_call ?_; (first | refine call_auto (hE) (lets_rfl rfl) (by exact ⟨⟨_, rfl, rfl, rfl⟩, trivial⟩) rfl ?_ | refine call_inline Try.func25 rfl rfl ?_ | refine call_inline Try.func55 rfl rfl ?_ | refine call_inline Try.func40 rfl rfl ?_ | refine call_inline Try.func73 rfl rfl ?_ | refine call_inline Try.func90 rfl rfl ?_); intro u; clear u))
    all_goals (first | (refine end_no hk ?_; (refine con_end ?_ rfl; intro u; clear u; refine ⟨rfl, rfl, EntGoal.mk ?_ ?_⟩ <;> (repeat' (first | exact trivial | (with_reducible rfl) | apply And.intro | rfl))); done))
theorem right2 (of agent bkt gen peer ver base to : Int) (ho : 0 ≤ of ∧ of ≤ 255) (rows : List Row) (hl : rows.length ≤ 1000000) : CallCon Try.prog 21 [.agg [.v (.int .u8 2), .v (.int .u8 of), .v (.int .i64 agent), .v (.int .i64 bkt), .v (.int .i64 gen), .v (.int .i64 peer), .v (.int .i64 ver), .v (.int .i64 base), .v (.int .i64 to), .sl 0 0 rows.length]] [.row (rowsV rows) 5 101 false] (.t (.one (.b (okCtl ⟨2, of, agent, bkt, gen, peer, ver, ⟨base, to, rows⟩⟩)))) [] := by
  have hE := eqnil_con hl
  have hS := shright_con ⟨base, to, rows⟩ hl
  by_cases hr : rows = []
  · have hE := con_yes hE hr
    have hk := ok2_yes (of := of) (agent := agent) (bkt := bkt) (gen := gen) (peer := peer) (ver := ver) (base := base) (to := to) hr
    refine con_of_call2 rfl ?_
    refine call_inline Try.func21 rfl rfl ?_
    intro _
    repeat' (first | (refine is_dcall ?_; refine dcall_ptrs parts_con ?_; intro u; clear u) | (refine is_asked ?_; refine asked () ⟨by decide, by decide⟩ ?_; intro u; clear u) | (refine is_split ?_; (first | refine sp_yes (by rfl) ?_ | refine sp_no (by rfl) ?_ | refine sp_dec (fun g => ?_) (fun g => ?_)) <;> (intro u; clear u)) | (refine is_asked ?_; (first | (refine is_wrap ?_; refine asked _ (wrap_lohi (by simp only [lo, hi]; omega) (by simp only [lo, hi]; omega)) ?_) | (refine asked (some 2, _) ⟨⟨rfl, by omega, by omega⟩, rfl⟩ ?_)); intro u; clear u) | (refine is_loop ?_; refine loop_step ?_; intro u; clear u) | (refine is_yield ?_; refine yield_step rfl rfl rfl rfl ?_; intro u; clear u) | (refine is_draw ?_; refine draw_step mixed (by kernel_rfl) ?_; intro u; clear u) | (refine is_range ?_; refine range_step rfl rfl ?_; intro u; clear u) | (refine is_call ?_; (first | refine call_auto (hE) (lets_rfl rfl) (by exact ⟨⟨_, rfl, rfl, rfl⟩, trivial⟩) rfl ?_ | refine call_inline Try.func25 rfl rfl ?_ | refine call_inline Try.func55 rfl rfl ?_ | refine call_inline Try.func40 rfl rfl ?_ | refine call_inline Try.func73 rfl rfl ?_ | refine call_inline Try.func90 rfl rfl ?_); intro u; clear u))
    all_goals (first | (refine end_no ?_ ?_; (focus (rw [hk]; omega)); (refine con_end ?_ rfl; intro u; clear u; refine ⟨rfl, rfl, EntGoal.mk ?_ ?_⟩ <;> (repeat' (first | exact trivial | (with_reducible rfl) | apply And.intro | rfl))); done) | (refine end_yes ?_ ?_; (focus (rw [hk]; omega)); (refine con_end ?_ rfl; intro u; clear u; refine ⟨rfl, rfl, EntGoal.mk ?_ ?_⟩ <;> (repeat' (first | exact trivial | (with_reducible rfl) | apply And.intro | rfl))); done))
  · have hE := con_no hE hr
    have hk := ok2_no (of := of) (agent := agent) (bkt := bkt) (gen := gen) (peer := peer) (ver := ver) (base := base) (to := to) hr
    refine con_of_call2 rfl ?_
    refine call_inline Try.func21 rfl rfl ?_
    intro _
    repeat' (first | (refine is_dcall ?_; refine dcall_ptrs parts_con ?_; intro u; clear u) | (refine is_asked ?_; refine asked () ⟨by decide, by decide⟩ ?_; intro u; clear u) | (refine is_split ?_; (first | refine sp_yes (by rfl) ?_ | refine sp_no (by rfl) ?_ | refine sp_dec (fun g => ?_) (fun g => ?_)) <;> (intro u; clear u)) | (refine is_asked ?_; (first | (refine is_wrap ?_; refine asked _ (wrap_lohi (by simp only [lo, hi]; omega) (by simp only [lo, hi]; omega)) ?_) | (refine asked (some 2, _) ⟨⟨rfl, by omega, by omega⟩, rfl⟩ ?_)); intro u; clear u) | (refine is_loop ?_; refine loop_step ?_; intro u; clear u) | (refine is_yield ?_; refine yield_step rfl rfl rfl rfl ?_; intro u; clear u) | (refine is_draw ?_; refine draw_step mixed (by kernel_rfl) ?_; intro u; clear u) | (refine is_range ?_; refine range_step rfl rfl ?_; intro u; clear u) | (refine is_call ?_; (first | refine call_auto (hE) (lets_rfl rfl) (by exact ⟨⟨_, rfl, rfl, rfl⟩, trivial⟩) rfl ?_ | refine call_inline Try.func25 rfl rfl ?_ | refine call_inline Try.func55 rfl rfl ?_ | refine call_inline Try.func40 rfl rfl ?_ | refine call_inline Try.func73 rfl rfl ?_ | refine call_inline Try.func90 rfl rfl ?_); intro u; clear u))
    all_goals (first | (refine end_no hk ?_; (refine con_end ?_ rfl; intro u; clear u; refine ⟨rfl, rfl, EntGoal.mk ?_ ?_⟩ <;> (repeat' (first | exact trivial | (with_reducible rfl) | apply And.intro | rfl))); done))
theorem right3 (of agent bkt gen peer ver base to : Int) (ho : 0 ≤ of ∧ of ≤ 255) (rows : List Row) (hl : rows.length ≤ 1000000) : CallCon Try.prog 21 [.agg [.v (.int .u8 3), .v (.int .u8 of), .v (.int .i64 agent), .v (.int .i64 bkt), .v (.int .i64 gen), .v (.int .i64 peer), .v (.int .i64 ver), .v (.int .i64 base), .v (.int .i64 to), .sl 0 0 rows.length]] [.row (rowsV rows) 5 101 false] (.t (.one (.b (okCtl ⟨3, of, agent, bkt, gen, peer, ver, ⟨base, to, rows⟩⟩)))) [] := by
  have hE := eqnil_con hl
  have hS := shright_con ⟨base, to, rows⟩ hl
  by_cases hr : rows = []
  · have hE := con_yes hE hr
    have hk := ok3_yes (of := of) (agent := agent) (bkt := bkt) (gen := gen) (peer := peer) (ver := ver) (base := base) (to := to) hr
    refine con_of_call2 rfl ?_
    refine call_inline Try.func21 rfl rfl ?_
    intro _
    repeat' (first | (refine is_dcall ?_; refine dcall_ptrs parts_con ?_; intro u; clear u) | (refine is_split ?_; (first | refine sp_yes (by rfl) ?_ | refine sp_no (by rfl) ?_ | refine sp_dec (fun g => ?_) (fun g => ?_)) <;> (intro u; clear u)) | (refine is_asked ?_; (first | (refine is_wrap ?_; refine asked _ (wrap_lohi (by simp only [lo, hi]; omega) (by simp only [lo, hi]; omega)) ?_) | (refine asked (some 3, _) ⟨⟨rfl, by omega, by omega⟩, rfl⟩ ?_)); intro u; clear u) | (refine is_loop ?_; refine loop_step ?_; intro u; clear u) | (refine is_yield ?_; refine yield_step rfl rfl rfl rfl ?_; intro u; clear u) | (refine is_draw ?_; refine draw_step mixed (by kernel_rfl) ?_; intro u; clear u) | (refine is_range ?_; refine range_step rfl rfl ?_; intro u; clear u) | (refine is_call ?_; (first | refine call_auto (hE) (lets_rfl rfl) (by exact ⟨⟨_, rfl, rfl, rfl⟩, trivial⟩) rfl ?_ | refine call_inline Try.func25 rfl rfl ?_ | refine call_inline Try.func55 rfl rfl ?_ | refine call_inline Try.func40 rfl rfl ?_ | refine call_inline Try.func73 rfl rfl ?_ | refine call_inline Try.func90 rfl rfl ?_); intro u; clear u))
    all_goals (first | (refine end_no ?_ ?_; (focus (rw [hk]; omega)); (refine con_end ?_ rfl; intro u; clear u; refine ⟨rfl, rfl, EntGoal.mk ?_ ?_⟩ <;> (repeat' (first | exact trivial | (with_reducible rfl) | apply And.intro | rfl))); done) | (refine end_yes ?_ ?_; (focus (rw [hk]; omega)); (refine con_end ?_ rfl; intro u; clear u; refine ⟨rfl, rfl, EntGoal.mk ?_ ?_⟩ <;> (repeat' (first | exact trivial | (with_reducible rfl) | apply And.intro | rfl))); done))
  · have hE := con_no hE hr
    have hk := ok3_no (of := of) (agent := agent) (bkt := bkt) (gen := gen) (peer := peer) (ver := ver) (base := base) (to := to) hr
    refine con_of_call2 rfl ?_
    refine call_inline Try.func21 rfl rfl ?_
    intro _
    repeat' (first | (refine is_dcall ?_; refine dcall_ptrs parts_con ?_; intro u; clear u) | (refine is_split ?_; (first | refine sp_yes (by rfl) ?_ | refine sp_no (by rfl) ?_ | refine sp_dec (fun g => ?_) (fun g => ?_)) <;> (intro u; clear u)) | (refine is_asked ?_; (first | (refine is_wrap ?_; refine asked _ (wrap_lohi (by simp only [lo, hi]; omega) (by simp only [lo, hi]; omega)) ?_) | (refine asked (some 3, _) ⟨⟨rfl, by omega, by omega⟩, rfl⟩ ?_)); intro u; clear u) | (refine is_loop ?_; refine loop_step ?_; intro u; clear u) | (refine is_yield ?_; refine yield_step rfl rfl rfl rfl ?_; intro u; clear u) | (refine is_draw ?_; refine draw_step mixed (by kernel_rfl) ?_; intro u; clear u) | (refine is_range ?_; refine range_step rfl rfl ?_; intro u; clear u) | (refine is_call ?_; (first | refine call_auto (hE) (lets_rfl rfl) (by exact ⟨⟨_, rfl, rfl, rfl⟩, trivial⟩) rfl ?_ | refine call_inline Try.func25 rfl rfl ?_ | refine call_inline Try.func55 rfl rfl ?_ | refine call_inline Try.func40 rfl rfl ?_ | refine call_inline Try.func73 rfl rfl ?_ | refine call_inline Try.func90 rfl rfl ?_); intro u; clear u))
    all_goals (first | (refine end_no hk ?_; (refine con_end ?_ rfl; intro u; clear u; refine ⟨rfl, rfl, EntGoal.mk ?_ ?_⟩ <;> (repeat' (first | exact trivial | (with_reducible rfl) | apply And.intro | rfl))); done))
theorem right4 (of agent bkt gen peer ver base to : Int) (ho : 0 ≤ of ∧ of ≤ 255) (rows : List Row) (hl : rows.length ≤ 1000000) : CallCon Try.prog 21 [.agg [.v (.int .u8 4), .v (.int .u8 of), .v (.int .i64 agent), .v (.int .i64 bkt), .v (.int .i64 gen), .v (.int .i64 peer), .v (.int .i64 ver), .v (.int .i64 base), .v (.int .i64 to), .sl 0 0 rows.length]] [.row (rowsV rows) 5 101 false] (.t (.one (.b (okCtl ⟨4, of, agent, bkt, gen, peer, ver, ⟨base, to, rows⟩⟩)))) [] := by
  have hE := eqnil_con hl
  have hS := shright_con ⟨base, to, rows⟩ hl
  by_cases hr : rows = []
  · have hE := con_yes hE hr
    have hk := ok4_yes (of := of) (agent := agent) (bkt := bkt) (gen := gen) (peer := peer) (ver := ver) (base := base) (to := to) hr
    refine con_of_call2 rfl ?_
    refine call_inline Try.func21 rfl rfl ?_
    intro _
    repeat' (first | (refine is_dcall ?_; refine dcall_ptrs parts_con ?_; intro u; clear u) | (refine is_asked ?_; refine asked () ⟨by decide, by decide⟩ ?_; intro u; clear u) | (refine is_split ?_; (first | refine sp_yes (by rfl) ?_ | refine sp_no (by rfl) ?_ | refine sp_dec (fun g => ?_) (fun g => ?_)) <;> (intro u; clear u)) | (refine is_asked ?_; (first | (refine is_wrap ?_; refine asked _ (wrap_lohi (by simp only [lo, hi]; omega) (by simp only [lo, hi]; omega)) ?_) | (refine asked (some 4, _) ⟨⟨rfl, by omega, by omega⟩, rfl⟩ ?_)); intro u; clear u) | (refine is_loop ?_; refine loop_step ?_; intro u; clear u) | (refine is_yield ?_; refine yield_step rfl rfl rfl rfl ?_; intro u; clear u) | (refine is_draw ?_; refine draw_step mixed (by kernel_rfl) ?_; intro u; clear u) | (refine is_range ?_; refine range_step rfl rfl ?_; intro u; clear u) | (refine is_call ?_; (first | refine call_auto (hE) (lets_rfl rfl) (by exact ⟨⟨_, rfl, rfl, rfl⟩, trivial⟩) rfl ?_ | refine call_inline Try.func25 rfl rfl ?_ | refine call_inline Try.func55 rfl rfl ?_ | refine call_inline Try.func40 rfl rfl ?_ | refine call_inline Try.func73 rfl rfl ?_ | refine call_inline Try.func90 rfl rfl ?_); intro u; clear u))
    all_goals (first | (refine end_no ?_ ?_; (focus (rw [hk]; omega)); (refine con_end ?_ rfl; intro u; clear u; refine ⟨rfl, rfl, EntGoal.mk ?_ ?_⟩ <;> (repeat' (first | exact trivial | (with_reducible rfl) | apply And.intro | rfl))); done) | (refine end_yes ?_ ?_; (focus (rw [hk]; omega)); (refine con_end ?_ rfl; intro u; clear u; refine ⟨rfl, rfl, EntGoal.mk ?_ ?_⟩ <;> (repeat' (first | exact trivial | (with_reducible rfl) | apply And.intro | rfl))); done))
  · have hE := con_no hE hr
    have hk := ok4_no (of := of) (agent := agent) (bkt := bkt) (gen := gen) (peer := peer) (ver := ver) (base := base) (to := to) hr
    refine con_of_call2 rfl ?_
    refine call_inline Try.func21 rfl rfl ?_
    intro _
    repeat' (first | (refine is_dcall ?_; refine dcall_ptrs parts_con ?_; intro u; clear u) | (refine is_asked ?_; refine asked () ⟨by decide, by decide⟩ ?_; intro u; clear u) | (refine is_split ?_; (first | refine sp_yes (by rfl) ?_ | refine sp_no (by rfl) ?_ | refine sp_dec (fun g => ?_) (fun g => ?_)) <;> (intro u; clear u)) | (refine is_asked ?_; (first | (refine is_wrap ?_; refine asked _ (wrap_lohi (by simp only [lo, hi]; omega) (by simp only [lo, hi]; omega)) ?_) | (refine asked (some 4, _) ⟨⟨rfl, by omega, by omega⟩, rfl⟩ ?_)); intro u; clear u) | (refine is_loop ?_; refine loop_step ?_; intro u; clear u) | (refine is_yield ?_; refine yield_step rfl rfl rfl rfl ?_; intro u; clear u) | (refine is_draw ?_; refine draw_step mixed (by kernel_rfl) ?_; intro u; clear u) | (refine is_range ?_; refine range_step rfl rfl ?_; intro u; clear u) | (refine is_call ?_; (first | refine call_auto (hE) (lets_rfl rfl) (by exact ⟨⟨_, rfl, rfl, rfl⟩, trivial⟩) rfl ?_ | refine call_inline Try.func25 rfl rfl ?_ | refine call_inline Try.func55 rfl rfl ?_ | refine call_inline Try.func40 rfl rfl ?_ | refine call_inline Try.func73 rfl rfl ?_ | refine call_inline Try.func90 rfl rfl ?_); intro u; clear u))
    all_goals (first | (refine end_no hk ?_; (refine con_end ?_ rfl; intro u; clear u; refine ⟨rfl, rfl, EntGoal.mk ?_ ?_⟩ <;> (repeat' (first | exact trivial | (with_reducible rfl) | apply And.intro | rfl))); done))
theorem right5 (of agent bkt gen peer ver base to : Int) (ho : 0 ≤ of ∧ of ≤ 255) (rows : List Row) (hl : rows.length ≤ 1000000) : CallCon Try.prog 21 [.agg [.v (.int .u8 5), .v (.int .u8 of), .v (.int .i64 agent), .v (.int .i64 bkt), .v (.int .i64 gen), .v (.int .i64 peer), .v (.int .i64 ver), .v (.int .i64 base), .v (.int .i64 to), .sl 0 0 rows.length]] [.row (rowsV rows) 5 101 false] (.t (.one (.b (okCtl ⟨5, of, agent, bkt, gen, peer, ver, ⟨base, to, rows⟩⟩)))) [] := by
  have hE := eqnil_con hl
  have hS := shright_con ⟨base, to, rows⟩ hl
  by_cases hr : okSh ⟨base, to, rows⟩
  · have hS := con_yes hS hr
    have hk := ok5_yes (of := of) (agent := agent) (bkt := bkt) (gen := gen) (peer := peer) (ver := ver) hr
    refine con_of_call2 rfl ?_
    refine call_inline Try.func21 rfl rfl ?_
    intro _
    repeat' (first | (refine is_dcall ?_; refine dcall_ptrs parts_con ?_; intro u; clear u) | (refine is_split ?_; (first | refine sp_yes (by rfl) ?_ | refine sp_no (by rfl) ?_ | refine sp_dec (fun g => ?_) (fun g => ?_)) <;> (intro u; clear u)) | (refine is_asked ?_; (first | (refine is_wrap ?_; refine asked _ (wrap_lohi (by simp only [lo, hi]; omega) (by simp only [lo, hi]; omega)) ?_) | (refine asked (some 5, _) ⟨⟨rfl, by omega, by omega⟩, rfl⟩ ?_)); intro u; clear u) | (refine is_loop ?_; refine loop_step ?_; intro u; clear u) | (refine is_yield ?_; refine yield_step rfl rfl rfl rfl ?_; intro u; clear u) | (refine is_draw ?_; refine draw_step mixed (by kernel_rfl) ?_; intro u; clear u) | (refine is_range ?_; refine range_step rfl rfl ?_; intro u; clear u) | (refine is_call ?_; (first | refine call_auto (hS) (lets_rfl rfl) (by exact ⟨⟨_, rfl, rfl, rfl⟩, trivial⟩) rfl ?_ | refine call_inline Try.func25 rfl rfl ?_ | refine call_inline Try.func55 rfl rfl ?_ | refine call_inline Try.func81 rfl rfl ?_ | refine call_inline Try.func40 rfl rfl ?_ | refine call_inline Try.func73 rfl rfl ?_ | refine call_inline Try.func91 rfl rfl ?_); intro u; clear u))
    all_goals (first | (refine end_no ?_ ?_; (focus (rw [hk]; omega)); (refine con_end ?_ rfl; intro u; clear u; refine ⟨rfl, rfl, EntGoal.mk ?_ ?_⟩ <;> (repeat' (first | exact trivial | (with_reducible rfl) | apply And.intro | rfl))); done) | (refine end_yes ?_ ?_; (focus (rw [hk]; omega)); (refine con_end ?_ rfl; intro u; clear u; refine ⟨rfl, rfl, EntGoal.mk ?_ ?_⟩ <;> (repeat' (first | exact trivial | (with_reducible rfl) | apply And.intro | rfl))); done))
  · have hS := con_no hS hr
    have hk := ok5_no (of := of) (agent := agent) (bkt := bkt) (gen := gen) (peer := peer) (ver := ver) hr
    refine con_of_call2 rfl ?_
    refine call_inline Try.func21 rfl rfl ?_
    intro _
    repeat' (first | (refine is_dcall ?_; refine dcall_ptrs parts_con ?_; intro u; clear u) | (refine is_split ?_; (first | refine sp_yes (by rfl) ?_ | refine sp_no (by rfl) ?_ | refine sp_dec (fun g => ?_) (fun g => ?_)) <;> (intro u; clear u)) | (refine is_asked ?_; (first | (refine is_wrap ?_; refine asked _ (wrap_lohi (by simp only [lo, hi]; omega) (by simp only [lo, hi]; omega)) ?_) | (refine asked (some 5, _) ⟨⟨rfl, by omega, by omega⟩, rfl⟩ ?_)); intro u; clear u) | (refine is_loop ?_; refine loop_step ?_; intro u; clear u) | (refine is_yield ?_; refine yield_step rfl rfl rfl rfl ?_; intro u; clear u) | (refine is_draw ?_; refine draw_step mixed (by kernel_rfl) ?_; intro u; clear u) | (refine is_range ?_; refine range_step rfl rfl ?_; intro u; clear u) | (refine is_call ?_; (first | refine call_auto (hS) (lets_rfl rfl) (by exact ⟨⟨_, rfl, rfl, rfl⟩, trivial⟩) rfl ?_ | refine call_inline Try.func25 rfl rfl ?_ | refine call_inline Try.func55 rfl rfl ?_ | refine call_inline Try.func81 rfl rfl ?_ | refine call_inline Try.func40 rfl rfl ?_ | refine call_inline Try.func73 rfl rfl ?_ | refine call_inline Try.func91 rfl rfl ?_); intro u; clear u))
    all_goals (first | (refine end_no hk ?_; (refine con_end ?_ rfl; intro u; clear u; refine ⟨rfl, rfl, EntGoal.mk ?_ ?_⟩ <;> (repeat' (first | exact trivial | (with_reducible rfl) | apply And.intro | rfl))); done))
theorem right6 (of agent bkt gen peer ver base to : Int) (ho : 0 ≤ of ∧ of ≤ 255) (rows : List Row) (hl : rows.length ≤ 1000000) : CallCon Try.prog 21 [.agg [.v (.int .u8 6), .v (.int .u8 of), .v (.int .i64 agent), .v (.int .i64 bkt), .v (.int .i64 gen), .v (.int .i64 peer), .v (.int .i64 ver), .v (.int .i64 base), .v (.int .i64 to), .sl 0 0 rows.length]] [.row (rowsV rows) 5 101 false] (.t (.one (.b (okCtl ⟨6, of, agent, bkt, gen, peer, ver, ⟨base, to, rows⟩⟩)))) [] := by
  have hE := eqnil_con hl
  have hS := shright_con ⟨base, to, rows⟩ hl
  by_cases hr : rows = []
  · have hE := con_yes hE hr
    have hk := ok6_yes (of := of) (agent := agent) (bkt := bkt) (gen := gen) (peer := peer) (ver := ver) (base := base) (to := to) hr
    refine con_of_call2 rfl ?_
    refine call_inline Try.func21 rfl rfl ?_
    intro _
    repeat' (first | (refine is_dcall ?_; refine dcall_ptrs parts_con ?_; intro u; clear u) | (refine is_split ?_; (first | refine sp_yes (by rfl) ?_ | refine sp_no (by rfl) ?_ | refine sp_dec (fun g => ?_) (fun g => ?_)) <;> (intro u; clear u)) | (refine is_asked ?_; (first | (refine is_wrap ?_; refine asked _ (wrap_lohi (by simp only [lo, hi]; omega) (by simp only [lo, hi]; omega)) ?_) | (refine asked (some 6, _) ⟨⟨rfl, by omega, by omega⟩, rfl⟩ ?_)); intro u; clear u) | (refine is_loop ?_; refine loop_step ?_; intro u; clear u) | (refine is_yield ?_; refine yield_step rfl rfl rfl rfl ?_; intro u; clear u) | (refine is_draw ?_; refine draw_step mixed (by kernel_rfl) ?_; intro u; clear u) | (refine is_range ?_; refine range_step rfl rfl ?_; intro u; clear u) | (refine is_call ?_; (first | refine call_auto (hE) (lets_rfl rfl) (by exact ⟨⟨_, rfl, rfl, rfl⟩, trivial⟩) rfl ?_ | refine call_inline Try.func25 rfl rfl ?_ | refine call_inline Try.func55 rfl rfl ?_ | refine call_inline Try.func40 rfl rfl ?_ | refine call_inline Try.func73 rfl rfl ?_ | refine call_inline Try.func92 rfl rfl ?_); intro u; clear u))
    all_goals (first | (refine end_no ?_ ?_; (focus (rw [hk]; omega)); (refine con_end ?_ rfl; intro u; clear u; refine ⟨rfl, rfl, EntGoal.mk ?_ ?_⟩ <;> (repeat' (first | exact trivial | (with_reducible rfl) | apply And.intro | rfl))); done) | (refine end_yes ?_ ?_; (focus (rw [hk]; omega)); (refine con_end ?_ rfl; intro u; clear u; refine ⟨rfl, rfl, EntGoal.mk ?_ ?_⟩ <;> (repeat' (first | exact trivial | (with_reducible rfl) | apply And.intro | rfl))); done))
  · have hE := con_no hE hr
    have hk := ok6_no (of := of) (agent := agent) (bkt := bkt) (gen := gen) (peer := peer) (ver := ver) (base := base) (to := to) hr
    refine con_of_call2 rfl ?_
    refine call_inline Try.func21 rfl rfl ?_
    intro _
    repeat' (first | (refine is_dcall ?_; refine dcall_ptrs parts_con ?_; intro u; clear u) | (refine is_split ?_; (first | refine sp_yes (by rfl) ?_ | refine sp_no (by rfl) ?_ | refine sp_dec (fun g => ?_) (fun g => ?_)) <;> (intro u; clear u)) | (refine is_asked ?_; (first | (refine is_wrap ?_; refine asked _ (wrap_lohi (by simp only [lo, hi]; omega) (by simp only [lo, hi]; omega)) ?_) | (refine asked (some 6, _) ⟨⟨rfl, by omega, by omega⟩, rfl⟩ ?_)); intro u; clear u) | (refine is_loop ?_; refine loop_step ?_; intro u; clear u) | (refine is_yield ?_; refine yield_step rfl rfl rfl rfl ?_; intro u; clear u) | (refine is_draw ?_; refine draw_step mixed (by kernel_rfl) ?_; intro u; clear u) | (refine is_range ?_; refine range_step rfl rfl ?_; intro u; clear u) | (refine is_call ?_; (first | refine call_auto (hE) (lets_rfl rfl) (by exact ⟨⟨_, rfl, rfl, rfl⟩, trivial⟩) rfl ?_ | refine call_inline Try.func25 rfl rfl ?_ | refine call_inline Try.func55 rfl rfl ?_ | refine call_inline Try.func40 rfl rfl ?_ | refine call_inline Try.func73 rfl rfl ?_ | refine call_inline Try.func92 rfl rfl ?_); intro u; clear u))
    all_goals (first | (refine end_no hk ?_; (refine con_end ?_ rfl; intro u; clear u; refine ⟨rfl, rfl, EntGoal.mk ?_ ?_⟩ <;> (repeat' (first | exact trivial | (with_reducible rfl) | apply And.intro | rfl))); done))
end Go.Proofs.S19
