/- Contracts of functions of the program, or a row of the seat, proved out of them. No condition beyond those that stand in each statement. -/
import Derived.Test.YtiijiofhofkhkaaS19g9D
import Derived.Test.YtiijiofhofkhkaaS19gQ
import Derived.Test.YtiijiofhofkhkaaS19gK
namespace Go.Proofs.S19
open Go Go.SE
set_option maxRecDepth 100000
set_option maxHeartbeats 4000000
attribute [local irreducible] specI

def ctlB (c : Ctl) : List Int :=
  c.kind :: (be1 c.agent ++ (if c.kind = 5 then putSh c.sh else if c.kind = 6 then be6 c.ver else be1 c.bkt ++ (be4 c.gen ++ (if c.kind = 4 then be1 c.of else if c.kind = 3 then [] else be1 (c.peer + 1)))))
def cpL (c : Ctl) : List Int := if okCtl c then ctlB c else []
def cpE (c : Ctl) : Int := if okCtl c then 0 else 2
theorem cpL_yes {c : Ctl} (h : okCtl c) : cpL c = ctlB c := if_pos h
theorem cpE_yes {c : Ctl} (h : okCtl c) : cpE c = 0 := if_pos h
theorem cpL_no {c : Ctl} (h : ¬ okCtl c) : cpL c = [] := if_neg h
theorem cpE_no {c : Ctl} (h : ¬ okCtl c) : cpE c = 2 := if_neg h
theorem putSh_lenb {s : Sh} (h : s.rows.length ≤ 1000000) : (putSh s).length ≤ 13000013 := by
  unfold putSh
  split
  · show (putK s s.rows.length).length ≤ _; rw [putK_len]; omega
  · decide
theorem app5 {x : Int} {S : List Int} (h : S.length ≤ 13000013) : List.take (1 * (0 + 1)) [Value.int .u8 5] ++ [Value.int .u8 x] ++ List.take (S.length * (0 + 1)) (List.drop (0 * (0 + 1)) (ints .u8 S)) = ints .u8 (5 :: x :: S) ∧ (List.take (1 * (0 + 1)) [Value.int .u8 5] ++ [Value.int .u8 x]).length = (1 + 1) * (0 + 1) ∧ (List.take (S.length * (0 + 1)) (List.drop (0 * (0 + 1)) (ints .u8 S))).length = S.length * (0 + 1) ∧ 1 + 1 + S.length ≤ maxLen ∧ (1 + 1 + S.length) * (0 + 1) ≤ 140737488355328 := by
  have e : List.take (S.length * (0 + 1)) (List.drop (0 * (0 + 1)) (ints .u8 S)) = ints .u8 S := by
    rw [Nat.zero_mul, List.drop_zero, List.take_of_length_le (by rw [ints_length]; omega)]
  rw [e, ints_length]
  exact ⟨rfl, rfl, by omega, by unfold maxLen; omega, by omega⟩

theorem put1 (of agent bkt gen peer ver base to : Int) (ho : 0 ≤ of ∧ of ≤ 255) (rows : List Row) (hl : rows.length ≤ 1000000) : CallCon Try.prog 13 [.agg [.v (.int .u8 1), .v (.int .u8 of), .v (.int .i64 agent), .v (.int .i64 bkt), .v (.int .i64 gen), .v (.int .i64 peer), .v (.int .i64 ver), .v (.int .i64 base), .v (.int .i64 to), .sl 0 0 rows.length]] [.row (rowsV rows) 5 101 false] (.tup [.one (.sl 0 0 (cpL ⟨1, of, agent, bkt, gen, peer, ver, ⟨base, to, rows⟩⟩).length), .one (.v (.int .i64 (cpE ⟨1, of, agent, bkt, gen, peer, ver, ⟨base, to, rows⟩⟩)))]) [.row (ints .u8 (cpL ⟨1, of, agent, bkt, gen, peer, ver, ⟨base, to, rows⟩⟩)) 1 5 true] := by
  have hR := right1 of agent bkt gen peer ver base to ho rows hl
  by_cases hc : okCtl ⟨1, of, agent, bkt, gen, peer, ver, ⟨base, to, rows⟩⟩
  · have hR := con_yes hR hc
    have hr : rows = [] := Decidable.byContradiction fun h => ok1_no (of := of) (agent := agent) (bkt := bkt) (gen := gen) (peer := peer) (ver := ver) (base := base) (to := to) h hc
    have hk := (ok1_yes (of := of) (agent := agent) (bkt := bkt) (gen := gen) (peer := peer) (ver := ver) (base := base) (to := to) hr).1 hc
    rw [cpL_yes hc, cpE_yes hc]
    rw [show ctlB ⟨1, of, agent, bkt, gen, peer, ver, ⟨base, to, rows⟩⟩ = 1 :: (be1 agent ++ (be1 bkt ++ (be4 gen ++ be1 (peer + 1)))) from rfl]
    refine con_of_call2 rfl ?_
    refine call_inline Try.func13 rfl rfl ?_
    intro _
    repeat' (first | (refine is_dcall ?_; refine dcall_ptrs parts_con ?_; intro u; clear u) | (refine is_asked ?_; refine asked () ⟨by decide, by decide⟩ ?_; intro u; clear u) | (refine is_asked ?_; refine is_wrap (k := .u8) ?_; refine asked _ (wrap_u8' _) ?_; intro u; clear u) | (refine is_split ?_; refine sp_no (by rfl) ?_ <;> (intro u; clear u)) | (refine is_asked ?_; (first | (refine is_spec ?_; (first | (with_reducible refine asked _ (sp_add (by simp only [lo, hi]; omega) (by simp only [lo, hi]; omega)) ?_) | (refine is_op (op := .shr) ?_; (first | refine asked _ (sp_shrL 8 256 (by decide) (by rfl) (by decide)) ?_ | refine asked _ (sp_shrL 16 65536 (by decide) (by rfl) (by decide)) ?_ | refine asked _ (sp_shrL 24 16777216 (by decide) (by rfl) (by decide)) ?_ | refine asked _ (sp_shrL 0 1 (by decide) (by rfl) (by decide)) ?_)))) | (refine is_wrap ?_; refine asked _ (wrap_lohi (by simp only [lo, hi]; omega) (by simp only [lo, hi]; omega)) ?_) | (refine asked (some 1, _) ⟨⟨rfl, by omega, by omega⟩, rfl⟩ ?_) | refine asked _ (append_ask rfl rfl (by decide) (by decide)) ?_); intro u; clear u) | (refine is_loop ?_; refine loop_step ?_; intro u; clear u) | (refine is_yield ?_; refine yield_step rfl rfl rfl rfl ?_; intro u; clear u) | (refine is_draw ?_; refine draw_step mixed (by kernel_rfl) ?_; intro u; clear u) | (refine is_range ?_; refine range_step rfl rfl ?_; intro u; clear u) | (refine is_call ?_; (first | refine call_auto (hR) (lets_rfl rfl) (by exact ⟨⟨_, rfl, rfl, rfl⟩, trivial⟩) rfl ?_ | refine call_inline Try.func40 rfl rfl ?_ | refine call_inline Try.func73 rfl rfl ?_ | refine call_inline Try.func90 rfl rfl ?_); intro u; clear u))
    all_goals (first | ((refine con_end ?_ rfl; intro u; clear u; refine ⟨rfl, rfl, EntGoal.mk ?_ ?_⟩ <;> (repeat' (first | exact trivial | (with_reducible rfl) | apply And.intro | rfl))); (all_goals first | rfl | (simp [be1, be4, be6, ints]; done) | (simp [be1, be4, be6, ints]; omega)); done))
  · have hR := con_no hR hc
    rw [cpL_no hc, cpE_no hc]
    refine con_of_call2 rfl ?_
    refine call_inline Try.func13 rfl rfl ?_
    intro _
    repeat' (refine is_call ?_; refine call_auto (hR) (lets_rfl rfl) (by exact ⟨⟨_, rfl, rfl, rfl⟩, trivial⟩) rfl ?_; intro u; clear u)
    all_goals (first | ((refine con_end ?_ rfl; intro u; clear u; refine ⟨rfl, rfl, EntGoal.mk ?_ ?_⟩ <;> (repeat' (first | exact trivial | (with_reducible rfl) | apply And.intro | rfl))); done))
theorem put2 (of agent bkt gen peer ver base to : Int) (ho : 0 ≤ of ∧ of ≤ 255) (rows : List Row) (hl : rows.length ≤ 1000000) : CallCon Try.prog 13 [.agg [.v (.int .u8 2), .v (.int .u8 of), .v (.int .i64 agent), .v (.int .i64 bkt), .v (.int .i64 gen), .v (.int .i64 peer), .v (.int .i64 ver), .v (.int .i64 base), .v (.int .i64 to), .sl 0 0 rows.length]] [.row (rowsV rows) 5 101 false] (.tup [.one (.sl 0 0 (cpL ⟨2, of, agent, bkt, gen, peer, ver, ⟨base, to, rows⟩⟩).length), .one (.v (.int .i64 (cpE ⟨2, of, agent, bkt, gen, peer, ver, ⟨base, to, rows⟩⟩)))]) [.row (ints .u8 (cpL ⟨2, of, agent, bkt, gen, peer, ver, ⟨base, to, rows⟩⟩)) 1 5 true] := by
  have hR := right2 of agent bkt gen peer ver base to ho rows hl
  by_cases hc : okCtl ⟨2, of, agent, bkt, gen, peer, ver, ⟨base, to, rows⟩⟩
  · have hR := con_yes hR hc
    have hr : rows = [] := Decidable.byContradiction fun h => ok2_no (of := of) (agent := agent) (bkt := bkt) (gen := gen) (peer := peer) (ver := ver) (base := base) (to := to) h hc
    have hk := (ok2_yes (of := of) (agent := agent) (bkt := bkt) (gen := gen) (peer := peer) (ver := ver) (base := base) (to := to) hr).1 hc
    rw [cpL_yes hc, cpE_yes hc]
    rw [show ctlB ⟨2, of, agent, bkt, gen, peer, ver, ⟨base, to, rows⟩⟩ = 2 :: (be1 agent ++ (be1 bkt ++ (be4 gen ++ be1 (peer + 1)))) from rfl]
    refine con_of_call2 rfl ?_
    refine call_inline Try.func13 rfl rfl ?_
    intro _
    repeat' (first | (refine is_dcall ?_; refine dcall_ptrs parts_con ?_; intro u; clear u) | (refine is_asked ?_; refine asked () ⟨by decide, by decide⟩ ?_; intro u; clear u) | (refine is_asked ?_; refine is_wrap (k := .u8) ?_; refine asked _ (wrap_u8' _) ?_; intro u; clear u) | (refine is_split ?_; refine sp_no (by rfl) ?_ <;> (intro u; clear u)) | (refine is_asked ?_; (first | (refine is_spec ?_; (first | (with_reducible refine asked _ (sp_add (by simp only [lo, hi]; omega) (by simp only [lo, hi]; omega)) ?_) | (refine is_op (op := .shr) ?_; (first | refine asked _ (sp_shrL 8 256 (by decide) (by rfl) (by decide)) ?_ | refine asked _ (sp_shrL 16 65536 (by decide) (by rfl) (by decide)) ?_ | refine asked _ (sp_shrL 24 16777216 (by decide) (by rfl) (by decide)) ?_ | refine asked _ (sp_shrL 0 1 (by decide) (by rfl) (by decide)) ?_)))) | (refine is_wrap ?_; refine asked _ (wrap_lohi (by simp only [lo, hi]; omega) (by simp only [lo, hi]; omega)) ?_) | (refine asked (some 2, _) ⟨⟨rfl, by omega, by omega⟩, rfl⟩ ?_) | refine asked _ (append_ask rfl rfl (by decide) (by decide)) ?_); intro u; clear u) | (refine is_loop ?_; refine loop_step ?_; intro u; clear u) | (refine is_yield ?_; refine yield_step rfl rfl rfl rfl ?_; intro u; clear u) | (refine is_draw ?_; refine draw_step mixed (by kernel_rfl) ?_; intro u; clear u) | (refine is_range ?_; refine range_step rfl rfl ?_; intro u; clear u) | (refine is_call ?_; (first | refine call_auto (hR) (lets_rfl rfl) (by exact ⟨⟨_, rfl, rfl, rfl⟩, trivial⟩) rfl ?_ | refine call_inline Try.func40 rfl rfl ?_ | refine call_inline Try.func73 rfl rfl ?_ | refine call_inline Try.func90 rfl rfl ?_); intro u; clear u))
    all_goals (first | ((refine con_end ?_ rfl; intro u; clear u; refine ⟨rfl, rfl, EntGoal.mk ?_ ?_⟩ <;> (repeat' (first | exact trivial | (with_reducible rfl) | apply And.intro | rfl))); (all_goals first | rfl | (simp [be1, be4, be6, ints]; done) | (simp [be1, be4, be6, ints]; omega)); done))
  · have hR := con_no hR hc
    rw [cpL_no hc, cpE_no hc]
    refine con_of_call2 rfl ?_
    refine call_inline Try.func13 rfl rfl ?_
    intro _
    repeat' (refine is_call ?_; refine call_auto (hR) (lets_rfl rfl) (by exact ⟨⟨_, rfl, rfl, rfl⟩, trivial⟩) rfl ?_; intro u; clear u)
    all_goals (first | ((refine con_end ?_ rfl; intro u; clear u; refine ⟨rfl, rfl, EntGoal.mk ?_ ?_⟩ <;> (repeat' (first | exact trivial | (with_reducible rfl) | apply And.intro | rfl))); done))
theorem put3 (of agent bkt gen peer ver base to : Int) (ho : 0 ≤ of ∧ of ≤ 255) (rows : List Row) (hl : rows.length ≤ 1000000) : CallCon Try.prog 13 [.agg [.v (.int .u8 3), .v (.int .u8 of), .v (.int .i64 agent), .v (.int .i64 bkt), .v (.int .i64 gen), .v (.int .i64 peer), .v (.int .i64 ver), .v (.int .i64 base), .v (.int .i64 to), .sl 0 0 rows.length]] [.row (rowsV rows) 5 101 false] (.tup [.one (.sl 0 0 (cpL ⟨3, of, agent, bkt, gen, peer, ver, ⟨base, to, rows⟩⟩).length), .one (.v (.int .i64 (cpE ⟨3, of, agent, bkt, gen, peer, ver, ⟨base, to, rows⟩⟩)))]) [.row (ints .u8 (cpL ⟨3, of, agent, bkt, gen, peer, ver, ⟨base, to, rows⟩⟩)) 1 5 true] := by
  have hR := right3 of agent bkt gen peer ver base to ho rows hl
  by_cases hc : okCtl ⟨3, of, agent, bkt, gen, peer, ver, ⟨base, to, rows⟩⟩
  · have hR := con_yes hR hc
    have hr : rows = [] := Decidable.byContradiction fun h => ok3_no (of := of) (agent := agent) (bkt := bkt) (gen := gen) (peer := peer) (ver := ver) (base := base) (to := to) h hc
    have hk := (ok3_yes (of := of) (agent := agent) (bkt := bkt) (gen := gen) (peer := peer) (ver := ver) (base := base) (to := to) hr).1 hc
    rw [cpL_yes hc, cpE_yes hc]
    rw [show ctlB ⟨3, of, agent, bkt, gen, peer, ver, ⟨base, to, rows⟩⟩ = 3 :: (be1 agent ++ (be1 bkt ++ be4 gen)) from rfl]
    refine con_of_call2 rfl ?_
    refine call_inline Try.func13 rfl rfl ?_
    intro _
    repeat' (first | (refine is_dcall ?_; refine dcall_ptrs parts_con ?_; intro u; clear u) | (refine is_asked ?_; refine is_wrap (k := .u8) ?_; refine asked _ (wrap_u8' _) ?_; intro u; clear u) | (refine is_split ?_; refine sp_no (by rfl) ?_ <;> (intro u; clear u)) | (refine is_asked ?_; (first | (refine is_spec ?_; (first | (with_reducible refine asked _ (sp_add (by simp only [lo, hi]; omega) (by simp only [lo, hi]; omega)) ?_) | (refine is_op (op := .shr) ?_; (first | refine asked _ (sp_shrL 8 256 (by decide) (by rfl) (by decide)) ?_ | refine asked _ (sp_shrL 16 65536 (by decide) (by rfl) (by decide)) ?_ | refine asked _ (sp_shrL 24 16777216 (by decide) (by rfl) (by decide)) ?_ | refine asked _ (sp_shrL 0 1 (by decide) (by rfl) (by decide)) ?_)))) | (refine is_wrap ?_; refine asked _ (wrap_lohi (by simp only [lo, hi]; omega) (by simp only [lo, hi]; omega)) ?_) | (refine asked (some 3, _) ⟨⟨rfl, by omega, by omega⟩, rfl⟩ ?_) | refine asked _ (append_ask rfl rfl (by decide) (by decide)) ?_); intro u; clear u) | (refine is_loop ?_; refine loop_step ?_; intro u; clear u) | (refine is_yield ?_; refine yield_step rfl rfl rfl rfl ?_; intro u; clear u) | (refine is_draw ?_; refine draw_step mixed (by kernel_rfl) ?_; intro u; clear u) | (refine is_range ?_; refine range_step rfl rfl ?_; intro u; clear u) | (refine is_call ?_; (first | refine call_auto (hR) (lets_rfl rfl) (by exact ⟨⟨_, rfl, rfl, rfl⟩, trivial⟩) rfl ?_ | refine call_inline Try.func40 rfl rfl ?_ | refine call_inline Try.func73 rfl rfl ?_ | refine call_inline Try.func90 rfl rfl ?_); intro u; clear u))
    all_goals (first | ((refine con_end ?_ rfl; intro u; clear u; refine ⟨rfl, rfl, EntGoal.mk ?_ ?_⟩ <;> (repeat' (first | exact trivial | (with_reducible rfl) | apply And.intro | rfl))); (all_goals first | rfl | (simp [be1, be4, be6, ints]; done) | (simp [be1, be4, be6, ints]; omega)); done))
  · have hR := con_no hR hc
    rw [cpL_no hc, cpE_no hc]
    refine con_of_call2 rfl ?_
    refine call_inline Try.func13 rfl rfl ?_
    intro _
    repeat' (refine is_call ?_; refine call_auto (hR) (lets_rfl rfl) (by exact ⟨⟨_, rfl, rfl, rfl⟩, trivial⟩) rfl ?_; intro u; clear u)
    all_goals (first | ((refine con_end ?_ rfl; intro u; clear u; refine ⟨rfl, rfl, EntGoal.mk ?_ ?_⟩ <;> (repeat' (first | exact trivial | (with_reducible rfl) | apply And.intro | rfl))); done))
theorem put4 (of agent bkt gen peer ver base to : Int) (ho : 0 ≤ of ∧ of ≤ 255) (rows : List Row) (hl : rows.length ≤ 1000000) : CallCon Try.prog 13 [.agg [.v (.int .u8 4), .v (.int .u8 of), .v (.int .i64 agent), .v (.int .i64 bkt), .v (.int .i64 gen), .v (.int .i64 peer), .v (.int .i64 ver), .v (.int .i64 base), .v (.int .i64 to), .sl 0 0 rows.length]] [.row (rowsV rows) 5 101 false] (.tup [.one (.sl 0 0 (cpL ⟨4, of, agent, bkt, gen, peer, ver, ⟨base, to, rows⟩⟩).length), .one (.v (.int .i64 (cpE ⟨4, of, agent, bkt, gen, peer, ver, ⟨base, to, rows⟩⟩)))]) [.row (ints .u8 (cpL ⟨4, of, agent, bkt, gen, peer, ver, ⟨base, to, rows⟩⟩)) 1 5 true] := by
  have hR := right4 of agent bkt gen peer ver base to ho rows hl
  by_cases hc : okCtl ⟨4, of, agent, bkt, gen, peer, ver, ⟨base, to, rows⟩⟩
  · have hR := con_yes hR hc
    have hr : rows = [] := Decidable.byContradiction fun h => ok4_no (of := of) (agent := agent) (bkt := bkt) (gen := gen) (peer := peer) (ver := ver) (base := base) (to := to) h hc
    have hk := (ok4_yes (of := of) (agent := agent) (bkt := bkt) (gen := gen) (peer := peer) (ver := ver) (base := base) (to := to) hr).1 hc
    rw [cpL_yes hc, cpE_yes hc]
    rw [show ctlB ⟨4, of, agent, bkt, gen, peer, ver, ⟨base, to, rows⟩⟩ = 4 :: (be1 agent ++ (be1 bkt ++ (be4 gen ++ be1 of))) from rfl]
    refine con_of_call2 rfl ?_
    refine call_inline Try.func13 rfl rfl ?_
    intro _
    repeat' (first | (refine is_dcall ?_; refine dcall_ptrs parts_con ?_; intro u; clear u) | (refine is_asked ?_; refine asked () ⟨by decide, by decide⟩ ?_; intro u; clear u) | (refine is_asked ?_; refine is_wrap (k := .u8) ?_; refine asked _ (wrap_u8' _) ?_; intro u; clear u) | (refine is_split ?_; refine sp_no (by rfl) ?_ <;> (intro u; clear u)) | (refine is_asked ?_; (first | (refine is_spec ?_; (first | (with_reducible refine asked _ (sp_add (by simp only [lo, hi]; omega) (by simp only [lo, hi]; omega)) ?_) | (refine is_op (op := .shr) ?_; (first | refine asked _ (sp_shrL 8 256 (by decide) (by rfl) (by decide)) ?_ | refine asked _ (sp_shrL 16 65536 (by decide) (by rfl) (by decide)) ?_ | refine asked _ (sp_shrL 24 16777216 (by decide) (by rfl) (by decide)) ?_ | refine asked _ (sp_shrL 0 1 (by decide) (by rfl) (by decide)) ?_)))) | (refine is_wrap ?_; refine asked _ (wrap_lohi (by simp only [lo, hi]; omega) (by simp only [lo, hi]; omega)) ?_) | (refine asked (some 4, _) ⟨⟨rfl, by omega, by omega⟩, rfl⟩ ?_) | refine asked _ (append_ask rfl rfl (by decide) (by decide)) ?_); intro u; clear u) | (refine is_loop ?_; refine loop_step ?_; intro u; clear u) | (refine is_yield ?_; refine yield_step rfl rfl rfl rfl ?_; intro u; clear u) | (refine is_draw ?_; refine draw_step mixed (by kernel_rfl) ?_; intro u; clear u) | (refine is_range ?_; refine range_step rfl rfl ?_; intro u; clear u) | (refine is_call ?_; (first | refine call_auto (hR) (lets_rfl rfl) (by exact ⟨⟨_, rfl, rfl, rfl⟩, trivial⟩) rfl ?_ | refine call_inline Try.func40 rfl rfl ?_ | refine call_inline Try.func73 rfl rfl ?_ | refine call_inline Try.func90 rfl rfl ?_); intro u; clear u))
    all_goals (first | ((refine con_end ?_ rfl; intro u; clear u; refine ⟨rfl, rfl, EntGoal.mk ?_ ?_⟩ <;> (repeat' (first | exact trivial | (with_reducible rfl) | apply And.intro | rfl))); (all_goals first | rfl | (simp [be1, be4, be6, ints]; done) | (simp [be1, be4, be6, ints]; omega)); done))
  · have hR := con_no hR hc
    rw [cpL_no hc, cpE_no hc]
    refine con_of_call2 rfl ?_
    refine call_inline Try.func13 rfl rfl ?_
    intro _
    repeat' (refine is_call ?_; refine call_auto (hR) (lets_rfl rfl) (by exact ⟨⟨_, rfl, rfl, rfl⟩, trivial⟩) rfl ?_; intro u; clear u)
    all_goals (first | ((refine con_end ?_ rfl; intro u; clear u; refine ⟨rfl, rfl, EntGoal.mk ?_ ?_⟩ <;> (repeat' (first | exact trivial | (with_reducible rfl) | apply And.intro | rfl))); done))
theorem put5 (of agent bkt gen peer ver base to : Int) (ho : 0 ≤ of ∧ of ≤ 255) (rows : List Row) (hl : rows.length ≤ 1000000) : CallCon Try.prog 13 [.agg [.v (.int .u8 5), .v (.int .u8 of), .v (.int .i64 agent), .v (.int .i64 bkt), .v (.int .i64 gen), .v (.int .i64 peer), .v (.int .i64 ver), .v (.int .i64 base), .v (.int .i64 to), .sl 0 0 rows.length]] [.row (rowsV rows) 5 101 false] (.tup [.one (.sl 0 0 (cpL ⟨5, of, agent, bkt, gen, peer, ver, ⟨base, to, rows⟩⟩).length), .one (.v (.int .i64 (cpE ⟨5, of, agent, bkt, gen, peer, ver, ⟨base, to, rows⟩⟩)))]) [.row (ints .u8 (cpL ⟨5, of, agent, bkt, gen, peer, ver, ⟨base, to, rows⟩⟩)) 1 5 true] := by
  have hR := right5 of agent bkt gen peer ver base to ho rows hl
  by_cases hc : okCtl ⟨5, of, agent, bkt, gen, peer, ver, ⟨base, to, rows⟩⟩
  · have hR := con_yes hR hc
    have hr : okSh ⟨base, to, rows⟩ := Decidable.byContradiction fun h => ok5_no (of := of) (agent := agent) (bkt := bkt) (gen := gen) (peer := peer) (ver := ver) (base := base) (to := to) h hc
    have hk := (ok5_yes (of := of) (agent := agent) (bkt := bkt) (gen := gen) (peer := peer) (ver := ver) (base := base) (to := to) hr).1 hc
    rw [cpL_yes hc, cpE_yes hc]
    rw [show ctlB ⟨5, of, agent, bkt, gen, peer, ver, ⟨base, to, rows⟩⟩ = 5 :: (be1 agent ++ putSh ⟨base, to, rows⟩) from rfl]
    have hP := put_con ⟨base, to, rows⟩ hl
    refine con_of_call2 rfl ?_
    refine call_inline Try.func13 rfl rfl ?_
    intro _
    repeat' (first | (refine is_dcall ?_; refine dcall_ptrs parts_con ?_; intro u; clear u) | (refine is_asked ?_; refine is_wrap (k := .u8) ?_; refine asked _ (wrap_u8' _) ?_; intro u; clear u) | (refine is_split ?_; refine sp_yes (by rfl) ?_ <;> (intro u; clear u)) | (refine is_asked ?_; (first | (refine is_spec ?_; (first | (with_reducible refine asked _ (sp_add (by simp only [lo, hi]; omega) (by simp only [lo, hi]; omega)) ?_) | (refine is_op (op := .shr) ?_; refine asked _ (sp_shrL 0 1 (by decide) (by rfl) (by decide)) ?_))) | (refine is_wrap ?_; refine asked _ (wrap_lohi (by simp only [lo, hi]; omega) (by simp only [lo, hi]; omega)) ?_) | (refine asked (some 5, _) ⟨⟨rfl, by omega, by omega⟩, rfl⟩ ?_) | (refine asked _ (app5 (putSh_lenb (s := ⟨base, to, rows⟩) hl)) ?_) | refine asked _ (append_ask rfl rfl (by decide) (by decide)) ?_); intro u; clear u) | (refine is_loop ?_; refine loop_step ?_; intro u; clear u) | (refine is_yield ?_; refine yield_step rfl rfl rfl rfl ?_; intro u; clear u) | (refine is_draw ?_; refine draw_step mixed (by kernel_rfl) ?_; intro u; clear u) | (refine is_range ?_; refine range_step rfl rfl ?_; intro u; clear u) | (refine is_call ?_; (first | refine call_auto (hR) (lets_rfl rfl) (by exact ⟨⟨_, rfl, rfl, rfl⟩, trivial⟩) rfl ?_ | refine call_auto (hP) (lets_rfl rfl) (by exact ⟨⟨_, rfl, rfl, rfl⟩, trivial⟩) rfl ?_ | refine call_inline Try.func40 rfl rfl ?_ | refine call_inline Try.func73 rfl rfl ?_ | refine call_inline Try.func91 rfl rfl ?_); intro u; clear u))
    all_goals (first | ((refine con_end ?_ rfl; intro u; clear u; refine ⟨rfl, rfl, EntGoal.mk ?_ ?_⟩ <;> (repeat' (first | exact trivial | (with_reducible rfl) | apply And.intro | rfl))); (all_goals first | rfl | (simp [be1, be4, be6, ints]; done) | (simp [be1, be4, be6, ints]; omega)); done))
  · have hR := con_no hR hc
    rw [cpL_no hc, cpE_no hc]
    refine con_of_call2 rfl ?_
    refine call_inline Try.func13 rfl rfl ?_
    intro _
    repeat' (refine is_call ?_; refine call_auto (hR) (lets_rfl rfl) (by exact ⟨⟨_, rfl, rfl, rfl⟩, trivial⟩) rfl ?_; intro u; clear u)
    all_goals (first | ((refine con_end ?_ rfl; intro u; clear u; refine ⟨rfl, rfl, EntGoal.mk ?_ ?_⟩ <;> (repeat' (first | exact trivial | (with_reducible rfl) | apply And.intro | rfl))); done))
theorem put6 (of agent bkt gen peer ver base to : Int) (ho : 0 ≤ of ∧ of ≤ 255) (rows : List Row) (hl : rows.length ≤ 1000000) : CallCon Try.prog 13 [.agg [.v (.int .u8 6), .v (.int .u8 of), .v (.int .i64 agent), .v (.int .i64 bkt), .v (.int .i64 gen), .v (.int .i64 peer), .v (.int .i64 ver), .v (.int .i64 base), .v (.int .i64 to), .sl 0 0 rows.length]] [.row (rowsV rows) 5 101 false] (.tup [.one (.sl 0 0 (cpL ⟨6, of, agent, bkt, gen, peer, ver, ⟨base, to, rows⟩⟩).length), .one (.v (.int .i64 (cpE ⟨6, of, agent, bkt, gen, peer, ver, ⟨base, to, rows⟩⟩)))]) [.row (ints .u8 (cpL ⟨6, of, agent, bkt, gen, peer, ver, ⟨base, to, rows⟩⟩)) 1 5 true] := by
  have hR := right6 of agent bkt gen peer ver base to ho rows hl
  by_cases hc : okCtl ⟨6, of, agent, bkt, gen, peer, ver, ⟨base, to, rows⟩⟩
  · have hR := con_yes hR hc
    have hr : rows = [] := Decidable.byContradiction fun h => ok6_no (of := of) (agent := agent) (bkt := bkt) (gen := gen) (peer := peer) (ver := ver) (base := base) (to := to) h hc
    have hk := (ok6_yes (of := of) (agent := agent) (bkt := bkt) (gen := gen) (peer := peer) (ver := ver) (base := base) (to := to) hr).1 hc
    rw [cpL_yes hc, cpE_yes hc]
    rw [show ctlB ⟨6, of, agent, bkt, gen, peer, ver, ⟨base, to, rows⟩⟩ = 6 :: (be1 agent ++ be6 ver) from rfl]
    refine con_of_call2 rfl ?_
    refine call_inline Try.func13 rfl rfl ?_
    intro _
    repeat' (first | (refine is_dcall ?_; refine dcall_ptrs parts_con ?_; intro u; clear u) | (refine is_asked ?_; refine is_wrap (k := .u8) ?_; refine asked _ (wrap_u8' _) ?_; intro u; clear u) | (refine is_split ?_; refine sp_no (by rfl) ?_ <;> (intro u; clear u)) | (refine is_asked ?_; (first | (refine is_spec ?_; (first | (with_reducible refine asked _ (sp_add (by simp only [lo, hi]; omega) (by simp only [lo, hi]; omega)) ?_) | (refine is_op (op := .shr) ?_; (first | refine asked _ (sp_shrL 8 256 (by decide) (by rfl) (by decide)) ?_ | refine asked _ (sp_shrL 16 65536 (by decide) (by rfl) (by decide)) ?_ | refine asked _ (sp_shrL 24 16777216 (by decide) (by rfl) (by decide)) ?_ | refine asked _ (sp_shrL 0 1 (by decide) (by rfl) (by decide)) ?_ | refine asked _ (sp_shrL 32 4294967296 (by decide) (by rfl) (by decide)) ?_ | refine asked _ (sp_shrL 40 1099511627776 (by decide) (by rfl) (by decide)) ?_)))) | (refine is_wrap ?_; refine asked _ (wrap_lohi (by simp only [lo, hi]; omega) (by simp only [lo, hi]; omega)) ?_) | (refine asked (some 6, _) ⟨⟨rfl, by omega, by omega⟩, rfl⟩ ?_) | refine asked _ (append_ask rfl rfl (by decide) (by decide)) ?_); intro u; clear u) | (refine is_loop ?_; refine loop_step ?_; intro u; clear u) | (refine is_yield ?_; refine yield_step rfl rfl rfl rfl ?_; intro u; clear u) | (refine is_draw ?_; refine draw_step mixed (by kernel_rfl) ?_; intro u; clear u) | (refine is_range ?_; refine range_step rfl rfl ?_; intro u; clear u) | (refine is_call ?_; (first | refine call_auto (hR) (lets_rfl rfl) (by exact ⟨⟨_, rfl, rfl, rfl⟩, trivial⟩) rfl ?_ | refine call_inline Try.func40 rfl rfl ?_ | refine call_inline Try.func73 rfl rfl ?_ | refine call_inline Try.func92 rfl rfl ?_); intro u; clear u))
    all_goals (first | ((refine con_end ?_ rfl; intro u; clear u; refine ⟨rfl, rfl, EntGoal.mk ?_ ?_⟩ <;> (repeat' (first | exact trivial | (with_reducible rfl) | apply And.intro | rfl))); (all_goals first | rfl | (simp [be1, be4, be6, ints]; done) | (simp [be1, be4, be6, ints]; omega)); done))
  · have hR := con_no hR hc
    rw [cpL_no hc, cpE_no hc]
    refine con_of_call2 rfl ?_
    refine call_inline Try.func13 rfl rfl ?_
    intro _
    repeat' (refine is_call ?_; refine call_auto (hR) (lets_rfl rfl) (by exact ⟨⟨_, rfl, rfl, rfl⟩, trivial⟩) rfl ?_; intro u; clear u)
    all_goals (first | ((refine con_end ?_ rfl; intro u; clear u; refine ⟨rfl, rfl, EntGoal.mk ?_ ?_⟩ <;> (repeat' (first | exact trivial | (with_reducible rfl) | apply And.intro | rfl))); done))
theorem put_else (kind of agent bkt gen peer ver base to : Int) (hk : kind < 1 ∨ 6 < kind) (h0 : 0 ≤ kind) (ho : 0 ≤ of ∧ of ≤ 255) (rows : List Row) (hl : rows.length ≤ 1000000) : CallCon Try.prog 13 [.agg [.v (.int .u8 kind), .v (.int .u8 of), .v (.int .i64 agent), .v (.int .i64 bkt), .v (.int .i64 gen), .v (.int .i64 peer), .v (.int .i64 ver), .v (.int .i64 base), .v (.int .i64 to), .sl 0 0 rows.length]] [.row (rowsV rows) 5 101 false] (.tup [.one (.sl 0 0 (cpL ⟨kind, of, agent, bkt, gen, peer, ver, ⟨base, to, rows⟩⟩).length), .one (.v (.int .i64 (cpE ⟨kind, of, agent, bkt, gen, peer, ver, ⟨base, to, rows⟩⟩)))]) [.row (ints .u8 (cpL ⟨kind, of, agent, bkt, gen, peer, ver, ⟨base, to, rows⟩⟩)) 1 5 true] := by
  have hc : ¬ okCtl ⟨kind, of, agent, bkt, gen, peer, ver, ⟨base, to, rows⟩⟩ := fun h => by simp only [okCtl] at h; omega
  have hR := con_no (ctlright_con (c := ⟨kind, of, agent, bkt, gen, peer, ver, ⟨base, to, rows⟩⟩) ho h0 hl) hc
  rw [cpL_no hc, cpE_no hc]
  refine con_of_call2 rfl ?_
  refine call_inline Try.func13 rfl rfl ?_
  intro _
  repeat' (refine is_call ?_; refine call_auto (hR) (lets_rfl rfl) (by exact ⟨⟨_, rfl, rfl, rfl⟩, trivial⟩) rfl ?_; intro u; clear u)
  all_goals (first | ((refine con_end ?_ rfl; intro u; clear u; refine ⟨rfl, rfl, EntGoal.mk ?_ ?_⟩ <;> (repeat' (first | exact trivial | (with_reducible rfl) | apply And.intro | rfl))); done))
theorem cput_con {c : Ctl} (ho : 0 ≤ c.of ∧ c.of ≤ 255) (h0 : 0 ≤ c.kind) (hl : c.sh.rows.length ≤ 1000000) : CallCon Try.prog 13 [ctlT 0 c] [.row (rowsV c.sh.rows) 5 101 false] (.tup [.one (.sl 0 0 (cpL c).length), .one (.v (.int .i64 (cpE c)))]) [.row (ints .u8 (cpL c)) 1 5 true] := by
  obtain ⟨kind, of, agent, bkt, gen, peer, ver, ⟨base, to, rows⟩⟩ := c
  change 0 ≤ kind at h0
  by_cases h1 : kind = 1
  · subst h1; exact put1 of agent bkt gen peer ver base to ho rows hl
  by_cases h2 : kind = 2
  · subst h2; exact put2 of agent bkt gen peer ver base to ho rows hl
  by_cases h3 : kind = 3
  · subst h3; exact put3 of agent bkt gen peer ver base to ho rows hl
  by_cases h4 : kind = 4
  · subst h4; exact put4 of agent bkt gen peer ver base to ho rows hl
  by_cases h5 : kind = 5
  · subst h5; exact put5 of agent bkt gen peer ver base to ho rows hl
  by_cases h6 : kind = 6
  · subst h6; exact put6 of agent bkt gen peer ver base to ho rows hl
  exact put_else kind of agent bkt gen peer ver base to (by omega) h0 ho rows hl
end Go.Proofs.S19
