/- Contracts of functions of the program, or a row of the seat, proved out of them. No condition beyond those that stand in each statement. -/
import Derived.Test.YtiijiofhofkhkaaS19g9V
import Derived.Test.YtiijiofhofkhkaaS19g9P
namespace Go.Proofs.S19
open Go Go.SE
set_option maxRecDepth 100000
set_option maxHeartbeats 4000000
attribute [local irreducible] specI

theorem rapp5 {x : Int} {S : List Int} (h : S.length ≤ 13000013) : List.take (2 * (0 + 1)) [Value.int .u8 5, Value.int .u8 x] ++ List.take (S.length * (0 + 1)) (List.drop (0 * (0 + 1)) (ints .u8 S)) = ints .u8 (5 :: x :: S) ∧ (List.take (2 * (0 + 1)) [Value.int .u8 5, Value.int .u8 x]).length = 2 * (0 + 1) ∧ (List.take (S.length * (0 + 1)) (List.drop (0 * (0 + 1)) (ints .u8 S))).length = S.length * (0 + 1) ∧ 2 + S.length ≤ maxLen ∧ (2 + S.length) * (0 + 1) ≤ 140737488355328 := by
  have e : List.take (S.length * (0 + 1)) (List.drop (0 * (0 + 1)) (ints .u8 S)) = ints .u8 S := by
    rw [Nat.zero_mul, List.drop_zero, List.take_of_length_le (by rw [ints_length]; omega)]
  rw [e, ints_length]
  exact ⟨rfl, rfl, by omega, by unfold maxLen; omega, by omega⟩
theorem rput6_con (x : Int) : CallCon Try.prog 43 [.one (.v (.int .i64 x)), .one (.n .i64 6)] [] (.t (.one (.sl 0 0 6))) [.row (ints .u8 (be6 x)) 1 5 true] := by
  refine con_of_call2 rfl ?_
  refine call_inline Try.func43 rfl rfl ?_
  intro _
  repeat' (first | (refine is_asked ?_; refine is_wrap (k := .u8) ?_; refine asked _ (wrap_u8' _) ?_; intro u; clear u) | (refine is_asked ?_; (first | (refine is_spec ?_; (refine is_op (op := .shr) ?_; (first | refine asked _ (sp_shrL 8 256 (by decide) (by rfl) (by decide)) ?_ | refine asked _ (sp_shrL 16 65536 (by decide) (by rfl) (by decide)) ?_ | refine asked _ (sp_shrL 24 16777216 (by decide) (by rfl) (by decide)) ?_ | refine asked _ (sp_shrL 0 1 (by decide) (by rfl) (by decide)) ?_ | refine asked _ (sp_shrL 32 4294967296 (by decide) (by rfl) (by decide)) ?_ | refine asked _ (sp_shrL 40 1099511627776 (by decide) (by rfl) (by decide)) ?_))) | (refine asked _ (byte_app (by simp) (by omega)) ?_) | (refine asked _ byte_app0 ?_)); intro u; clear u) | (refine is_loop ?_; refine loop_step ?_; intro u; clear u))
  (refine con_end ?_ rfl; intro u; clear u; refine ⟨rfl, rfl, EntGoal.mk ?_ ?_⟩ <;> (repeat' (first | exact trivial | (with_reducible rfl) | apply And.intro | rfl)))
  all_goals rfl
theorem rput4_con (x : Int) : CallCon Try.prog 43 [.one (.v (.int .i64 x)), .one (.n .i64 4)] [] (.t (.one (.sl 0 0 4))) [.row (ints .u8 (be4 x)) 1 5 true] := by
  refine con_of_call2 rfl ?_
  refine call_inline Try.func43 rfl rfl ?_
  intro _
  repeat' (first | (refine is_asked ?_; refine is_wrap (k := .u8) ?_; refine asked _ (wrap_u8' _) ?_; intro u; clear u) | (refine is_asked ?_; (first | (refine is_spec ?_; (refine is_op (op := .shr) ?_; (first | refine asked _ (sp_shrL 8 256 (by decide) (by rfl) (by decide)) ?_ | refine asked _ (sp_shrL 16 65536 (by decide) (by rfl) (by decide)) ?_ | refine asked _ (sp_shrL 24 16777216 (by decide) (by rfl) (by decide)) ?_ | refine asked _ (sp_shrL 0 1 (by decide) (by rfl) (by decide)) ?_))) | (refine asked _ (byte_app (by simp) (by omega)) ?_) | (refine asked _ byte_app0 ?_)); intro u; clear u) | (refine is_loop ?_; refine loop_step ?_; intro u; clear u))
  (refine con_end ?_ rfl; intro u; clear u; refine ⟨rfl, rfl, EntGoal.mk ?_ ?_⟩ <;> (repeat' (first | exact trivial | (with_reducible rfl) | apply And.intro | rfl)))
  all_goals rfl
theorem rput_1 (of agent bkt gen peer ver base to : Int) (ho : 0 ≤ of ∧ of ≤ 255) (rows : List Row) (hl : rows.length ≤ 1000000) : CallCon Try.prog 14 [.agg [.v (.int .u8 1), .v (.int .u8 of), .v (.int .i64 agent), .v (.int .i64 bkt), .v (.int .i64 gen), .v (.int .i64 peer), .v (.int .i64 ver), .v (.int .i64 base), .v (.int .i64 to), .sl 0 0 rows.length]] [.row (rowsV rows) 5 101 false] (.tup [.one (.sl 0 0 (cpL ⟨1, of, agent, bkt, gen, peer, ver, ⟨base, to, rows⟩⟩).length), .one (.v (.int .i64 (cpE ⟨1, of, agent, bkt, gen, peer, ver, ⟨base, to, rows⟩⟩)))]) [.row (ints .u8 (cpL ⟨1, of, agent, bkt, gen, peer, ver, ⟨base, to, rows⟩⟩)) 1 5 true] := by
  have hR := refr1 of agent bkt gen peer ver base to ho rows hl
  by_cases hc : okCtl ⟨1, of, agent, bkt, gen, peer, ver, ⟨base, to, rows⟩⟩
  · have hR := con_yes hR hc
    have hr : rows = [] := Decidable.byContradiction fun h => ok1_no (of := of) (agent := agent) (bkt := bkt) (gen := gen) (peer := peer) (ver := ver) (base := base) (to := to) h hc
    have hk := (ok1_yes (of := of) (agent := agent) (bkt := bkt) (gen := gen) (peer := peer) (ver := ver) (base := base) (to := to) hr).1 hc
    rw [cpL_yes hc, cpE_yes hc]
    rw [show ctlB ⟨1, of, agent, bkt, gen, peer, ver, ⟨base, to, rows⟩⟩ = 1 :: (be1 agent ++ (be1 bkt ++ (be4 gen ++ be1 (peer + 1)))) from rfl]
    have hP := rput4_con gen
    refine con_of_call2 rfl ?_
    refine call_inline Try.func14 rfl rfl ?_
    intro _
    repeat' (first | (refine is_asked ?_; refine is_wrap (k := .u8) ?_; refine asked _ (wrap_u8' _) ?_; intro u; clear u) | (refine is_split ?_; (first | refine sp_yes (by rfl) ?_ | refine sp_no (by rfl) ?_) <;> (intro u; clear u)) | (refine is_asked ?_; (first | (refine is_spec ?_; (with_reducible refine asked _ (sp_add (by simp only [lo, hi]; omega) (by simp only [lo, hi]; omega)) ?_)) | (refine asked _ (bytes_app (L := [_, _]) (B := [_]) rfl rfl (by decide) rfl) ?_) | (refine asked _ (bytes_app (L := [_, _, _]) (B := be4 gen) rfl rfl (by decide) rfl) ?_) | (refine asked _ (byte_app (by simp [be4]) (by omega)) ?_)); intro u; clear u) | (refine is_draw ?_; refine draw_step mixed (by kernel_rfl) ?_; intro u; clear u) | (refine is_call ?_; refine call_auto (hR) (lets_rfl rfl) (by exact ⟨⟨_, rfl, rfl, rfl⟩, trivial⟩) rfl ?_; intro u; clear u) | (refine is_dcall ?_; refine dcall_auto (hP) (lets_rfl rfl) (by exact trivial) rfl ?_; intro u; clear u))
    all_goals (first | ((refine con_end ?_ rfl; intro u; clear u; refine ⟨rfl, rfl, EntGoal.mk ?_ ?_⟩ <;> (repeat' (first | exact trivial | (with_reducible rfl) | apply And.intro | rfl))); (all_goals first | rfl | (simp [be1, be4, be6, ints]; done) | (simp [be1, be4, be6, ints]; omega)); done))
  · have hR := con_no hR hc
    rw [cpL_no hc, cpE_no hc]
    refine con_of_call2 rfl ?_
    refine call_inline Try.func14 rfl rfl ?_
    intro _
    repeat' (refine is_call ?_; refine call_auto (hR) (lets_rfl rfl) (by exact ⟨⟨_, rfl, rfl, rfl⟩, trivial⟩) rfl ?_; intro u; clear u)
    all_goals (first | ((refine con_end ?_ rfl; intro u; clear u; refine ⟨rfl, rfl, EntGoal.mk ?_ ?_⟩ <;> (repeat' (first | exact trivial | (with_reducible rfl) | apply And.intro | rfl))); done))
theorem rput_2 (of agent bkt gen peer ver base to : Int) (ho : 0 ≤ of ∧ of ≤ 255) (rows : List Row) (hl : rows.length ≤ 1000000) : CallCon Try.prog 14 [.agg [.v (.int .u8 2), .v (.int .u8 of), .v (.int .i64 agent), .v (.int .i64 bkt), .v (.int .i64 gen), .v (.int .i64 peer), .v (.int .i64 ver), .v (.int .i64 base), .v (.int .i64 to), .sl 0 0 rows.length]] [.row (rowsV rows) 5 101 false] (.tup [.one (.sl 0 0 (cpL ⟨2, of, agent, bkt, gen, peer, ver, ⟨base, to, rows⟩⟩).length), .one (.v (.int .i64 (cpE ⟨2, of, agent, bkt, gen, peer, ver, ⟨base, to, rows⟩⟩)))]) [.row (ints .u8 (cpL ⟨2, of, agent, bkt, gen, peer, ver, ⟨base, to, rows⟩⟩)) 1 5 true] := by
  have hR := refr2 of agent bkt gen peer ver base to ho rows hl
  by_cases hc : okCtl ⟨2, of, agent, bkt, gen, peer, ver, ⟨base, to, rows⟩⟩
  · have hR := con_yes hR hc
    have hr : rows = [] := Decidable.byContradiction fun h => ok2_no (of := of) (agent := agent) (bkt := bkt) (gen := gen) (peer := peer) (ver := ver) (base := base) (to := to) h hc
    have hk := (ok2_yes (of := of) (agent := agent) (bkt := bkt) (gen := gen) (peer := peer) (ver := ver) (base := base) (to := to) hr).1 hc
    rw [cpL_yes hc, cpE_yes hc]
    rw [show ctlB ⟨2, of, agent, bkt, gen, peer, ver, ⟨base, to, rows⟩⟩ = 2 :: (be1 agent ++ (be1 bkt ++ (be4 gen ++ be1 (peer + 1)))) from rfl]
    have hP := rput4_con gen
    refine con_of_call2 rfl ?_
    refine call_inline Try.func14 rfl rfl ?_
    intro _
    repeat' (first | (refine is_asked ?_; refine is_wrap (k := .u8) ?_; refine asked _ (wrap_u8' _) ?_; intro u; clear u) | (refine is_split ?_; (first | refine sp_yes (by rfl) ?_ | refine sp_no (by rfl) ?_) <;> (intro u; clear u)) | (refine is_asked ?_; (first | (refine is_spec ?_; (with_reducible refine asked _ (sp_add (by simp only [lo, hi]; omega) (by simp only [lo, hi]; omega)) ?_)) | (refine asked _ (bytes_app (L := [_, _]) (B := [_]) rfl rfl (by decide) rfl) ?_) | (refine asked _ (bytes_app (L := [_, _, _]) (B := be4 gen) rfl rfl (by decide) rfl) ?_) | (refine asked _ (byte_app (by simp [be4]) (by omega)) ?_)); intro u; clear u) | (refine is_draw ?_; refine draw_step mixed (by kernel_rfl) ?_; intro u; clear u) | (refine is_call ?_; refine call_auto (hR) (lets_rfl rfl) (by exact ⟨⟨_, rfl, rfl, rfl⟩, trivial⟩) rfl ?_; intro u; clear u) | (refine is_dcall ?_; refine dcall_auto (hP) (lets_rfl rfl) (by exact trivial) rfl ?_; intro u; clear u))
    all_goals (first | ((refine con_end ?_ rfl; intro u; clear u; refine ⟨rfl, rfl, EntGoal.mk ?_ ?_⟩ <;> (repeat' (first | exact trivial | (with_reducible rfl) | apply And.intro | rfl))); (all_goals first | rfl | (simp [be1, be4, be6, ints]; done) | (simp [be1, be4, be6, ints]; omega)); done))
  · have hR := con_no hR hc
    rw [cpL_no hc, cpE_no hc]
    refine con_of_call2 rfl ?_
    refine call_inline Try.func14 rfl rfl ?_
    intro _
    repeat' (refine is_call ?_; refine call_auto (hR) (lets_rfl rfl) (by exact ⟨⟨_, rfl, rfl, rfl⟩, trivial⟩) rfl ?_; intro u; clear u)
    all_goals (first | ((refine con_end ?_ rfl; intro u; clear u; refine ⟨rfl, rfl, EntGoal.mk ?_ ?_⟩ <;> (repeat' (first | exact trivial | (with_reducible rfl) | apply And.intro | rfl))); done))
theorem rput_3 (of agent bkt gen peer ver base to : Int) (ho : 0 ≤ of ∧ of ≤ 255) (rows : List Row) (hl : rows.length ≤ 1000000) : CallCon Try.prog 14 [.agg [.v (.int .u8 3), .v (.int .u8 of), .v (.int .i64 agent), .v (.int .i64 bkt), .v (.int .i64 gen), .v (.int .i64 peer), .v (.int .i64 ver), .v (.int .i64 base), .v (.int .i64 to), .sl 0 0 rows.length]] [.row (rowsV rows) 5 101 false] (.tup [.one (.sl 0 0 (cpL ⟨3, of, agent, bkt, gen, peer, ver, ⟨base, to, rows⟩⟩).length), .one (.v (.int .i64 (cpE ⟨3, of, agent, bkt, gen, peer, ver, ⟨base, to, rows⟩⟩)))]) [.row (ints .u8 (cpL ⟨3, of, agent, bkt, gen, peer, ver, ⟨base, to, rows⟩⟩)) 1 5 true] := by
  have hR := refr3 of agent bkt gen peer ver base to ho rows hl
  by_cases hc : okCtl ⟨3, of, agent, bkt, gen, peer, ver, ⟨base, to, rows⟩⟩
  · have hR := con_yes hR hc
    have hr : rows = [] := Decidable.byContradiction fun h => ok3_no (of := of) (agent := agent) (bkt := bkt) (gen := gen) (peer := peer) (ver := ver) (base := base) (to := to) h hc
    have hk := (ok3_yes (of := of) (agent := agent) (bkt := bkt) (gen := gen) (peer := peer) (ver := ver) (base := base) (to := to) hr).1 hc
    rw [cpL_yes hc, cpE_yes hc]
    rw [show ctlB ⟨3, of, agent, bkt, gen, peer, ver, ⟨base, to, rows⟩⟩ = 3 :: (be1 agent ++ (be1 bkt ++ be4 gen)) from rfl]
    have hP := rput4_con gen
    refine con_of_call2 rfl ?_
    refine call_inline Try.func14 rfl rfl ?_
    intro _
    repeat' (first | (refine is_asked ?_; refine is_wrap (k := .u8) ?_; refine asked _ (wrap_u8' _) ?_; intro u; clear u) | (refine is_split ?_; refine sp_no (by rfl) ?_ <;> (intro u; clear u)) | (refine is_asked ?_; (first | (refine asked _ (bytes_app (L := [_, _]) (B := [_]) rfl rfl (by decide) rfl) ?_) | (refine asked _ (bytes_app (L := [_, _, _]) (B := be4 gen) rfl rfl (by decide) rfl) ?_)); intro u; clear u) | (refine is_draw ?_; refine draw_step mixed (by kernel_rfl) ?_; intro u; clear u) | (refine is_call ?_; refine call_auto (hR) (lets_rfl rfl) (by exact ⟨⟨_, rfl, rfl, rfl⟩, trivial⟩) rfl ?_; intro u; clear u) | (refine is_dcall ?_; refine dcall_auto (hP) (lets_rfl rfl) (by exact trivial) rfl ?_; intro u; clear u))
    all_goals (first | ((refine con_end ?_ rfl; intro u; clear u; refine ⟨rfl, rfl, EntGoal.mk ?_ ?_⟩ <;> (repeat' (first | exact trivial | (with_reducible rfl) | apply And.intro | rfl))); (all_goals first | rfl | (simp [be1, be4, be6, ints]; done) | (simp [be1, be4, be6, ints]; omega)); done))
  · have hR := con_no hR hc
    rw [cpL_no hc, cpE_no hc]
    refine con_of_call2 rfl ?_
    refine call_inline Try.func14 rfl rfl ?_
    intro _
    repeat' (refine is_call ?_; refine call_auto (hR) (lets_rfl rfl) (by exact ⟨⟨_, rfl, rfl, rfl⟩, trivial⟩) rfl ?_; intro u; clear u)
    all_goals (first | ((refine con_end ?_ rfl; intro u; clear u; refine ⟨rfl, rfl, EntGoal.mk ?_ ?_⟩ <;> (repeat' (first | exact trivial | (with_reducible rfl) | apply And.intro | rfl))); done))
theorem rput_4 (of agent bkt gen peer ver base to : Int) (ho : 0 ≤ of ∧ of ≤ 255) (rows : List Row) (hl : rows.length ≤ 1000000) : CallCon Try.prog 14 [.agg [.v (.int .u8 4), .v (.int .u8 of), .v (.int .i64 agent), .v (.int .i64 bkt), .v (.int .i64 gen), .v (.int .i64 peer), .v (.int .i64 ver), .v (.int .i64 base), .v (.int .i64 to), .sl 0 0 rows.length]] [.row (rowsV rows) 5 101 false] (.tup [.one (.sl 0 0 (cpL ⟨4, of, agent, bkt, gen, peer, ver, ⟨base, to, rows⟩⟩).length), .one (.v (.int .i64 (cpE ⟨4, of, agent, bkt, gen, peer, ver, ⟨base, to, rows⟩⟩)))]) [.row (ints .u8 (cpL ⟨4, of, agent, bkt, gen, peer, ver, ⟨base, to, rows⟩⟩)) 1 5 true] := by
  have hR := refr4 of agent bkt gen peer ver base to ho rows hl
  by_cases hc : okCtl ⟨4, of, agent, bkt, gen, peer, ver, ⟨base, to, rows⟩⟩
  · have hR := con_yes hR hc
    have hr : rows = [] := Decidable.byContradiction fun h => ok4_no (of := of) (agent := agent) (bkt := bkt) (gen := gen) (peer := peer) (ver := ver) (base := base) (to := to) h hc
    have hk := (ok4_yes (of := of) (agent := agent) (bkt := bkt) (gen := gen) (peer := peer) (ver := ver) (base := base) (to := to) hr).1 hc
    rw [cpL_yes hc, cpE_yes hc]
    rw [show ctlB ⟨4, of, agent, bkt, gen, peer, ver, ⟨base, to, rows⟩⟩ = 4 :: (be1 agent ++ (be1 bkt ++ (be4 gen ++ be1 of))) from rfl]
    have hP := rput4_con gen
    refine con_of_call2 rfl ?_
    refine call_inline Try.func14 rfl rfl ?_
    intro _
    repeat' (first | (refine is_asked ?_; refine is_wrap (k := .u8) ?_; refine asked _ (wrap_u8' _) ?_; intro u; clear u) | (refine is_split ?_; (first | refine sp_yes (by rfl) ?_ | refine sp_no (by rfl) ?_) <;> (intro u; clear u)) | (refine is_asked ?_; (first | (refine asked _ (bytes_app (L := [_, _]) (B := [_]) rfl rfl (by decide) rfl) ?_) | (refine asked _ (bytes_app (L := [_, _, _]) (B := be4 gen) rfl rfl (by decide) rfl) ?_) | (refine asked _ (byte_app (by simp [be4]) (by omega)) ?_)); intro u; clear u) | (refine is_draw ?_; refine draw_step mixed (by kernel_rfl) ?_; intro u; clear u) | (refine is_call ?_; refine call_auto (hR) (lets_rfl rfl) (by exact ⟨⟨_, rfl, rfl, rfl⟩, trivial⟩) rfl ?_; intro u; clear u) | (refine is_dcall ?_; refine dcall_auto (hP) (lets_rfl rfl) (by exact trivial) rfl ?_; intro u; clear u))
    all_goals (first | ((refine con_end ?_ rfl; intro u; clear u; refine ⟨rfl, rfl, EntGoal.mk ?_ ?_⟩ <;> (repeat' (first | exact trivial | (with_reducible rfl) | apply And.intro | rfl))); (all_goals first | rfl | (simp [be1, be4, be6, ints]; done) | (simp [be1, be4, be6, ints]; omega)); done))
  · have hR := con_no hR hc
    rw [cpL_no hc, cpE_no hc]
    refine con_of_call2 rfl ?_
    refine call_inline Try.func14 rfl rfl ?_
    intro _
    repeat' (refine is_call ?_; refine call_auto (hR) (lets_rfl rfl) (by exact ⟨⟨_, rfl, rfl, rfl⟩, trivial⟩) rfl ?_; intro u; clear u)
    all_goals (first | ((refine con_end ?_ rfl; intro u; clear u; refine ⟨rfl, rfl, EntGoal.mk ?_ ?_⟩ <;> (repeat' (first | exact trivial | (with_reducible rfl) | apply And.intro | rfl))); done))
theorem rput_5 (of agent bkt gen peer ver base to : Int) (ho : 0 ≤ of ∧ of ≤ 255) (rows : List Row) (hl : rows.length ≤ 1000000) : CallCon Try.prog 14 [.agg [.v (.int .u8 5), .v (.int .u8 of), .v (.int .i64 agent), .v (.int .i64 bkt), .v (.int .i64 gen), .v (.int .i64 peer), .v (.int .i64 ver), .v (.int .i64 base), .v (.int .i64 to), .sl 0 0 rows.length]] [.row (rowsV rows) 5 101 false] (.tup [.one (.sl 0 0 (cpL ⟨5, of, agent, bkt, gen, peer, ver, ⟨base, to, rows⟩⟩).length), .one (.v (.int .i64 (cpE ⟨5, of, agent, bkt, gen, peer, ver, ⟨base, to, rows⟩⟩)))]) [.row (ints .u8 (cpL ⟨5, of, agent, bkt, gen, peer, ver, ⟨base, to, rows⟩⟩)) 1 5 true] := by
  have hR := refr5 of agent bkt gen peer ver base to ho rows hl
  by_cases hc : okCtl ⟨5, of, agent, bkt, gen, peer, ver, ⟨base, to, rows⟩⟩
  · have hR := con_yes hR hc
    have hr : okSh ⟨base, to, rows⟩ := Decidable.byContradiction fun h => ok5_no (of := of) (agent := agent) (bkt := bkt) (gen := gen) (peer := peer) (ver := ver) (base := base) (to := to) h hc
    have hk := (ok5_yes (of := of) (agent := agent) (bkt := bkt) (gen := gen) (peer := peer) (ver := ver) (base := base) (to := to) hr).1 hc
    rw [cpL_yes hc, cpE_yes hc]
    rw [show ctlB ⟨5, of, agent, bkt, gen, peer, ver, ⟨base, to, rows⟩⟩ = 5 :: (be1 agent ++ putSh ⟨base, to, rows⟩) from rfl]
    have hP := refput_con ⟨base, to, rows⟩ hl
    refine con_of_call2 rfl ?_
    refine call_inline Try.func14 rfl rfl ?_
    intro _
    repeat' (first | (refine is_asked ?_; refine is_wrap (k := .u8) ?_; refine asked _ (wrap_u8' _) ?_; intro u; clear u) | (refine is_split ?_; refine sp_yes (by rfl) ?_ <;> (intro u; clear u)) | (refine is_asked ?_; (refine asked _ (rapp5 (putSh_lenb (s := ⟨base, to, rows⟩) hl)) ?_); intro u; clear u) | (refine is_call ?_; (first | refine call_auto (hR) (lets_rfl rfl) (by exact ⟨⟨_, rfl, rfl, rfl⟩, trivial⟩) rfl ?_ | refine call_auto (hP) (lets_rfl rfl) (by exact ⟨⟨_, rfl, rfl, rfl⟩, trivial⟩) rfl ?_); intro u; clear u))
    all_goals (first | ((refine con_end ?_ rfl; intro u; clear u; refine ⟨rfl, rfl, EntGoal.mk ?_ ?_⟩ <;> (repeat' (first | exact trivial | (with_reducible rfl) | apply And.intro | rfl))); (all_goals first | rfl | (simp [be1, be4, be6, ints]; done) | (simp [be1, be4, be6, ints]; omega)); done))
  · have hR := con_no hR hc
    rw [cpL_no hc, cpE_no hc]
    refine con_of_call2 rfl ?_
    refine call_inline Try.func14 rfl rfl ?_
    intro _
    repeat' (refine is_call ?_; refine call_auto (hR) (lets_rfl rfl) (by exact ⟨⟨_, rfl, rfl, rfl⟩, trivial⟩) rfl ?_; intro u; clear u)
    all_goals (first | ((refine con_end ?_ rfl; intro u; clear u; refine ⟨rfl, rfl, EntGoal.mk ?_ ?_⟩ <;> (repeat' (first | exact trivial | (with_reducible rfl) | apply And.intro | rfl))); done))
theorem rput_6 (of agent bkt gen peer ver base to : Int) (ho : 0 ≤ of ∧ of ≤ 255) (rows : List Row) (hl : rows.length ≤ 1000000) : CallCon Try.prog 14 [.agg [.v (.int .u8 6), .v (.int .u8 of), .v (.int .i64 agent), .v (.int .i64 bkt), .v (.int .i64 gen), .v (.int .i64 peer), .v (.int .i64 ver), .v (.int .i64 base), .v (.int .i64 to), .sl 0 0 rows.length]] [.row (rowsV rows) 5 101 false] (.tup [.one (.sl 0 0 (cpL ⟨6, of, agent, bkt, gen, peer, ver, ⟨base, to, rows⟩⟩).length), .one (.v (.int .i64 (cpE ⟨6, of, agent, bkt, gen, peer, ver, ⟨base, to, rows⟩⟩)))]) [.row (ints .u8 (cpL ⟨6, of, agent, bkt, gen, peer, ver, ⟨base, to, rows⟩⟩)) 1 5 true] := by
  have hR := refr6 of agent bkt gen peer ver base to ho rows hl
  by_cases hc : okCtl ⟨6, of, agent, bkt, gen, peer, ver, ⟨base, to, rows⟩⟩
  · have hR := con_yes hR hc
    have hr : rows = [] := Decidable.byContradiction fun h => ok6_no (of := of) (agent := agent) (bkt := bkt) (gen := gen) (peer := peer) (ver := ver) (base := base) (to := to) h hc
    have hk := (ok6_yes (of := of) (agent := agent) (bkt := bkt) (gen := gen) (peer := peer) (ver := ver) (base := base) (to := to) hr).1 hc
    rw [cpL_yes hc, cpE_yes hc]
    rw [show ctlB ⟨6, of, agent, bkt, gen, peer, ver, ⟨base, to, rows⟩⟩ = 6 :: (be1 agent ++ be6 ver) from rfl]
    have hP := rput6_con ver
    refine con_of_call2 rfl ?_
    refine call_inline Try.func14 rfl rfl ?_
    intro _
    repeat' (first | (refine is_asked ?_; refine is_wrap (k := .u8) ?_; refine asked _ (wrap_u8' _) ?_; intro u; clear u) | (refine is_split ?_; (first | refine sp_yes (by rfl) ?_ | refine sp_no (by rfl) ?_) <;> (intro u; clear u)) | (refine is_asked ?_; (refine asked _ (bytes_app (L := [_, _]) (B := be6 ver) rfl rfl (by decide) rfl) ?_); intro u; clear u) | (refine is_call ?_; (first | refine call_auto (hR) (lets_rfl rfl) (by exact ⟨⟨_, rfl, rfl, rfl⟩, trivial⟩) rfl ?_ | refine call_auto (hP) (lets_rfl rfl) (by exact trivial) rfl ?_); intro u; clear u))
    all_goals (first | ((refine con_end ?_ rfl; intro u; clear u; refine ⟨rfl, rfl, EntGoal.mk ?_ ?_⟩ <;> (repeat' (first | exact trivial | (with_reducible rfl) | apply And.intro | rfl))); (all_goals first | rfl | (simp [be1, be4, be6, ints]; done) | (simp [be1, be4, be6, ints]; omega)); done))
  · have hR := con_no hR hc
    rw [cpL_no hc, cpE_no hc]
    refine con_of_call2 rfl ?_
    refine call_inline Try.func14 rfl rfl ?_
    intro _
    repeat' (refine is_call ?_; refine call_auto (hR) (lets_rfl rfl) (by exact ⟨⟨_, rfl, rfl, rfl⟩, trivial⟩) rfl ?_; intro u; clear u)
    all_goals (first | ((refine con_end ?_ rfl; intro u; clear u; refine ⟨rfl, rfl, EntGoal.mk ?_ ?_⟩ <;> (repeat' (first | exact trivial | (with_reducible rfl) | apply And.intro | rfl))); done))
theorem rput_else (kind of agent bkt gen peer ver base to : Int) (hk : kind < 1 ∨ 6 < kind) (h0 : 0 ≤ kind) (ho : 0 ≤ of ∧ of ≤ 255) (rows : List Row) (hl : rows.length ≤ 1000000) : CallCon Try.prog 14 [.agg [.v (.int .u8 kind), .v (.int .u8 of), .v (.int .i64 agent), .v (.int .i64 bkt), .v (.int .i64 gen), .v (.int .i64 peer), .v (.int .i64 ver), .v (.int .i64 base), .v (.int .i64 to), .sl 0 0 rows.length]] [.row (rowsV rows) 5 101 false] (.tup [.one (.sl 0 0 (cpL ⟨kind, of, agent, bkt, gen, peer, ver, ⟨base, to, rows⟩⟩).length), .one (.v (.int .i64 (cpE ⟨kind, of, agent, bkt, gen, peer, ver, ⟨base, to, rows⟩⟩)))]) [.row (ints .u8 (cpL ⟨kind, of, agent, bkt, gen, peer, ver, ⟨base, to, rows⟩⟩)) 1 5 true] := by
  have hc : ¬ okCtl ⟨kind, of, agent, bkt, gen, peer, ver, ⟨base, to, rows⟩⟩ := fun h => by simp only [okCtl] at h; omega
  have hR := con_no (refctlright_con (c := ⟨kind, of, agent, bkt, gen, peer, ver, ⟨base, to, rows⟩⟩) ho hl) hc
  rw [cpL_no hc, cpE_no hc]
  refine con_of_call2 rfl ?_
  refine call_inline Try.func14 rfl rfl ?_
  intro _
  repeat' (refine is_call ?_; refine call_auto (hR) (lets_rfl rfl) (by exact ⟨⟨_, rfl, rfl, rfl⟩, trivial⟩) rfl ?_; intro u; clear u)
  all_goals (first | ((refine con_end ?_ rfl; intro u; clear u; refine ⟨rfl, rfl, EntGoal.mk ?_ ?_⟩ <;> (repeat' (first | exact trivial | (with_reducible rfl) | apply And.intro | rfl))); done))
theorem crefput_con {c : Ctl} (ho : 0 ≤ c.of ∧ c.of ≤ 255) (h0 : 0 ≤ c.kind) (hl : c.sh.rows.length ≤ 1000000) : CallCon Try.prog 14 [ctlT 0 c] [.row (rowsV c.sh.rows) 5 101 false] (.tup [.one (.sl 0 0 (cpL c).length), .one (.v (.int .i64 (cpE c)))]) [.row (ints .u8 (cpL c)) 1 5 true] := by
  obtain ⟨kind, of, agent, bkt, gen, peer, ver, ⟨base, to, rows⟩⟩ := c
  change 0 ≤ kind at h0
  by_cases h1 : kind = 1
  · subst h1; exact rput_1 of agent bkt gen peer ver base to ho rows hl
  by_cases h2 : kind = 2
  · subst h2; exact rput_2 of agent bkt gen peer ver base to ho rows hl
  by_cases h3 : kind = 3
  · subst h3; exact rput_3 of agent bkt gen peer ver base to ho rows hl
  by_cases h4 : kind = 4
  · subst h4; exact rput_4 of agent bkt gen peer ver base to ho rows hl
  by_cases h5 : kind = 5
  · subst h5; exact rput_5 of agent bkt gen peer ver base to ho rows hl
  by_cases h6 : kind = 6
  · subst h6; exact rput_6 of agent bkt gen peer ver base to ho rows hl
  exact rput_else kind of agent bkt gen peer ver base to (by omega) h0 ho rows hl
end Go.Proofs.S19
