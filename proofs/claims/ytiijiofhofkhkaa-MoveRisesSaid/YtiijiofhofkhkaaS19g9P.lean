/- Contracts of functions of the program, or a row of the seat, proved out of them. No condition beyond those that stand in each statement. -/
import Derived.Test.YtiijiofhofkhkaaS19g9O
namespace Go.Proofs.S19
open Go Go.SE
set_option maxRecDepth 100000
set_option maxHeartbeats 4000000
attribute [local irreducible] specI

theorem refr1 (of agent bkt gen peer ver base to : Int) (ho : 0 ≤ of ∧ of ≤ 255) (rows : List Row) (hl : rows.length ≤ 1000000) : CallCon Try.prog 22 [.agg [.v (.int .u8 1), .v (.int .u8 of), .v (.int .i64 agent), .v (.int .i64 bkt), .v (.int .i64 gen), .v (.int .i64 peer), .v (.int .i64 ver), .v (.int .i64 base), .v (.int .i64 to), .sl 0 0 rows.length]] [.row (rowsV rows) 5 101 false] (.t (.one (.b (okCtl ⟨1, of, agent, bkt, gen, peer, ver, ⟨base, to, rows⟩⟩)))) [] := by
  by_cases hr : rows = []
  · have hk := ok1_yes (of := of) (agent := agent) (bkt := bkt) (gen := gen) (peer := peer) (ver := ver) (base := base) (to := to) hr
    have hz : rows.length = 0 := by rw [hr]; rfl
    refine con_of_call2 rfl ?_
    refine call_inline Try.func22 rfl rfl ?_
    intro _
    repeat' (first | (refine is_split ?_; (first | refine sp_yes (by (first | rfl | exact dec_t (by omega))) ?_ | refine sp_dec (fun g => ?_) (fun g => ?_)) <;> (intro u; clear u)) | (refine is_call ?_; (first | refine call_inline Try.func50 rfl rfl ?_ | refine call_inline Try.func51 rfl rfl ?_ | refine call_inline Try.func54 rfl rfl ?_); intro u; clear u))
    all_goals (first | (refine end_no ?_ ?_; (focus (rw [hk]; omega)); (refine con_end ?_ rfl; intro u; clear u; refine ⟨rfl, rfl, EntGoal.mk ?_ ?_⟩ <;> (repeat' (first | exact trivial | (with_reducible rfl) | apply And.intro | rfl))); done) | (refine end_yes ?_ ?_; (focus (rw [hk]; omega)); (refine con_end ?_ rfl; intro u; clear u; refine ⟨rfl, rfl, EntGoal.mk ?_ ?_⟩ <;> (repeat' (first | exact trivial | (with_reducible rfl) | apply And.intro | rfl))); done) | (refine end_iff ?_ ?_; (focus (rw [hk]; omega)); (refine con_end ?_ rfl; intro u; clear u; refine ⟨rfl, rfl, EntGoal.mk ?_ ?_⟩ <;> (repeat' (first | exact trivial | (with_reducible rfl) | apply And.intro | rfl))); done) | (refine end_niff ?_ ?_; (focus (rw [hk]; omega)); (refine con_end ?_ rfl; intro u; clear u; refine ⟨rfl, rfl, EntGoal.mk ?_ ?_⟩ <;> (repeat' (first | exact trivial | (with_reducible rfl) | apply And.intro | rfl))); done))
  · have hk := ok1_no (of := of) (agent := agent) (bkt := bkt) (gen := gen) (peer := peer) (ver := ver) (base := base) (to := to) hr
    have hz : 0 < rows.length := List.length_pos_iff.2 hr
    refine con_of_call2 rfl ?_
    refine call_inline Try.func22 rfl rfl ?_
    intro _
    repeat' (first | (refine is_split ?_; (first | refine sp_yes (by rfl) ?_ | refine sp_no (by exact dec_f (by omega)) ?_ | refine sp_dec (fun g => ?_) (fun g => ?_)) <;> (intro u; clear u)) | (refine is_call ?_; (first | refine call_inline Try.func50 rfl rfl ?_ | refine call_inline Try.func51 rfl rfl ?_ | refine call_inline Try.func54 rfl rfl ?_); intro u; clear u))
    all_goals (first | (refine end_no hk ?_; (refine con_end ?_ rfl; intro u; clear u; refine ⟨rfl, rfl, EntGoal.mk ?_ ?_⟩ <;> (repeat' (first | exact trivial | (with_reducible rfl) | apply And.intro | rfl))); done) | (refine end_no ?_ ?_; (focus (intro h; exact hk h)); (refine con_end ?_ rfl; intro u; clear u; refine ⟨rfl, rfl, EntGoal.mk ?_ ?_⟩ <;> (repeat' (first | exact trivial | (with_reducible rfl) | apply And.intro | rfl))); done) | (refine end_iff ?_ ?_; (focus (exact ⟨fun h => absurd h hk, fun h => by omega⟩)); (refine con_end ?_ rfl; intro u; clear u; refine ⟨rfl, rfl, EntGoal.mk ?_ ?_⟩ <;> (repeat' (first | exact trivial | (with_reducible rfl) | apply And.intro | rfl))); done) | (refine end_niff ?_ ?_; (focus (exact ⟨fun h => absurd h hk, fun h => by omega⟩)); (refine con_end ?_ rfl; intro u; clear u; refine ⟨rfl, rfl, EntGoal.mk ?_ ?_⟩ <;> (repeat' (first | exact trivial | (with_reducible rfl) | apply And.intro | rfl))); done) | (exfalso; omega))
theorem refr2 (of agent bkt gen peer ver base to : Int) (ho : 0 ≤ of ∧ of ≤ 255) (rows : List Row) (hl : rows.length ≤ 1000000) : CallCon Try.prog 22 [.agg [.v (.int .u8 2), .v (.int .u8 of), .v (.int .i64 agent), .v (.int .i64 bkt), .v (.int .i64 gen), .v (.int .i64 peer), .v (.int .i64 ver), .v (.int .i64 base), .v (.int .i64 to), .sl 0 0 rows.length]] [.row (rowsV rows) 5 101 false] (.t (.one (.b (okCtl ⟨2, of, agent, bkt, gen, peer, ver, ⟨base, to, rows⟩⟩)))) [] := by
  by_cases hr : rows = []
  · have hk := ok2_yes (of := of) (agent := agent) (bkt := bkt) (gen := gen) (peer := peer) (ver := ver) (base := base) (to := to) hr
    have hz : rows.length = 0 := by rw [hr]; rfl
    refine con_of_call2 rfl ?_
    refine call_inline Try.func22 rfl rfl ?_
    intro _
    repeat' (first | (refine is_split ?_; (first | refine sp_yes (by (first | rfl | exact dec_t (by omega))) ?_ | refine sp_no (by rfl) ?_ | refine sp_dec (fun g => ?_) (fun g => ?_)) <;> (intro u; clear u)) | (refine is_call ?_; (first | refine call_inline Try.func50 rfl rfl ?_ | refine call_inline Try.func51 rfl rfl ?_ | refine call_inline Try.func54 rfl rfl ?_); intro u; clear u))
    all_goals (first | (refine end_no ?_ ?_; (focus (rw [hk]; omega)); (refine con_end ?_ rfl; intro u; clear u; refine ⟨rfl, rfl, EntGoal.mk ?_ ?_⟩ <;> (repeat' (first | exact trivial | (with_reducible rfl) | apply And.intro | rfl))); done) | (refine end_yes ?_ ?_; (focus (rw [hk]; omega)); (refine con_end ?_ rfl; intro u; clear u; refine ⟨rfl, rfl, EntGoal.mk ?_ ?_⟩ <;> (repeat' (first | exact trivial | (with_reducible rfl) | apply And.intro | rfl))); done) | (refine end_iff ?_ ?_; (focus (rw [hk]; omega)); (refine con_end ?_ rfl; intro u; clear u; refine ⟨rfl, rfl, EntGoal.mk ?_ ?_⟩ <;> (repeat' (first | exact trivial | (with_reducible rfl) | apply And.intro | rfl))); done) | (refine end_niff ?_ ?_; (focus (rw [hk]; omega)); (refine con_end ?_ rfl; intro u; clear u; refine ⟨rfl, rfl, EntGoal.mk ?_ ?_⟩ <;> (repeat' (first | exact trivial | (with_reducible rfl) | apply And.intro | rfl))); done))
  · have hk := ok2_no (of := of) (agent := agent) (bkt := bkt) (gen := gen) (peer := peer) (ver := ver) (base := base) (to := to) hr
    have hz : 0 < rows.length := List.length_pos_iff.2 hr
    refine con_of_call2 rfl ?_
    refine call_inline Try.func22 rfl rfl ?_
    intro _
    repeat' (first | (refine is_split ?_; (first | refine sp_yes (by rfl) ?_ | refine sp_no (by (first | rfl | exact dec_f (by omega))) ?_ | refine sp_dec (fun g => ?_) (fun g => ?_)) <;> (intro u; clear u)) | (refine is_call ?_; (first | refine call_inline Try.func50 rfl rfl ?_ | refine call_inline Try.func51 rfl rfl ?_ | refine call_inline Try.func54 rfl rfl ?_); intro u; clear u))
    all_goals (first | (refine end_no hk ?_; (refine con_end ?_ rfl; intro u; clear u; refine ⟨rfl, rfl, EntGoal.mk ?_ ?_⟩ <;> (repeat' (first | exact trivial | (with_reducible rfl) | apply And.intro | rfl))); done) | (refine end_no ?_ ?_; (focus (intro h; exact hk h)); (refine con_end ?_ rfl; intro u; clear u; refine ⟨rfl, rfl, EntGoal.mk ?_ ?_⟩ <;> (repeat' (first | exact trivial | (with_reducible rfl) | apply And.intro | rfl))); done) | (refine end_iff ?_ ?_; (focus (exact ⟨fun h => absurd h hk, fun h => by omega⟩)); (refine con_end ?_ rfl; intro u; clear u; refine ⟨rfl, rfl, EntGoal.mk ?_ ?_⟩ <;> (repeat' (first | exact trivial | (with_reducible rfl) | apply And.intro | rfl))); done) | (refine end_niff ?_ ?_; (focus (exact ⟨fun h => absurd h hk, fun h => by omega⟩)); (refine con_end ?_ rfl; intro u; clear u; refine ⟨rfl, rfl, EntGoal.mk ?_ ?_⟩ <;> (repeat' (first | exact trivial | (with_reducible rfl) | apply And.intro | rfl))); done) | (exfalso; omega))
theorem refr3 (of agent bkt gen peer ver base to : Int) (ho : 0 ≤ of ∧ of ≤ 255) (rows : List Row) (hl : rows.length ≤ 1000000) : CallCon Try.prog 22 [.agg [.v (.int .u8 3), .v (.int .u8 of), .v (.int .i64 agent), .v (.int .i64 bkt), .v (.int .i64 gen), .v (.int .i64 peer), .v (.int .i64 ver), .v (.int .i64 base), .v (.int .i64 to), .sl 0 0 rows.length]] [.row (rowsV rows) 5 101 false] (.t (.one (.b (okCtl ⟨3, of, agent, bkt, gen, peer, ver, ⟨base, to, rows⟩⟩)))) [] := by
  by_cases hr : rows = []
  · have hk := ok3_yes (of := of) (agent := agent) (bkt := bkt) (gen := gen) (peer := peer) (ver := ver) (base := base) (to := to) hr
    have hz : rows.length = 0 := by rw [hr]; rfl
    refine con_of_call2 rfl ?_
    refine call_inline Try.func22 rfl rfl ?_
    intro _
    repeat' (first | (refine is_split ?_; (first | refine sp_yes (by (first | rfl | exact dec_t (by omega))) ?_ | refine sp_no (by rfl) ?_ | refine sp_dec (fun g => ?_) (fun g => ?_)) <;> (intro u; clear u)) | (refine is_call ?_; (first | refine call_inline Try.func50 rfl rfl ?_ | refine call_inline Try.func51 rfl rfl ?_ | refine call_inline Try.func54 rfl rfl ?_); intro u; clear u))
    all_goals (first | (refine end_no ?_ ?_; (focus (rw [hk]; omega)); (refine con_end ?_ rfl; intro u; clear u; refine ⟨rfl, rfl, EntGoal.mk ?_ ?_⟩ <;> (repeat' (first | exact trivial | (with_reducible rfl) | apply And.intro | rfl))); done) | (refine end_yes ?_ ?_; (focus (rw [hk]; omega)); (refine con_end ?_ rfl; intro u; clear u; refine ⟨rfl, rfl, EntGoal.mk ?_ ?_⟩ <;> (repeat' (first | exact trivial | (with_reducible rfl) | apply And.intro | rfl))); done) | (refine end_iff ?_ ?_; (focus (rw [hk]; omega)); (refine con_end ?_ rfl; intro u; clear u; refine ⟨rfl, rfl, EntGoal.mk ?_ ?_⟩ <;> (repeat' (first | exact trivial | (with_reducible rfl) | apply And.intro | rfl))); done) | (refine end_niff ?_ ?_; (focus (rw [hk]; omega)); (refine con_end ?_ rfl; intro u; clear u; refine ⟨rfl, rfl, EntGoal.mk ?_ ?_⟩ <;> (repeat' (first | exact trivial | (with_reducible rfl) | apply And.intro | rfl))); done))
  · have hk := ok3_no (of := of) (agent := agent) (bkt := bkt) (gen := gen) (peer := peer) (ver := ver) (base := base) (to := to) hr
    have hz : 0 < rows.length := List.length_pos_iff.2 hr
    refine con_of_call2 rfl ?_
    refine call_inline Try.func22 rfl rfl ?_
    intro _
    repeat' (first | (refine is_split ?_; (first | refine sp_yes (by rfl) ?_ | refine sp_no (by (first | rfl | exact dec_f (by omega))) ?_ | refine sp_dec (fun g => ?_) (fun g => ?_)) <;> (intro u; clear u)) | (refine is_call ?_; (first | refine call_inline Try.func50 rfl rfl ?_ | refine call_inline Try.func51 rfl rfl ?_ | refine call_inline Try.func54 rfl rfl ?_); intro u; clear u))
    all_goals (first | (refine end_no hk ?_; (refine con_end ?_ rfl; intro u; clear u; refine ⟨rfl, rfl, EntGoal.mk ?_ ?_⟩ <;> (repeat' (first | exact trivial | (with_reducible rfl) | apply And.intro | rfl))); done) | (refine end_no ?_ ?_; (focus (intro h; exact hk h)); (refine con_end ?_ rfl; intro u; clear u; refine ⟨rfl, rfl, EntGoal.mk ?_ ?_⟩ <;> (repeat' (first | exact trivial | (with_reducible rfl) | apply And.intro | rfl))); done) | (refine end_iff ?_ ?_; (focus (exact ⟨fun h => absurd h hk, fun h => by omega⟩)); (refine con_end ?_ rfl; intro u; clear u; refine ⟨rfl, rfl, EntGoal.mk ?_ ?_⟩ <;> (repeat' (first | exact trivial | (with_reducible rfl) | apply And.intro | rfl))); done) | (refine end_niff ?_ ?_; (focus (exact ⟨fun h => absurd h hk, fun h => by omega⟩)); (refine con_end ?_ rfl; intro u; clear u; refine ⟨rfl, rfl, EntGoal.mk ?_ ?_⟩ <;> (repeat' (first | exact trivial | (with_reducible rfl) | apply And.intro | rfl))); done) | (exfalso; omega))
theorem refr4 (of agent bkt gen peer ver base to : Int) (ho : 0 ≤ of ∧ of ≤ 255) (rows : List Row) (hl : rows.length ≤ 1000000) : CallCon Try.prog 22 [.agg [.v (.int .u8 4), .v (.int .u8 of), .v (.int .i64 agent), .v (.int .i64 bkt), .v (.int .i64 gen), .v (.int .i64 peer), .v (.int .i64 ver), .v (.int .i64 base), .v (.int .i64 to), .sl 0 0 rows.length]] [.row (rowsV rows) 5 101 false] (.t (.one (.b (okCtl ⟨4, of, agent, bkt, gen, peer, ver, ⟨base, to, rows⟩⟩)))) [] := by
  by_cases hr : rows = []
  · have hk := ok4_yes (of := of) (agent := agent) (bkt := bkt) (gen := gen) (peer := peer) (ver := ver) (base := base) (to := to) hr
    have hz : rows.length = 0 := by rw [hr]; rfl
    refine con_of_call2 rfl ?_
    refine call_inline Try.func22 rfl rfl ?_
    intro _
    repeat' (first | (refine is_split ?_; (first | refine sp_yes (by (first | rfl | exact dec_t (by omega))) ?_ | refine sp_no (by rfl) ?_ | refine sp_dec (fun g => ?_) (fun g => ?_)) <;> (intro u; clear u)) | (refine is_call ?_; (first | refine call_inline Try.func50 rfl rfl ?_ | refine call_inline Try.func51 rfl rfl ?_ | refine call_inline Try.func54 rfl rfl ?_); intro u; clear u))
    all_goals (first | (refine end_no ?_ ?_; (focus (rw [hk]; omega)); (refine con_end ?_ rfl; intro u; clear u; refine ⟨rfl, rfl, EntGoal.mk ?_ ?_⟩ <;> (repeat' (first | exact trivial | (with_reducible rfl) | apply And.intro | rfl))); done) | (refine end_yes ?_ ?_; (focus (rw [hk]; omega)); (refine con_end ?_ rfl; intro u; clear u; refine ⟨rfl, rfl, EntGoal.mk ?_ ?_⟩ <;> (repeat' (first | exact trivial | (with_reducible rfl) | apply And.intro | rfl))); done) | (refine end_iff ?_ ?_; (focus (rw [hk]; omega)); (refine con_end ?_ rfl; intro u; clear u; refine ⟨rfl, rfl, EntGoal.mk ?_ ?_⟩ <;> (repeat' (first | exact trivial | (with_reducible rfl) | apply And.intro | rfl))); done) | (refine end_niff ?_ ?_; (focus (rw [hk]; omega)); (refine con_end ?_ rfl; intro u; clear u; refine ⟨rfl, rfl, EntGoal.mk ?_ ?_⟩ <;> (repeat' (first | exact trivial | (with_reducible rfl) | apply And.intro | rfl))); done))
  · have hk := ok4_no (of := of) (agent := agent) (bkt := bkt) (gen := gen) (peer := peer) (ver := ver) (base := base) (to := to) hr
    have hz : 0 < rows.length := List.length_pos_iff.2 hr
    refine con_of_call2 rfl ?_
    refine call_inline Try.func22 rfl rfl ?_
    intro _
    repeat' (first | (refine is_split ?_; (first | refine sp_yes (by rfl) ?_ | refine sp_no (by (first | rfl | exact dec_f (by omega))) ?_ | refine sp_dec (fun g => ?_) (fun g => ?_)) <;> (intro u; clear u)) | (refine is_call ?_; (first | refine call_inline Try.func50 rfl rfl ?_ | refine call_inline Try.func51 rfl rfl ?_ | refine call_inline Try.func54 rfl rfl ?_); intro u; clear u))
    all_goals (first | (refine end_no hk ?_; (refine con_end ?_ rfl; intro u; clear u; refine ⟨rfl, rfl, EntGoal.mk ?_ ?_⟩ <;> (repeat' (first | exact trivial | (with_reducible rfl) | apply And.intro | rfl))); done) | (refine end_no ?_ ?_; (focus (intro h; exact hk h)); (refine con_end ?_ rfl; intro u; clear u; refine ⟨rfl, rfl, EntGoal.mk ?_ ?_⟩ <;> (repeat' (first | exact trivial | (with_reducible rfl) | apply And.intro | rfl))); done) | (refine end_iff ?_ ?_; (focus (exact ⟨fun h => absurd h hk, fun h => by omega⟩)); (refine con_end ?_ rfl; intro u; clear u; refine ⟨rfl, rfl, EntGoal.mk ?_ ?_⟩ <;> (repeat' (first | exact trivial | (with_reducible rfl) | apply And.intro | rfl))); done) | (refine end_niff ?_ ?_; (focus (exact ⟨fun h => absurd h hk, fun h => by omega⟩)); (refine con_end ?_ rfl; intro u; clear u; refine ⟨rfl, rfl, EntGoal.mk ?_ ?_⟩ <;> (repeat' (first | exact trivial | (with_reducible rfl) | apply And.intro | rfl))); done) | (exfalso; omega))
theorem refr5 (of agent bkt gen peer ver base to : Int) (ho : 0 ≤ of ∧ of ≤ 255) (rows : List Row) (hl : rows.length ≤ 1000000) : CallCon Try.prog 22 [.agg [.v (.int .u8 5), .v (.int .u8 of), .v (.int .i64 agent), .v (.int .i64 bkt), .v (.int .i64 gen), .v (.int .i64 peer), .v (.int .i64 ver), .v (.int .i64 base), .v (.int .i64 to), .sl 0 0 rows.length]] [.row (rowsV rows) 5 101 false] (.t (.one (.b (okCtl ⟨5, of, agent, bkt, gen, peer, ver, ⟨base, to, rows⟩⟩)))) [] := by
  have hS := shref_con ⟨base, to, rows⟩ hl
  by_cases hr : okSh ⟨base, to, rows⟩
  · have hS := con_yes hS hr
    have hk := ok5_yes (of := of) (agent := agent) (bkt := bkt) (gen := gen) (peer := peer) (ver := ver) (base := base) (to := to) hr
    refine con_of_call2 rfl ?_
    refine call_inline Try.func22 rfl rfl ?_
    intro _
    repeat' (first | (refine is_split ?_; (first | refine sp_yes (by rfl) ?_ | refine sp_no (by rfl) ?_ | refine sp_dec (fun g => ?_) (fun g => ?_)) <;> (intro u; clear u)) | (refine is_call ?_; (first | refine call_auto (hS) (lets_rfl rfl) (by exact ⟨⟨_, rfl, rfl, rfl⟩, trivial⟩) rfl ?_ | refine call_inline Try.func51 rfl rfl ?_ | refine call_inline Try.func52 rfl rfl ?_); intro u; clear u))
    all_goals (first | (refine end_no ?_ ?_; (focus (rw [hk]; omega)); (refine con_end ?_ rfl; intro u; clear u; refine ⟨rfl, rfl, EntGoal.mk ?_ ?_⟩ <;> (repeat' (first | exact trivial | (with_reducible rfl) | apply And.intro | rfl))); done) | (refine end_yes ?_ ?_; (focus (rw [hk]; omega)); (refine con_end ?_ rfl; intro u; clear u; refine ⟨rfl, rfl, EntGoal.mk ?_ ?_⟩ <;> (repeat' (first | exact trivial | (with_reducible rfl) | apply And.intro | rfl))); done) | (refine end_iff ?_ ?_; (focus (rw [hk]; omega)); (refine con_end ?_ rfl; intro u; clear u; refine ⟨rfl, rfl, EntGoal.mk ?_ ?_⟩ <;> (repeat' (first | exact trivial | (with_reducible rfl) | apply And.intro | rfl))); done) | (refine end_niff ?_ ?_; (focus (rw [hk]; omega)); (refine con_end ?_ rfl; intro u; clear u; refine ⟨rfl, rfl, EntGoal.mk ?_ ?_⟩ <;> (repeat' (first | exact trivial | (with_reducible rfl) | apply And.intro | rfl))); done))
  · have hS := con_no hS hr
    have hk := ok5_no (of := of) (agent := agent) (bkt := bkt) (gen := gen) (peer := peer) (ver := ver) (base := base) (to := to) hr
    refine con_of_call2 rfl ?_
    refine call_inline Try.func22 rfl rfl ?_
    intro _
    repeat' (first | (refine is_split ?_; (first | refine sp_yes (by rfl) ?_ | refine sp_no (by rfl) ?_ | refine sp_dec (fun g => ?_) (fun g => ?_)) <;> (intro u; clear u)) | (refine is_call ?_; (first | refine call_auto (hS) (lets_rfl rfl) (by exact ⟨⟨_, rfl, rfl, rfl⟩, trivial⟩) rfl ?_ | refine call_inline Try.func51 rfl rfl ?_ | refine call_inline Try.func52 rfl rfl ?_); intro u; clear u))
    all_goals (first | (refine end_no hk ?_; (refine con_end ?_ rfl; intro u; clear u; refine ⟨rfl, rfl, EntGoal.mk ?_ ?_⟩ <;> (repeat' (first | exact trivial | (with_reducible rfl) | apply And.intro | rfl))); done) | (refine end_no ?_ ?_; (focus (intro h; exact hk h)); (refine con_end ?_ rfl; intro u; clear u; refine ⟨rfl, rfl, EntGoal.mk ?_ ?_⟩ <;> (repeat' (first | exact trivial | (with_reducible rfl) | apply And.intro | rfl))); done) | (refine end_iff ?_ ?_; (focus (exact ⟨fun h => absurd h hk, fun h => by omega⟩)); (refine con_end ?_ rfl; intro u; clear u; refine ⟨rfl, rfl, EntGoal.mk ?_ ?_⟩ <;> (repeat' (first | exact trivial | (with_reducible rfl) | apply And.intro | rfl))); done) | (refine end_niff ?_ ?_; (focus (exact ⟨fun h => absurd h hk, fun h => by omega⟩)); (refine con_end ?_ rfl; intro u; clear u; refine ⟨rfl, rfl, EntGoal.mk ?_ ?_⟩ <;> (repeat' (first | exact trivial | (with_reducible rfl) | apply And.intro | rfl))); done) | (exfalso; omega))
theorem refr6 (of agent bkt gen peer ver base to : Int) (ho : 0 ≤ of ∧ of ≤ 255) (rows : List Row) (hl : rows.length ≤ 1000000) : CallCon Try.prog 22 [.agg [.v (.int .u8 6), .v (.int .u8 of), .v (.int .i64 agent), .v (.int .i64 bkt), .v (.int .i64 gen), .v (.int .i64 peer), .v (.int .i64 ver), .v (.int .i64 base), .v (.int .i64 to), .sl 0 0 rows.length]] [.row (rowsV rows) 5 101 false] (.t (.one (.b (okCtl ⟨6, of, agent, bkt, gen, peer, ver, ⟨base, to, rows⟩⟩)))) [] := by
  by_cases hr : rows = []
  · have hk := ok6_yes (of := of) (agent := agent) (bkt := bkt) (gen := gen) (peer := peer) (ver := ver) (base := base) (to := to) hr
    have hz : rows.length = 0 := by rw [hr]; rfl
    refine con_of_call2 rfl ?_
    refine call_inline Try.func22 rfl rfl ?_
    intro _
    repeat' (first | (refine is_split ?_; (first | refine sp_yes (by rfl) ?_ | refine sp_no (by rfl) ?_ | refine sp_dec (fun g => ?_) (fun g => ?_)) <;> (intro u; clear u)) | (refine is_call ?_; (first | refine call_inline Try.func51 rfl rfl ?_ | refine call_inline Try.func52 rfl rfl ?_ | refine call_inline Try.func54 rfl rfl ?_); intro u; clear u))
    all_goals (first | (refine end_no ?_ ?_; (focus (rw [hk]; omega)); (refine con_end ?_ rfl; intro u; clear u; refine ⟨rfl, rfl, EntGoal.mk ?_ ?_⟩ <;> (repeat' (first | exact trivial | (with_reducible rfl) | apply And.intro | rfl))); done) | (refine end_yes ?_ ?_; (focus (rw [hk]; omega)); (refine con_end ?_ rfl; intro u; clear u; refine ⟨rfl, rfl, EntGoal.mk ?_ ?_⟩ <;> (repeat' (first | exact trivial | (with_reducible rfl) | apply And.intro | rfl))); done) | (refine end_iff ?_ ?_; (focus (rw [hk]; omega)); (refine con_end ?_ rfl; intro u; clear u; refine ⟨rfl, rfl, EntGoal.mk ?_ ?_⟩ <;> (repeat' (first | exact trivial | (with_reducible rfl) | apply And.intro | rfl))); done) | (refine end_niff ?_ ?_; (focus (rw [hk]; omega)); (refine con_end ?_ rfl; intro u; clear u; refine ⟨rfl, rfl, EntGoal.mk ?_ ?_⟩ <;> (repeat' (first | exact trivial | (with_reducible rfl) | apply And.intro | rfl))); done))
  · have hk := ok6_no (of := of) (agent := agent) (bkt := bkt) (gen := gen) (peer := peer) (ver := ver) (base := base) (to := to) hr
    have hz : 0 < rows.length := List.length_pos_iff.2 hr
    refine con_of_call2 rfl ?_
    refine call_inline Try.func22 rfl rfl ?_
    intro _
    repeat' (first | (refine is_split ?_; (first | refine sp_yes (by rfl) ?_ | refine sp_no (by rfl) ?_ | refine sp_dec (fun g => ?_) (fun g => ?_)) <;> (intro u; clear u)) | (refine is_call ?_; (first | refine call_inline Try.func51 rfl rfl ?_ | refine call_inline Try.func52 rfl rfl ?_ | refine call_inline Try.func54 rfl rfl ?_); intro u; clear u))
    all_goals (first | (refine end_no hk ?_; (refine con_end ?_ rfl; intro u; clear u; refine ⟨rfl, rfl, EntGoal.mk ?_ ?_⟩ <;> (repeat' (first | exact trivial | (with_reducible rfl) | apply And.intro | rfl))); done) | (refine end_no ?_ ?_; (focus (intro h; exact hk h)); (refine con_end ?_ rfl; intro u; clear u; refine ⟨rfl, rfl, EntGoal.mk ?_ ?_⟩ <;> (repeat' (first | exact trivial | (with_reducible rfl) | apply And.intro | rfl))); done) | (refine end_iff ?_ ?_; (focus (exact ⟨fun h => absurd h hk, fun h => by omega⟩)); (refine con_end ?_ rfl; intro u; clear u; refine ⟨rfl, rfl, EntGoal.mk ?_ ?_⟩ <;> (repeat' (first | exact trivial | (with_reducible rfl) | apply And.intro | rfl))); done) | (refine end_niff ?_ ?_; (focus (exact ⟨fun h => absurd h hk, fun h => by omega⟩)); (refine con_end ?_ rfl; intro u; clear u; refine ⟨rfl, rfl, EntGoal.mk ?_ ?_⟩ <;> (repeat' (first | exact trivial | (with_reducible rfl) | apply And.intro | rfl))); done) | (exfalso; omega))
theorem refr_else (kind of agent bkt gen peer ver base to : Int) (hk : kind < 1 ∨ 6 < kind) (rows : List Row) (hl : rows.length ≤ 1000000) : CallCon Try.prog 22 [.agg [.v (.int .u8 kind), .v (.int .u8 of), .v (.int .i64 agent), .v (.int .i64 bkt), .v (.int .i64 gen), .v (.int .i64 peer), .v (.int .i64 ver), .v (.int .i64 base), .v (.int .i64 to), .sl 0 0 rows.length]] [.row (rowsV rows) 5 101 false] (.t (.one (.b false))) [] := by
  refine con_of_call2 rfl ?_
  refine call_inline Try.func22 rfl rfl ?_
  intro _
  repeat' (refine is_split ?_; refine sp_no (by exact dec_f (by omega)) ?_ <;> (intro u; clear u))
  all_goals (first | ((refine con_end ?_ rfl; intro u; clear u; refine ⟨rfl, rfl, EntGoal.mk ?_ ?_⟩ <;> (repeat' (first | exact trivial | (with_reducible rfl) | apply And.intro | rfl))); done))
theorem refctlright_con {c : Ctl} (ho : 0 ≤ c.of ∧ c.of ≤ 255) (hl : c.sh.rows.length ≤ 1000000) : CallCon Try.prog 22 [ctlT 0 c] [.row (rowsV c.sh.rows) 5 101 false] (.t (.one (.b (okCtl c)))) [] := by
  obtain ⟨kind, of, agent, bkt, gen, peer, ver, ⟨base, to, rows⟩⟩ := c
  by_cases h1 : kind = 1
  · subst h1; exact refr1 of agent bkt gen peer ver base to ho rows hl
  by_cases h2 : kind = 2
  · subst h2; exact refr2 of agent bkt gen peer ver base to ho rows hl
  by_cases h3 : kind = 3
  · subst h3; exact refr3 of agent bkt gen peer ver base to ho rows hl
  by_cases h4 : kind = 4
  · subst h4; exact refr4 of agent bkt gen peer ver base to ho rows hl
  by_cases h5 : kind = 5
  · subst h5; exact refr5 of agent bkt gen peer ver base to ho rows hl
  by_cases h6 : kind = 6
  · subst h6; exact refr6 of agent bkt gen peer ver base to ho rows hl
  rw [decide_eq_false (show ¬ okCtl _ from fun h => by simp only [okCtl] at h; omega)]
  exact refr_else kind of agent bkt gen peer ver base to (by omega) rows hl
theorem refctlrightn_con {c : Ctl} (ho : 0 ≤ c.of ∧ c.of ≤ 255) (hd : c.sh.rows = []) : CallCon Try.prog 22 [ctlN c] [] (.t (.one (.b (okCtl c)))) [] :=
  con_nil [ctlN c] [] (by rw [hd]; rfl) (refctlright_con (c := c) ho (by rw [hd]; decide)) (by rw [show ctlT 0 c = .agg [.v (.int .u8 c.kind), .v (.int .u8 c.of), .v (.int .i64 c.agent), .v (.int .i64 c.bkt), .v (.int .i64 c.gen), .v (.int .i64 c.peer), .v (.int .i64 c.ver), .v (.int .i64 c.sh.base), .v (.int .i64 c.sh.to), .sl 0 0 0] by unfold ctlT ctlS; rw [hd]; rfl]; repeat' (first | exact trivial | exact rfl | exact Or.inl rfl | apply And.intro)) rfl
theorem refctlack_con {c : Ctl} (ho : 0 ≤ c.of ∧ c.of ≤ 255) (h0 : 0 ≤ c.kind) (hl : c.sh.rows.length ≤ 1000000) : CallCon Try.prog 18 [ctlT 0 c] [.row (rowsV c.sh.rows) 5 101 false] (.tup [ctlN (ackC c), .one (.b (ackOk c))]) [] := by
  have hR := refctlright_con ho hl
  by_cases ha : ackOk c
  · have hR := con_yes hR ha.1
    have hk := ha.2
    rw [decide_eq_true ha, show ackC c = ⟨4, c.kind, c.agent, c.bkt, c.gen, 0, 0, zeroSh⟩ by unfold ackC; rw [if_pos ha]]
    refine con_of_call2 rfl ?_
    refine call_inline Try.func18 rfl rfl ?_
    intro _
    repeat' (first | (refine is_split ?_; refine sp_no (by exact dec_f (by omega)) ?_ <;> (intro u; clear u)) | (refine is_call ?_; refine call_auto (hR) (lets_rfl rfl) (by exact ⟨⟨_, rfl, rfl, rfl⟩, trivial⟩) rfl ?_; intro u; clear u))
    all_goals (first | ((refine con_end ?_ rfl; intro u; clear u; refine ⟨rfl, rfl, EntGoal.mk ?_ ?_⟩ <;> (repeat' (first | exact trivial | (with_reducible rfl) | apply And.intro | rfl))); done))
  · rw [decide_eq_false ha, show ackC c = zeroCtl by unfold ackC; rw [if_neg ha]]
    by_cases hk : c.kind ≤ 3
    · have hR := con_no hR (fun h => ha ⟨h, hk⟩)
      refine con_of_call2 rfl ?_
      refine call_inline Try.func18 rfl rfl ?_
      intro _
      repeat' (refine is_call ?_; refine call_auto (hR) (lets_rfl rfl) (by exact ⟨⟨_, rfl, rfl, rfl⟩, trivial⟩) rfl ?_; intro u; clear u)
      all_goals (first | ((refine con_end ?_ rfl; intro u; clear u; refine ⟨rfl, rfl, EntGoal.mk ?_ ?_⟩ <;> (repeat' (first | exact trivial | (with_reducible rfl) | apply And.intro | rfl))); done))
    · by_cases h1 : okCtl c
      · have hR := con_yes hR h1
        refine con_of_call2 rfl ?_
        refine call_inline Try.func18 rfl rfl ?_
        intro _
        repeat' (first | (refine is_split ?_; refine sp_yes (by exact dec_t (by omega)) ?_ <;> (intro u; clear u)) | (refine is_call ?_; refine call_auto (hR) (lets_rfl rfl) (by exact ⟨⟨_, rfl, rfl, rfl⟩, trivial⟩) rfl ?_; intro u; clear u))
        all_goals (first | ((refine con_end ?_ rfl; intro u; clear u; refine ⟨rfl, rfl, EntGoal.mk ?_ ?_⟩ <;> (repeat' (first | exact trivial | (with_reducible rfl) | apply And.intro | rfl))); done))
      · have hR := con_no hR h1
        refine con_of_call2 rfl ?_
        refine call_inline Try.func18 rfl rfl ?_
        intro _
        repeat' (refine is_call ?_; refine call_auto (hR) (lets_rfl rfl) (by exact ⟨⟨_, rfl, rfl, rfl⟩, trivial⟩) rfl ?_; intro u; clear u)
        all_goals (first | ((refine con_end ?_ rfl; intro u; clear u; refine ⟨rfl, rfl, EntGoal.mk ?_ ?_⟩ <;> (repeat' (first | exact trivial | (with_reducible rfl) | apply And.intro | rfl))); done))
theorem refctlackn_con {c : Ctl} (ho : 0 ≤ c.of ∧ c.of ≤ 255) (h0 : 0 ≤ c.kind) (hd : c.sh.rows = []) : CallCon Try.prog 18 [ctlN c] [] (.tup [ctlN (ackC c), .one (.b (ackOk c))]) [] :=
  con_nil [ctlN c] [] (by rw [hd]; rfl) (refctlack_con (c := c) ho h0 (by rw [hd]; decide)) (by rw [show ctlT 0 c = .agg [.v (.int .u8 c.kind), .v (.int .u8 c.of), .v (.int .i64 c.agent), .v (.int .i64 c.bkt), .v (.int .i64 c.gen), .v (.int .i64 c.peer), .v (.int .i64 c.ver), .v (.int .i64 c.sh.base), .v (.int .i64 c.sh.to), .sl 0 0 0] by unfold ctlT ctlS; rw [hd]; rfl]; repeat' (first | exact trivial | exact rfl | exact Or.inl rfl | apply And.intro)) rfl
theorem answersn_con {a c : Ctl} (hs : a.sh.rows.length ≤ 1000000) (ho : 0 ≤ c.of ∧ c.of ≤ 255) (h0 : 0 ≤ c.kind) (hd : c.sh.rows = []) : CallCon Try.prog 23 [ctlT 0 a, ctlN c] [.row (rowsV a.sh.rows) 5 101 false] (.t (.one (.b (ackOk c ∧ a = ackC c)))) [] :=
  con_nil [ctlT 0 a, ctlN c] [.row (rowsV a.sh.rows) 5 101 false] (by rw [hd]; rfl) (answers_con (a := a) (c := c) hs ho h0 (by rw [hd]; decide)) (by rw [show ctlT 1 c = .agg [.v (.int .u8 c.kind), .v (.int .u8 c.of), .v (.int .i64 c.agent), .v (.int .i64 c.bkt), .v (.int .i64 c.gen), .v (.int .i64 c.peer), .v (.int .i64 c.ver), .v (.int .i64 c.sh.base), .v (.int .i64 c.sh.to), .sl 1 0 0] by unfold ctlT ctlS; rw [hd]; rfl]; repeat' (first | exact trivial | exact rfl | exact Or.inl rfl | apply And.intro)) rfl

theorem refopen0 (cur to gen tick ver b : Int) : CallCon Try.prog 70 [.agg [.v (.int .u8 0), .v (.int .i64 cur), .v (.int .i64 to), .v (.int .i64 gen), .v (.int .i64 tick), .v (.int .i64 ver)], .one (.v (.int .i64 b))] [] (.tup [ctlN (opC ⟨0, cur, to, gen, tick, ver⟩ b), .one (.b (opOk ⟨0, cur, to, gen, tick, ver⟩ b))]) [] := by
  have hR := refmvright_con ⟨0, cur, to, gen, tick, ver⟩ (by show (0 : Int) ≤ 0; decide)
  by_cases c0 : okMv ⟨0, cur, to, gen, tick, ver⟩
  · have hR := con_yes hR c0
    have ho : ¬ opOk ⟨0, cur, to, gen, tick, ver⟩ b := fun h => absurd h.2.1 (by show ¬ ((0 : Int) = 2 ∨ (0 : Int) = 3 ∨ (0 : Int) = 5 ∨ (0 : Int) = 6); decide)
    rw [opC_no ho, decide_eq_false ho]
    refine con_of_call2 rfl ?_
    refine call_inline Try.func70 rfl rfl ?_
    intro _
    repeat' (first | (refine is_split ?_; (first | refine sp_no (by rfl) ?_ | refine sp_dec (fun g => ?_) (fun g => ?_)) <;> (intro u; clear u)) | (refine is_call ?_; refine call_auto (hR) (lets_rfl rfl) (by exact trivial) rfl ?_; intro u; clear u))
    all_goals (first | ((refine con_end ?_ rfl; intro u; clear u; refine ⟨rfl, rfl, EntGoal.mk ?_ ?_⟩ <;> (repeat' (first | exact trivial | (with_reducible rfl) | apply And.intro | rfl))); done))
  · have hR := con_no hR c0
    have ho : ¬ opOk ⟨0, cur, to, gen, tick, ver⟩ b := fun h => c0 h.1
    rw [opC_no ho, decide_eq_false ho]
    refine con_of_call2 rfl ?_
    refine call_inline Try.func70 rfl rfl ?_
    intro _
    repeat' (refine is_call ?_; refine call_auto (hR) (lets_rfl rfl) (by exact trivial) rfl ?_; intro u; clear u)
    all_goals (first | ((refine con_end ?_ rfl; intro u; clear u; refine ⟨rfl, rfl, EntGoal.mk ?_ ?_⟩ <;> (repeat' (first | exact trivial | (with_reducible rfl) | apply And.intro | rfl))); done))
theorem refopen1 (cur to gen tick ver b : Int) : CallCon Try.prog 70 [.agg [.v (.int .u8 1), .v (.int .i64 cur), .v (.int .i64 to), .v (.int .i64 gen), .v (.int .i64 tick), .v (.int .i64 ver)], .one (.v (.int .i64 b))] [] (.tup [ctlN (opC ⟨1, cur, to, gen, tick, ver⟩ b), .one (.b (opOk ⟨1, cur, to, gen, tick, ver⟩ b))]) [] := by
  have hR := refmvright_con ⟨1, cur, to, gen, tick, ver⟩ (by show (0 : Int) ≤ 1; decide)
  by_cases c0 : okMv ⟨1, cur, to, gen, tick, ver⟩
  · have hR := con_yes hR c0
    have ho : ¬ opOk ⟨1, cur, to, gen, tick, ver⟩ b := fun h => absurd h.2.1 (by show ¬ ((1 : Int) = 2 ∨ (1 : Int) = 3 ∨ (1 : Int) = 5 ∨ (1 : Int) = 6); decide)
    rw [opC_no ho, decide_eq_false ho]
    refine con_of_call2 rfl ?_
    refine call_inline Try.func70 rfl rfl ?_
    intro _
    repeat' (first | (refine is_split ?_; (first | refine sp_no (by rfl) ?_ | refine sp_dec (fun g => ?_) (fun g => ?_)) <;> (intro u; clear u)) | (refine is_call ?_; refine call_auto (hR) (lets_rfl rfl) (by exact trivial) rfl ?_; intro u; clear u))
    all_goals (first | ((refine con_end ?_ rfl; intro u; clear u; refine ⟨rfl, rfl, EntGoal.mk ?_ ?_⟩ <;> (repeat' (first | exact trivial | (with_reducible rfl) | apply And.intro | rfl))); done))
  · have hR := con_no hR c0
    have ho : ¬ opOk ⟨1, cur, to, gen, tick, ver⟩ b := fun h => c0 h.1
    rw [opC_no ho, decide_eq_false ho]
    refine con_of_call2 rfl ?_
    refine call_inline Try.func70 rfl rfl ?_
    intro _
    repeat' (refine is_call ?_; refine call_auto (hR) (lets_rfl rfl) (by exact trivial) rfl ?_; intro u; clear u)
    all_goals (first | ((refine con_end ?_ rfl; intro u; clear u; refine ⟨rfl, rfl, EntGoal.mk ?_ ?_⟩ <;> (repeat' (first | exact trivial | (with_reducible rfl) | apply And.intro | rfl))); done))
theorem refopen2 (cur to gen tick ver b : Int) : CallCon Try.prog 70 [.agg [.v (.int .u8 2), .v (.int .i64 cur), .v (.int .i64 to), .v (.int .i64 gen), .v (.int .i64 tick), .v (.int .i64 ver)], .one (.v (.int .i64 b))] [] (.tup [ctlN (opC ⟨2, cur, to, gen, tick, ver⟩ b), .one (.b (opOk ⟨2, cur, to, gen, tick, ver⟩ b))]) [] := by
  have hR := refmvright_con ⟨2, cur, to, gen, tick, ver⟩ (by show (0 : Int) ≤ 2; decide)
  by_cases c0 : okMv ⟨2, cur, to, gen, tick, ver⟩
  · have hR := con_yes hR c0
    by_cases c1 : (0 ≤ b ∧ b ≤ 15)
    · have ho : opOk ⟨2, cur, to, gen, tick, ver⟩ b := ⟨c0, (by show (2 : Int) = 2 ∨ (2 : Int) = 3 ∨ (2 : Int) = 5 ∨ (2 : Int) = 6; decide), c1⟩
      rw [opC_yes ho, decide_eq_true ho, show opRaw ⟨2, cur, to, gen, tick, ver⟩ b = ⟨1, 0, cur, b, gen, to, 0, zeroSh⟩ from rfl]
      refine con_of_call2 rfl ?_
      refine call_inline Try.func70 rfl rfl ?_
      intro _
      repeat' (first | (refine is_split ?_; (first | refine sp_yes (by rfl) ?_ | refine sp_no (by exact dec_f (by omega)) ?_) <;> (intro u; clear u)) | (refine is_call ?_; refine call_auto (hR) (lets_rfl rfl) (by exact trivial) rfl ?_; intro u; clear u))
      all_goals (first | ((refine con_end ?_ rfl; intro u; clear u; refine ⟨rfl, rfl, EntGoal.mk ?_ ?_⟩ <;> (repeat' (first | exact trivial | (with_reducible rfl) | apply And.intro | rfl))); done))
    · have ho : ¬ opOk ⟨2, cur, to, gen, tick, ver⟩ b := fun h => c1 h.2.2
      rw [opC_no ho, decide_eq_false ho]
      refine con_of_call2 rfl ?_
      refine call_inline Try.func70 rfl rfl ?_
      intro _
      repeat' (first | (refine is_split ?_; (first | refine sp_yes (by exact dec_t (by omega)) ?_ | refine sp_dec (fun g => ?_) (fun g => ?_)) <;> (intro u; clear u)) | (refine is_call ?_; refine call_auto (hR) (lets_rfl rfl) (by exact trivial) rfl ?_; intro u; clear u))
      all_goals (first | ((refine con_end ?_ rfl; intro u; clear u; refine ⟨rfl, rfl, EntGoal.mk ?_ ?_⟩ <;> (repeat' (first | exact trivial | (with_reducible rfl) | apply And.intro | rfl))); done))
  · have hR := con_no hR c0
    have ho : ¬ opOk ⟨2, cur, to, gen, tick, ver⟩ b := fun h => c0 h.1
    rw [opC_no ho, decide_eq_false ho]
    refine con_of_call2 rfl ?_
    refine call_inline Try.func70 rfl rfl ?_
    intro _
    repeat' (refine is_call ?_; refine call_auto (hR) (lets_rfl rfl) (by exact trivial) rfl ?_; intro u; clear u)
    all_goals (first | ((refine con_end ?_ rfl; intro u; clear u; refine ⟨rfl, rfl, EntGoal.mk ?_ ?_⟩ <;> (repeat' (first | exact trivial | (with_reducible rfl) | apply And.intro | rfl))); done))
theorem refopen3 (cur to gen tick ver b : Int) : CallCon Try.prog 70 [.agg [.v (.int .u8 3), .v (.int .i64 cur), .v (.int .i64 to), .v (.int .i64 gen), .v (.int .i64 tick), .v (.int .i64 ver)], .one (.v (.int .i64 b))] [] (.tup [ctlN (opC ⟨3, cur, to, gen, tick, ver⟩ b), .one (.b (opOk ⟨3, cur, to, gen, tick, ver⟩ b))]) [] := by
  have hR := refmvright_con ⟨3, cur, to, gen, tick, ver⟩ (by show (0 : Int) ≤ 3; decide)
  by_cases c0 : okMv ⟨3, cur, to, gen, tick, ver⟩
  · have hR := con_yes hR c0
    by_cases c1 : (0 ≤ b ∧ b ≤ 15)
    · have ho : opOk ⟨3, cur, to, gen, tick, ver⟩ b := ⟨c0, (by show (3 : Int) = 2 ∨ (3 : Int) = 3 ∨ (3 : Int) = 5 ∨ (3 : Int) = 6; decide), c1⟩
      rw [opC_yes ho, decide_eq_true ho, show opRaw ⟨3, cur, to, gen, tick, ver⟩ b = ⟨2, 0, to, b, gen, cur, 0, zeroSh⟩ from rfl]
      refine con_of_call2 rfl ?_
      refine call_inline Try.func70 rfl rfl ?_
      intro _
      repeat' (first | (refine is_split ?_; (first | refine sp_yes (by rfl) ?_ | refine sp_no (by (first | rfl | exact dec_f (by omega))) ?_) <;> (intro u; clear u)) | (refine is_call ?_; refine call_auto (hR) (lets_rfl rfl) (by exact trivial) rfl ?_; intro u; clear u))
      all_goals (first | ((refine con_end ?_ rfl; intro u; clear u; refine ⟨rfl, rfl, EntGoal.mk ?_ ?_⟩ <;> (repeat' (first | exact trivial | (with_reducible rfl) | apply And.intro | rfl))); done))
    · have ho : ¬ opOk ⟨3, cur, to, gen, tick, ver⟩ b := fun h => c1 h.2.2
      rw [opC_no ho, decide_eq_false ho]
      refine con_of_call2 rfl ?_
      refine call_inline Try.func70 rfl rfl ?_
      intro _
      repeat' (first | (refine is_split ?_; (first | refine sp_yes (by exact dec_t (by omega)) ?_ | refine sp_dec (fun g => ?_) (fun g => ?_)) <;> (intro u; clear u)) | (refine is_call ?_; refine call_auto (hR) (lets_rfl rfl) (by exact trivial) rfl ?_; intro u; clear u))
      all_goals (first | ((refine con_end ?_ rfl; intro u; clear u; refine ⟨rfl, rfl, EntGoal.mk ?_ ?_⟩ <;> (repeat' (first | exact trivial | (with_reducible rfl) | apply And.intro | rfl))); done))
  · have hR := con_no hR c0
    have ho : ¬ opOk ⟨3, cur, to, gen, tick, ver⟩ b := fun h => c0 h.1
    rw [opC_no ho, decide_eq_false ho]
    refine con_of_call2 rfl ?_
    refine call_inline Try.func70 rfl rfl ?_
    intro _
    repeat' (refine is_call ?_; refine call_auto (hR) (lets_rfl rfl) (by exact trivial) rfl ?_; intro u; clear u)
    all_goals (first | ((refine con_end ?_ rfl; intro u; clear u; refine ⟨rfl, rfl, EntGoal.mk ?_ ?_⟩ <;> (repeat' (first | exact trivial | (with_reducible rfl) | apply And.intro | rfl))); done))
theorem refopen4 (cur to gen tick ver b : Int) : CallCon Try.prog 70 [.agg [.v (.int .u8 4), .v (.int .i64 cur), .v (.int .i64 to), .v (.int .i64 gen), .v (.int .i64 tick), .v (.int .i64 ver)], .one (.v (.int .i64 b))] [] (.tup [ctlN (opC ⟨4, cur, to, gen, tick, ver⟩ b), .one (.b (opOk ⟨4, cur, to, gen, tick, ver⟩ b))]) [] := by
  have hR := refmvright_con ⟨4, cur, to, gen, tick, ver⟩ (by show (0 : Int) ≤ 4; decide)
  by_cases c0 : okMv ⟨4, cur, to, gen, tick, ver⟩
  · have hR := con_yes hR c0
    have ho : ¬ opOk ⟨4, cur, to, gen, tick, ver⟩ b := fun h => absurd h.2.1 (by show ¬ ((4 : Int) = 2 ∨ (4 : Int) = 3 ∨ (4 : Int) = 5 ∨ (4 : Int) = 6); decide)
    rw [opC_no ho, decide_eq_false ho]
    refine con_of_call2 rfl ?_
    refine call_inline Try.func70 rfl rfl ?_
    intro _
    repeat' (first | (refine is_split ?_; (first | refine sp_no (by rfl) ?_ | refine sp_dec (fun g => ?_) (fun g => ?_)) <;> (intro u; clear u)) | (refine is_call ?_; refine call_auto (hR) (lets_rfl rfl) (by exact trivial) rfl ?_; intro u; clear u))
    all_goals (first | ((refine con_end ?_ rfl; intro u; clear u; refine ⟨rfl, rfl, EntGoal.mk ?_ ?_⟩ <;> (repeat' (first | exact trivial | (with_reducible rfl) | apply And.intro | rfl))); done))
  · have hR := con_no hR c0
    have ho : ¬ opOk ⟨4, cur, to, gen, tick, ver⟩ b := fun h => c0 h.1
    rw [opC_no ho, decide_eq_false ho]
    refine con_of_call2 rfl ?_
    refine call_inline Try.func70 rfl rfl ?_
    intro _
    repeat' (refine is_call ?_; refine call_auto (hR) (lets_rfl rfl) (by exact trivial) rfl ?_; intro u; clear u)
    all_goals (first | ((refine con_end ?_ rfl; intro u; clear u; refine ⟨rfl, rfl, EntGoal.mk ?_ ?_⟩ <;> (repeat' (first | exact trivial | (with_reducible rfl) | apply And.intro | rfl))); done))
theorem refopen5 (cur to gen tick ver b : Int) : CallCon Try.prog 70 [.agg [.v (.int .u8 5), .v (.int .i64 cur), .v (.int .i64 to), .v (.int .i64 gen), .v (.int .i64 tick), .v (.int .i64 ver)], .one (.v (.int .i64 b))] [] (.tup [ctlN (opC ⟨5, cur, to, gen, tick, ver⟩ b), .one (.b (opOk ⟨5, cur, to, gen, tick, ver⟩ b))]) [] := by
  have hR := refmvright_con ⟨5, cur, to, gen, tick, ver⟩ (by show (0 : Int) ≤ 5; decide)
  by_cases c0 : okMv ⟨5, cur, to, gen, tick, ver⟩
  · have hR := con_yes hR c0
    by_cases c1 : (0 ≤ b ∧ b ≤ 15)
    · have ho : opOk ⟨5, cur, to, gen, tick, ver⟩ b := ⟨c0, (by show (5 : Int) = 2 ∨ (5 : Int) = 3 ∨ (5 : Int) = 5 ∨ (5 : Int) = 6; decide), c1⟩
      rw [opC_yes ho, decide_eq_true ho, show opRaw ⟨5, cur, to, gen, tick, ver⟩ b = ⟨3, 0, cur, b, gen, 0, 0, zeroSh⟩ from rfl]
      refine con_of_call2 rfl ?_
      refine call_inline Try.func70 rfl rfl ?_
      intro _
      repeat' (first | (refine is_split ?_; (first | refine sp_yes (by rfl) ?_ | refine sp_no (by (first | rfl | exact dec_f (by omega))) ?_) <;> (intro u; clear u)) | (refine is_call ?_; refine call_auto (hR) (lets_rfl rfl) (by exact trivial) rfl ?_; intro u; clear u))
      all_goals (first | ((refine con_end ?_ rfl; intro u; clear u; refine ⟨rfl, rfl, EntGoal.mk ?_ ?_⟩ <;> (repeat' (first | exact trivial | (with_reducible rfl) | apply And.intro | rfl))); done))
    · have ho : ¬ opOk ⟨5, cur, to, gen, tick, ver⟩ b := fun h => c1 h.2.2
      rw [opC_no ho, decide_eq_false ho]
      refine con_of_call2 rfl ?_
      refine call_inline Try.func70 rfl rfl ?_
      intro _
      repeat' (first | (refine is_split ?_; (first | refine sp_yes (by exact dec_t (by omega)) ?_ | refine sp_dec (fun g => ?_) (fun g => ?_)) <;> (intro u; clear u)) | (refine is_call ?_; refine call_auto (hR) (lets_rfl rfl) (by exact trivial) rfl ?_; intro u; clear u))
      all_goals (first | ((refine con_end ?_ rfl; intro u; clear u; refine ⟨rfl, rfl, EntGoal.mk ?_ ?_⟩ <;> (repeat' (first | exact trivial | (with_reducible rfl) | apply And.intro | rfl))); done))
  · have hR := con_no hR c0
    have ho : ¬ opOk ⟨5, cur, to, gen, tick, ver⟩ b := fun h => c0 h.1
    rw [opC_no ho, decide_eq_false ho]
    refine con_of_call2 rfl ?_
    refine call_inline Try.func70 rfl rfl ?_
    intro _
    repeat' (refine is_call ?_; refine call_auto (hR) (lets_rfl rfl) (by exact trivial) rfl ?_; intro u; clear u)
    all_goals (first | ((refine con_end ?_ rfl; intro u; clear u; refine ⟨rfl, rfl, EntGoal.mk ?_ ?_⟩ <;> (repeat' (first | exact trivial | (with_reducible rfl) | apply And.intro | rfl))); done))
theorem refopen6 (cur to gen tick ver b : Int) : CallCon Try.prog 70 [.agg [.v (.int .u8 6), .v (.int .i64 cur), .v (.int .i64 to), .v (.int .i64 gen), .v (.int .i64 tick), .v (.int .i64 ver)], .one (.v (.int .i64 b))] [] (.tup [ctlN (opC ⟨6, cur, to, gen, tick, ver⟩ b), .one (.b (opOk ⟨6, cur, to, gen, tick, ver⟩ b))]) [] := by
  have hR := refmvright_con ⟨6, cur, to, gen, tick, ver⟩ (by show (0 : Int) ≤ 6; decide)
  by_cases c0 : okMv ⟨6, cur, to, gen, tick, ver⟩
  · have hR := con_yes hR c0
    by_cases c1 : (0 ≤ b ∧ b ≤ 15)
    · have ho : opOk ⟨6, cur, to, gen, tick, ver⟩ b := ⟨c0, (by show (6 : Int) = 2 ∨ (6 : Int) = 3 ∨ (6 : Int) = 5 ∨ (6 : Int) = 6; decide), c1⟩
      rw [opC_yes ho, decide_eq_true ho, show opRaw ⟨6, cur, to, gen, tick, ver⟩ b = ⟨2, 0, to, b, gen, -1, 0, zeroSh⟩ from rfl]
      refine con_of_call2 rfl ?_
      refine call_inline Try.func70 rfl rfl ?_
      intro _
      repeat' (first | (refine is_split ?_; (first | refine sp_yes (by rfl) ?_ | refine sp_no (by (first | rfl | exact dec_f (by omega))) ?_) <;> (intro u; clear u)) | (refine is_call ?_; refine call_auto (hR) (lets_rfl rfl) (by exact trivial) rfl ?_; intro u; clear u))
      all_goals (first | ((refine con_end ?_ rfl; intro u; clear u; refine ⟨rfl, rfl, EntGoal.mk ?_ ?_⟩ <;> (repeat' (first | exact trivial | (with_reducible rfl) | apply And.intro | rfl))); done))
    · have ho : ¬ opOk ⟨6, cur, to, gen, tick, ver⟩ b := fun h => c1 h.2.2
      rw [opC_no ho, decide_eq_false ho]
      refine con_of_call2 rfl ?_
      refine call_inline Try.func70 rfl rfl ?_
      intro _
      repeat' (first | (refine is_split ?_; (first | refine sp_yes (by exact dec_t (by omega)) ?_ | refine sp_dec (fun g => ?_) (fun g => ?_)) <;> (intro u; clear u)) | (refine is_call ?_; refine call_auto (hR) (lets_rfl rfl) (by exact trivial) rfl ?_; intro u; clear u))
      all_goals (first | ((refine con_end ?_ rfl; intro u; clear u; refine ⟨rfl, rfl, EntGoal.mk ?_ ?_⟩ <;> (repeat' (first | exact trivial | (with_reducible rfl) | apply And.intro | rfl))); done))
  · have hR := con_no hR c0
    have ho : ¬ opOk ⟨6, cur, to, gen, tick, ver⟩ b := fun h => c0 h.1
    rw [opC_no ho, decide_eq_false ho]
    refine con_of_call2 rfl ?_
    refine call_inline Try.func70 rfl rfl ?_
    intro _
    repeat' (refine is_call ?_; refine call_auto (hR) (lets_rfl rfl) (by exact trivial) rfl ?_; intro u; clear u)
    all_goals (first | ((refine con_end ?_ rfl; intro u; clear u; refine ⟨rfl, rfl, EntGoal.mk ?_ ?_⟩ <;> (repeat' (first | exact trivial | (with_reducible rfl) | apply And.intro | rfl))); done))
theorem refopen_else (ph cur to gen tick ver b : Int) (hp : 6 < ph) : CallCon Try.prog 70 [.agg [.v (.int .u8 ph), .v (.int .i64 cur), .v (.int .i64 to), .v (.int .i64 gen), .v (.int .i64 tick), .v (.int .i64 ver)], .one (.v (.int .i64 b))] [] (.tup [ctlN (opC ⟨ph, cur, to, gen, tick, ver⟩ b), .one (.b (opOk ⟨ph, cur, to, gen, tick, ver⟩ b))]) [] := by
  have ho : ¬ opOk ⟨ph, cur, to, gen, tick, ver⟩ b := fun h => by
    have h2 : ph = 2 ∨ ph = 3 ∨ ph = 5 ∨ ph = 6 := h.2.1
    omega
  have c0 : ¬ okMv ⟨ph, cur, to, gen, tick, ver⟩ := fun h => by simp only [okMv] at h; omega
  have hR := con_no (refmvright_con ⟨ph, cur, to, gen, tick, ver⟩ (by show (0 : Int) ≤ ph; omega)) c0
  rw [opC_no ho, decide_eq_false ho]
  refine con_of_call2 rfl ?_
  refine call_inline Try.func70 rfl rfl ?_
  intro _
  repeat' (refine is_call ?_; refine call_auto (hR) (lets_rfl rfl) (by exact trivial) rfl ?_; intro u; clear u)
  all_goals (first | ((refine con_end ?_ rfl; intro u; clear u; refine ⟨rfl, rfl, EntGoal.mk ?_ ?_⟩ <;> (repeat' (first | exact trivial | (with_reducible rfl) | apply And.intro | rfl))); done))
theorem refopen_con (m : Mv) (b : Int) (h0 : 0 ≤ m.ph) : CallCon Try.prog 70 [mvT m, .one (.v (.int .i64 b))] [] (.tup [ctlN (opC m b), .one (.b (opOk m b))]) [] := by
  obtain ⟨ph, cur, to, gen, tick, ver⟩ := m
  change 0 ≤ ph at h0
  by_cases h : 6 < ph
  · exact refopen_else ph cur to gen tick ver b h
  have : ph = 0 ∨ ph = 1 ∨ ph = 2 ∨ ph = 3 ∨ ph = 4 ∨ ph = 5 ∨ ph = 6 := by omega
  rcases this with rfl | rfl | rfl | rfl | rfl | rfl | rfl
  · exact refopen0 cur to gen tick ver b
  · exact refopen1 cur to gen tick ver b
  · exact refopen2 cur to gen tick ver b
  · exact refopen3 cur to gen tick ver b
  · exact refopen4 cur to gen tick ver b
  · exact refopen5 cur to gen tick ver b
  · exact refopen6 cur to gen tick ver b
theorem opC_of (m : Mv) (b : Int) : (opC m b).of = 0 := by unfold opC opRaw; (repeat' split) <;> rfl
theorem opC_kind (m : Mv) (b : Int) : 0 ≤ (opC m b).kind := by unfold opC opRaw; (repeat' split) <;> (first | (show (0 : Int) ≤ 1; decide) | (show (0 : Int) ≤ 2; decide) | (show (0 : Int) ≤ 3; decide) | (show (0 : Int) ≤ 0; decide))
def lackC (m : Mv) (b : Int) : Ctl := ackC (opC m b)
theorem lack_con (m : Mv) (b : Int) (h0 : 0 ≤ m.ph) : CallCon Try.prog 34 [mvT m, .one (.v (.int .i64 b))] [] (.t (ctlN (lackC m b))) [] := by
  have hO := refopen_con m b h0
  have hA := refctlackn_con (c := opC m b) (by rw [opC_of]; decide) (opC_kind m b) (by rw [opC_nil]; rfl)
  unfold lackC
  generalize opC m b = c at hO hA ⊢
  generalize ackC c = d at hA ⊢
  refine con_of_call2 rfl ?_
  refine call_inline Try.func34 rfl rfl ?_
  intro _
  repeat' (refine is_call ?_; (first | refine call_auto (hO) (lets_rfl rfl) (by exact trivial) rfl ?_ | refine call_auto (hA) (lets_rfl rfl) (by exact trivial) rfl ?_); intro u; clear u)
  all_goals (first | ((refine con_end ?_ rfl; intro u; clear u; refine ⟨rfl, rfl, EntGoal.mk ?_ ?_⟩ <;> (repeat' (first | exact trivial | (with_reducible rfl) | apply And.intro | rfl))); done))
end Go.Proofs.S19
