/- Contracts of functions of the program, or a row of the seat, proved out of them. No condition beyond those that stand in each statement. -/
import Derived.Test.YtcnijhilkemplaaS07h7G
namespace Go.Proofs.S07.E7
open Go Go.SE
open Go.Proofs.S07.O6 (Opt optT okOpt putS putE takeO takeE zeroO)
open Go.Proofs.S07.I2 (Hd hdT okHd putL parseE parseS zeroHd)
set_option maxRecDepth 100000
set_option maxHeartbeats 4000000
attribute [local irreducible] specI okOpt putL parseE parseS takeE takeO putS




attribute [local irreducible] wrB okTake takeW takeD

theorem lsame_con {l r : List Int} (h1 : Bytes l) (h2 : Bytes r) : CallCon Try.prog 17 [.one (.sl 0 0 l.length), .one (.sl 1 0 r.length)] [.row (ints .u8 l) 1 5 false, .row (ints .u8 r) 1 5 false] (.t (.one (.b (l = r)))) [] := by
  refine con_of_call2 rfl ?_
  refine call_inline Try.func17 rfl rfl ?_
  intro _
  repeat' (refine is_asked ?_; refine asked _ (tostr_ask (take_ints _ _) rfl) ?_; intro u; clear u)
  rw [← bytes_beq h1 h2]
  (refine con_end ?_ rfl; intro u; clear u; refine ⟨rfl, rfl, EntGoal.mk ?_ ?_⟩ <;> (repeat' (first | exact trivial | (with_reducible rfl) | apply And.intro | rfl)))
theorem lnodes_con : CallCon Try.prog 19 [.one (.sl 0 0 10), .one (.sl 1 0 10)] [.row (ndsV allNd) 2 23 false, .row (ndsV allNd) 2 23 false] (.t (.one (.v (.bool true)))) [] := by
  refine con_of_call2 rfl ?_
  refine call_inline Try.func19 rfl rfl ?_
  intro _
  repeat' (first | (refine is_split ?_; (first | refine sp_yes (by rfl) ?_ | refine sp_no (by rfl) ?_) <;> (intro u; clear u)) | (refine is_asked ?_; (first | (refine asked [.int .u8 1, .int .i64 0] ⟨by rfl, by decide +kernel⟩ ?_) | (refine asked [.int .u8 1, .int .i64 1] ⟨by rfl, by decide +kernel⟩ ?_) | (refine asked [.int .u8 1, .int .i64 2] ⟨by rfl, by decide +kernel⟩ ?_) | (refine asked [.int .u8 2, .int .i64 0] ⟨by rfl, by decide +kernel⟩ ?_) | (refine asked [.int .u8 2, .int .i64 1] ⟨by rfl, by decide +kernel⟩ ?_) | (refine asked [.int .u8 2, .int .i64 2] ⟨by rfl, by decide +kernel⟩ ?_) | (refine asked [.int .u8 2, .int .i64 3] ⟨by rfl, by decide +kernel⟩ ?_) | (refine asked [.int .u8 2, .int .i64 4] ⟨by rfl, by decide +kernel⟩ ?_) | (refine asked [.int .u8 2, .int .i64 5] ⟨by rfl, by decide +kernel⟩ ?_) | (refine asked [.int .u8 3, .int .i64 0] ⟨by rfl, by decide +kernel⟩ ?_) | refine asked () ⟨by omega, by omega⟩ ?_ | refine asked () (by show heldFree Try.prog _ _ = true; decide +kernel) ?_); intro u; clear u) | (refine is_loop ?_; refine loop_step ?_; intro u; clear u) | (refine is_draw ?_; refine draw_step mixed (by kernel_rfl) ?_; intro u; clear u))
  all_goals (refine con_end ?_ rfl; intro u; clear u; refine ⟨rfl, rfl, EntGoal.mk ?_ ?_⟩ <;> (repeat' (first | exact trivial | (with_reducible rfl) | apply And.intro | rfl)))

theorem tells_con {n : Nd} {a : Int} {w v : Wr} {l : List Int} (hn : n.Wf) (ha : 0 ≤ a ∧ a ≤ 4294967295) (hw : w.Wf) (hv : v.Wf) (hl : Bytes l) :
    CallCon Try.prog 3 [ndT n, .one (.v (.int .u32 a)), wrT w 0, wrT v 1, .one (.sl 2 0 l.length)] [.row (ints .u8 w.inner) 1 5 false, .row (ints .u8 v.inner) 1 5 false, .row (ints .u8 l) 1 5 false] (.t (.one (.v (.bool true)))) [] := by
  by_cases hc : w.inner.length ≤ 3000 ∧ v.inner.length ≤ 3000 ∧ l.length ≤ 3000
  · obtain ⟨c1, c2, c3⟩ := hc
    have A1 := addr_con n
    have A2 := refaddr_con hn
    have N1 := node_con ha
    have N2 := refnode_con ha
    have P1 := put_con hw (by omega)
    have P2 := refput_con hw (by omega)
    have T1 := take_con hl (by omega)
    have T2 := reftake_con hl (by omega)
    have hB : Bytes (wrB w) := wrB_bytes hw (by omega)
    have L1 := con_yes (lsame_con hB hB) rfl
    have S1 := con_yes (refsame_con (take_wf hl (by omega)) (take_wf hl (by omega))) rfl
    have S2 := same_con hw hv
    have S3 := refsame_con hw hv
    have S4 := con_yes (refsame_con hw hw) rfl
    have O1 := own_con (a := w) (by omega)
    refine con_of_call2 rfl ?_
    refine call_inline Try.func3 rfl rfl ?_
    intro _
    repeat' (first | (refine is_split ?_; (first | refine sp_no (by (first | exact dec_f (by omega) | exact ndec_f (by omega))) ?_ | (refine sp_yes ?_ ?_; focus (simp only [beq_self_eq_true, Bool.and_self, Bool.and_true, Bool.true_and, Bool.not_false, Bool.not_true]; done)) | refine sp_ndec (fun g => ?_) (fun g => ?_) | (refine sp_no ?_ ?_; focus (first | (simp; done) | (simp; omega)))) <;> (intro u; clear u)) | (refine is_asked ?_; refine asked () (by show heldFree Try.prog _ _ = true; decide +kernel) ?_; intro u; clear u) | (refine is_draw ?_; refine draw_step mixed (by kernel_rfl) ?_; intro u; clear u) | (refine is_call ?_; (first | refine call_auto (A1) (lets_rfl rfl) (by exact trivial) rfl ?_ | refine call_auto (A2) (lets_rfl rfl) (by exact trivial) rfl ?_ | refine call_auto (N1) (lets_rfl rfl) (by exact trivial) rfl ?_ | refine call_auto (N2) (lets_rfl rfl) (by exact trivial) rfl ?_ | refine call_auto (P1) (lets_rfl rfl) (by exact ⟨⟨_, rfl, rfl, rfl⟩, trivial⟩) rfl ?_ | refine call_auto (P2) (lets_rfl rfl) (by exact ⟨⟨_, rfl, rfl, rfl⟩, trivial⟩) rfl ?_ | refine call_auto (T1) (lets_rfl rfl) (by exact ⟨⟨_, rfl, rfl, rfl⟩, trivial⟩) rfl ?_ | refine call_auto (T2) (lets_rfl rfl) (by exact ⟨⟨_, rfl, rfl, rfl⟩, trivial⟩) rfl ?_ | refine call_auto (L1) (lets_rfl rfl) (by exact ⟨⟨_, rfl, rfl, rfl⟩, ⟨_, rfl, rfl, rfl⟩, trivial⟩) rfl ?_ | refine call_auto (S1) (lets_rfl rfl) (by exact ⟨⟨_, rfl, rfl, rfl⟩, ⟨_, rfl, rfl, rfl⟩, trivial⟩) rfl ?_); intro u; clear u) | (refine is_dcall ?_; (first | refine dcall_auto (S2) (lets_rfl rfl) (by exact ⟨⟨_, rfl, rfl, rfl⟩, ⟨_, rfl, rfl, rfl⟩, trivial⟩) rfl ?_ | refine dcall_auto (S3) (lets_rfl rfl) (by exact ⟨⟨_, rfl, rfl, rfl⟩, ⟨_, rfl, rfl, rfl⟩, trivial⟩) rfl ?_ | refine dcall_auto (S4) (lets_rfl rfl) (by exact ⟨⟨_, rfl, rfl, rfl⟩, ⟨_, rfl, rfl, rfl⟩, trivial⟩) rfl ?_ | refine dcall_auto (O1) (lets_rfl rfl) (by exact ⟨⟨_, rfl, rfl, rfl⟩, trivial⟩) rfl ?_ | refine dcall_auto (nodes_con) (lets_rfl rfl) (by exact trivial) rfl ?_ | refine dcall_auto (refnodes_con) (lets_rfl rfl) (by exact trivial) rfl ?_ | refine dcall_auto (lnodes_con) (lets_rfl rfl) (by exact ⟨⟨_, rfl, rfl, rfl⟩, ⟨_, rfl, rfl, rfl⟩, trivial⟩) rfl ?_ | refine dcall_auto (wakes_con) (lets_rfl rfl) (by exact trivial) rfl ?_); intro u; clear u))
    all_goals first
      | ((refine con_end ?_ rfl; intro u; clear u; refine ⟨rfl, rfl, EntGoal.mk ?_ ?_⟩ <;> (repeat' (first | exact trivial | (with_reducible rfl) | apply And.intro | rfl))); done)
      | (exfalso; clear A1 A2 N1 N2 P1 P2 T1 T2 L1 S1 S2 S3 S4 O1; simp at *; done)
  · refine con_of_call2 rfl ?_
    refine call_inline Try.func3 rfl rfl ?_
    intro _
    repeat' (first | (refine is_split ?_; (first | refine sp_yes (by exact dec_t (by omega)) ?_ | refine sp_dec (fun g => ?_) (fun g => ?_)) <;> (intro u; clear u)) | (refine is_call ?_; refine call_auto (wakes_con) (lets_rfl rfl) (by exact trivial) rfl ?_; intro u; clear u))
    all_goals first
      | (exfalso; omega)
      | (refine con_end ?_ rfl; intro u; clear u; refine ⟨rfl, rfl, EntGoal.mk ?_ ?_⟩ <;> (repeat' (first | exact trivial | (with_reducible rfl) | apply And.intro | rfl)))
