/- Contracts of functions of the program, or a row of the seat, proved out of them. No condition beyond those that stand in each statement. -/
import Derived.Test.YtiijiofhofkhkaaS19gK
namespace Go.Proofs.S19
open Go Go.SE
set_option maxRecDepth 100000
set_option maxHeartbeats 4000000
attribute [local irreducible] specI

structure Ctl where
  kind : Int
  of : Int
  agent : Int
  bkt : Int
  gen : Int
  peer : Int
  ver : Int
  sh : Sh
  deriving DecidableEq
def zeroCtl : Ctl := ⟨0, 0, 0, 0, 0, 0, 0, zeroSh⟩
def ctlS (h : Nat) (c : Ctl) : List S := [.v (.int .u8 c.kind), .v (.int .u8 c.of), .v (.int .i64 c.agent), .v (.int .i64 c.bkt), .v (.int .i64 c.gen), .v (.int .i64 c.peer), .v (.int .i64 c.ver), .v (.int .i64 c.sh.base), .v (.int .i64 c.sh.to), .sl h 0 c.sh.rows.length]
def ctlT (h : Nat) (c : Ctl) : T := .agg (ctlS h c)

theorem same_con {c d : Ctl} (hs : c.sh.rows.length ≤ 1000000) (ho : d.sh.rows.length ≤ 1000000) : CallCon Try.prog 25 [ctlT 0 c, ctlT 1 d] [.row (rowsV c.sh.rows) 5 101 false, .row (rowsV d.sh.rows) 5 101 false] (.t (.one (.b (c = d)))) [] := by
  have hq := shsame_con hs ho
  refine con_of_call2 rfl ?_
  refine call_inline Try.func25 rfl rfl ?_
  intro _
  repeat' (first | (refine is_split ?_; refine sp_dec (fun g => ?_) (fun g => ?_) <;> (intro u; clear u)) | (refine is_call ?_; refine call_auto (hq) (lets_rfl rfl) (by exact ⟨⟨_, rfl, rfl, rfl⟩, ⟨_, rfl, rfl, rfl⟩, trivial⟩) rfl ?_; intro u; clear u))
  all_goals (refine con_end ?_ rfl; intro u; clear u; refine ⟨rfl, rfl, EntGoal.mk ?_ ?_⟩ <;> (repeat' (first | exact trivial | (with_reducible rfl) | apply And.intro | rfl)))
  all_goals (obtain ⟨a1, a2, a3, a4, a5, a6, a7, a8⟩ := c; obtain ⟨b1, b2, b3, b4, b5, b6, b7, b8⟩ := d; simp_all; try rfl)
theorem refsame_con {c d : Ctl} (hs : c.sh.rows.length ≤ 1000000) (ho : d.sh.rows.length ≤ 1000000) : CallCon Try.prog 20 [ctlT 0 c, ctlT 1 d] [.row (rowsV c.sh.rows) 5 101 false, .row (rowsV d.sh.rows) 5 101 false] (.t (.one (.b (c = d)))) [] := by
  have hq := shrefsame_con hs ho
  refine con_of_call2 rfl ?_
  refine call_inline Try.func20 rfl rfl ?_
  intro _
  repeat' (first | (refine is_split ?_; refine sp_dec (fun g => ?_) (fun g => ?_) <;> (intro u; clear u)) | (refine is_call ?_; refine call_auto (hq) (lets_rfl rfl) (by exact ⟨⟨_, rfl, rfl, rfl⟩, ⟨_, rfl, rfl, rfl⟩, trivial⟩) rfl ?_; intro u; clear u))
  all_goals (refine con_end ?_ rfl; intro u; clear u; refine ⟨rfl, rfl, EntGoal.mk ?_ ?_⟩ <;> (repeat' (first | exact trivial | (with_reducible rfl) | apply And.intro | rfl)))
  all_goals (obtain ⟨a1, a2, a3, a4, a5, a6, a7, a8⟩ := c; obtain ⟨b1, b2, b3, b4, b5, b6, b7, b8⟩ := d; simp_all; try rfl)
theorem own_con {c : Ctl} (hl : c.sh.rows.length ≤ 1000000) : CallCon Try.prog 26 [ctlT 0 c] [.row (rowsV c.sh.rows) 5 101 false] (.t (ctlT 0 c)) [.row (rowsV c.sh.rows) 5 101 true] := by
  have hc := shown_con hl
  refine con_of_call2 rfl ?_
  refine call_inline Try.func26 rfl rfl ?_
  intro _
  repeat' (refine is_call ?_; refine call_auto (hc) (lets_rfl rfl) (by exact ⟨⟨_, rfl, rfl, rfl⟩, trivial⟩) rfl ?_; intro u; clear u)
  all_goals (refine con_end ?_ rfl; intro u; clear u; refine ⟨rfl, rfl, EntGoal.mk ?_ ?_⟩ <;> (repeat' (first | exact trivial | (with_reducible rfl) | apply And.intro | rfl)))
theorem refown_con {c : Ctl} (hl : c.sh.rows.length ≤ 1000000) : CallCon Try.prog 27 [ctlT 0 c] [.row (rowsV c.sh.rows) 5 101 false] (.t (ctlT 0 c)) [.row (rowsV c.sh.rows) 5 101 true] := by
  have hc := shrefown_con hl
  refine con_of_call2 rfl ?_
  refine call_inline Try.func27 rfl rfl ?_
  intro _
  repeat' (refine is_call ?_; refine call_auto (hc) (lets_rfl rfl) (by exact ⟨⟨_, rfl, rfl, rfl⟩, trivial⟩) rfl ?_; intro u; clear u)
  all_goals (refine con_end ?_ rfl; intro u; clear u; refine ⟨rfl, rfl, EntGoal.mk ?_ ?_⟩ <;> (repeat' (first | exact trivial | (with_reducible rfl) | apply And.intro | rfl)))
end Go.Proofs.S19
