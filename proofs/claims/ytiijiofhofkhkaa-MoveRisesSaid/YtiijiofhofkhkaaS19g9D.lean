/- Contracts of functions of the program, or a row of the seat, proved out of them. No condition beyond those that stand in each statement. -/
import Derived.Test.YtiijiofhofkhkaaS19g9C
namespace Go.Proofs.S19
open Go Go.SE
set_option maxRecDepth 100000
set_option maxHeartbeats 4000000
attribute [local irreducible] specI

theorem ctlright_else (kind of agent bkt gen peer ver base to : Int) (hk : kind < 1 ∨ 6 < kind) (h0 : 0 ≤ kind) (rows : List Row) (hl : rows.length ≤ 1000000) : CallCon Try.prog 21 [.agg [.v (.int .u8 kind), .v (.int .u8 of), .v (.int .i64 agent), .v (.int .i64 bkt), .v (.int .i64 gen), .v (.int .i64 peer), .v (.int .i64 ver), .v (.int .i64 base), .v (.int .i64 to), .sl 0 0 rows.length]] [.row (rowsV rows) 5 101 false] (.t (.one (.b false))) [] := by
  by_cases hz : kind = 0
  · refine con_of_call2 rfl ?_
    refine call_inline Try.func21 rfl rfl ?_
    intro _
    repeat' (first | (refine is_asked ?_; refine asked _ rfl ?_; intro u; clear u) | (refine is_split ?_; refine sp_yes (by exact dec_t (by omega)) ?_ <;> (intro u; clear u)) | (refine is_draw ?_; refine draw_step mixed (by kernel_rfl) ?_; intro u; clear u))
    all_goals (refine con_end ?_ rfl; intro u; clear u; refine ⟨rfl, rfl, EntGoal.mk ?_ ?_⟩ <;> (repeat' (first | exact trivial | (with_reducible rfl) | apply And.intro | rfl)))
  · refine con_of_call2 rfl ?_
    refine call_inline Try.func21 rfl rfl ?_
    intro _
    repeat' (first | (refine is_asked ?_; refine asked _ rfl ?_; intro u; clear u) | (refine is_split ?_; (first | refine sp_yes (by exact dec_t (by omega)) ?_ | refine sp_no (by exact dec_f (by omega)) ?_) <;> (intro u; clear u)) | (refine is_draw ?_; refine draw_step mixed (by kernel_rfl) ?_; intro u; clear u))
    all_goals (refine con_end ?_ rfl; intro u; clear u; refine ⟨rfl, rfl, EntGoal.mk ?_ ?_⟩ <;> (repeat' (first | exact trivial | (with_reducible rfl) | apply And.intro | rfl)))
theorem ctlright_con {c : Ctl} (ho : 0 ≤ c.of ∧ c.of ≤ 255) (h0 : 0 ≤ c.kind) (hl : c.sh.rows.length ≤ 1000000) : CallCon Try.prog 21 [ctlT 0 c] [.row (rowsV c.sh.rows) 5 101 false] (.t (.one (.b (okCtl c)))) [] := by
  obtain ⟨kind, of, agent, bkt, gen, peer, ver, ⟨base, to, rows⟩⟩ := c
  by_cases h1 : kind = 1
  · subst h1; exact right1 of agent bkt gen peer ver base to ho rows hl
  by_cases h2 : kind = 2
  · subst h2; exact right2 of agent bkt gen peer ver base to ho rows hl
  by_cases h3 : kind = 3
  · subst h3; exact right3 of agent bkt gen peer ver base to ho rows hl
  by_cases h4 : kind = 4
  · subst h4; exact right4 of agent bkt gen peer ver base to ho rows hl
  by_cases h5 : kind = 5
  · subst h5; exact right5 of agent bkt gen peer ver base to ho rows hl
  by_cases h6 : kind = 6
  · subst h6; exact right6 of agent bkt gen peer ver base to ho rows hl
  rw [decide_eq_false (show ¬ okCtl _ from fun h => by simp only [okCtl] at h; omega)]
  change 0 ≤ kind at h0
  exact ctlright_else kind of agent bkt gen peer ver base to (by omega) h0 rows hl

/-- One whose sheet's rows are a nil slice. -/
def ctlNS (c : Ctl) : List S := [.v (.int .u8 c.kind), .v (.int .u8 c.of), .v (.int .i64 c.agent), .v (.int .i64 c.bkt), .v (.int .i64 c.gen), .v (.int .i64 c.peer), .v (.int .i64 c.ver), .v (.int .i64 c.sh.base), .v (.int .i64 c.sh.to), .v (.slice none 0 0)]
def ctlN (c : Ctl) : T := .agg (ctlNS c)
def ackOk (c : Ctl) : Prop := okCtl c ∧ c.kind ≤ 3
instance (c : Ctl) : Decidable (ackOk c) := by unfold ackOk; infer_instance
def ackC (c : Ctl) : Ctl := if ackOk c then ⟨4, c.kind, c.agent, c.bkt, c.gen, 0, 0, zeroSh⟩ else zeroCtl

theorem ctlack_con {c : Ctl} (ho : 0 ≤ c.of ∧ c.of ≤ 255) (h0 : 0 ≤ c.kind) (hl : c.sh.rows.length ≤ 1000000) : CallCon Try.prog 17 [ctlT 0 c] [.row (rowsV c.sh.rows) 5 101 false] (.tup [ctlN (ackC c), .one (.b (ackOk c))]) [] := by
  have hR := ctlright_con ho h0 hl
  by_cases ha : ackOk c
  · have hR := con_yes hR ha.1
    have hk := ha.2
    rw [decide_eq_true ha, show ackC c = ⟨4, c.kind, c.agent, c.bkt, c.gen, 0, 0, zeroSh⟩ by unfold ackC; rw [if_pos ha]]
    refine con_of_call2 rfl ?_
    refine call_inline Try.func17 rfl rfl ?_
    intro _
    repeat' (first | (refine is_split ?_; refine sp_no (by exact dec_f (by omega)) ?_ <;> (intro u; clear u)) | (refine is_call ?_; refine call_auto (hR) (lets_rfl rfl) (by exact ⟨⟨_, rfl, rfl, rfl⟩, trivial⟩) rfl ?_; intro u; clear u))
    all_goals (refine con_end ?_ rfl; intro u; clear u; refine ⟨rfl, rfl, EntGoal.mk ?_ ?_⟩ <;> (repeat' (first | exact trivial | (with_reducible rfl) | apply And.intro | rfl)))
  · rw [decide_eq_false ha, show ackC c = zeroCtl by unfold ackC; rw [if_neg ha]]
    by_cases hk : c.kind ≤ 3
    · have hR := con_no hR (fun h => ha ⟨h, hk⟩)
      refine con_of_call2 rfl ?_
      refine call_inline Try.func17 rfl rfl ?_
      intro _
      repeat' (first | (refine is_split ?_; refine sp_no (by exact dec_f (by omega)) ?_ <;> (intro u; clear u)) | (refine is_call ?_; refine call_auto (hR) (lets_rfl rfl) (by exact ⟨⟨_, rfl, rfl, rfl⟩, trivial⟩) rfl ?_; intro u; clear u))
      all_goals (refine con_end ?_ rfl; intro u; clear u; refine ⟨rfl, rfl, EntGoal.mk ?_ ?_⟩ <;> (repeat' (first | exact trivial | (with_reducible rfl) | apply And.intro | rfl)))
    · refine con_of_call2 rfl ?_
      refine call_inline Try.func17 rfl rfl ?_
      intro _
      repeat' (refine is_split ?_; refine sp_yes (by exact dec_t (by omega)) ?_ <;> (intro u; clear u))
      all_goals (refine con_end ?_ rfl; intro u; clear u; refine ⟨rfl, rfl, EntGoal.mk ?_ ?_⟩ <;> (repeat' (first | exact trivial | (with_reducible rfl) | apply And.intro | rfl)))
theorem ackC_nil (c : Ctl) : (ackC c).sh = zeroSh := by unfold ackC; split <;> rfl
theorem samen_con {c d : Ctl} (hs : c.sh.rows.length ≤ 1000000) (hd : d.sh.rows = []) : CallCon Try.prog 25 [ctlT 0 c, ctlN d] [.row (rowsV c.sh.rows) 5 101 false] (.t (.one (.b (c = d)))) [] :=
  con_nil [ctlT 0 c, ctlN d] [.row (rowsV c.sh.rows) 5 101 false] (by rw [hd]; rfl) (same_con (c := c) (d := d) hs (by rw [hd]; decide)) (by rw [show ctlT 1 d = .agg [.v (.int .u8 d.kind), .v (.int .u8 d.of), .v (.int .i64 d.agent), .v (.int .i64 d.bkt), .v (.int .i64 d.gen), .v (.int .i64 d.peer), .v (.int .i64 d.ver), .v (.int .i64 d.sh.base), .v (.int .i64 d.sh.to), .sl 1 0 0] by unfold ctlT ctlS; rw [hd]; rfl]; repeat' (first | exact trivial | exact rfl | exact Or.inl rfl | apply And.intro)) rfl
theorem answers_con {a c : Ctl} (hs : a.sh.rows.length ≤ 1000000) (ho : 0 ≤ c.of ∧ c.of ≤ 255) (h0 : 0 ≤ c.kind) (hl : c.sh.rows.length ≤ 1000000) : CallCon Try.prog 23 [ctlT 0 a, ctlT 1 c] [.row (rowsV a.sh.rows) 5 101 false, .row (rowsV c.sh.rows) 5 101 false] (.t (.one (.b (ackOk c ∧ a = ackC c)))) [] := by
  have hA := ctlack_con ho h0 hl
  have hS := samen_con (c := a) (d := ackC c) hs (by rw [ackC_nil]; rfl)
  by_cases ha : ackOk c
  · rw [decide_eq_true ha] at hA
    have hA := con_known2 hA
    rw [show decide (ackOk c ∧ a = ackC c) = decide (a = ackC c) by rw [decide_eq_decide]; exact ⟨fun h => h.2, fun h => ⟨ha, h⟩⟩]
    refine con_of_call2 rfl ?_
    refine call_inline Try.func23 rfl rfl ?_
    intro _
    repeat' (refine is_call ?_; (first | refine call_auto (hA) (lets_rfl rfl) (by exact ⟨⟨_, rfl, rfl, rfl⟩, trivial⟩) rfl ?_ | refine call_auto (hS) (lets_rfl rfl) (by exact ⟨⟨_, rfl, rfl, rfl⟩, trivial⟩) rfl ?_); intro u; clear u)
    all_goals (refine con_end ?_ rfl; intro u; clear u; refine ⟨rfl, rfl, EntGoal.mk ?_ ?_⟩ <;> (repeat' (first | exact trivial | (with_reducible rfl) | apply And.intro | rfl)))
  · rw [decide_eq_false ha] at hA
    have hA := con_known2 hA
    rw [decide_eq_false (fun h => ha h.1 : ¬ (ackOk c ∧ a = ackC c))]
    refine con_of_call2 rfl ?_
    refine call_inline Try.func23 rfl rfl ?_
    intro _
    repeat' (refine is_call ?_; refine call_auto (hA) (lets_rfl rfl) (by exact ⟨⟨_, rfl, rfl, rfl⟩, trivial⟩) rfl ?_; intro u; clear u)
    all_goals (refine con_end ?_ rfl; intro u; clear u; refine ⟨rfl, rfl, EntGoal.mk ?_ ?_⟩ <;> (repeat' (first | exact trivial | (with_reducible rfl) | apply And.intro | rfl)))
end Go.Proofs.S19
