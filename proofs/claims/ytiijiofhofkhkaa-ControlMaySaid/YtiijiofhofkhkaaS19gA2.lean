/- Contracts of functions of the program, or a row of the seat, proved out of them. No condition beyond those that stand in each statement. -/
import Derived.Test.YtiijiofhofkhkaaS19gA1
import Derived.Test.YtiijiofhofkhkaaS19g9Y
namespace Go.Proofs.S19
open Go Go.SE
set_option maxRecDepth 100000
set_option maxHeartbeats 4000000
attribute [local irreducible] specI

theorem cputn_con {c : Ctl} (ho : 0 ≤ c.of ∧ c.of ≤ 255) (h0 : 0 ≤ c.kind) (hd : c.sh.rows = []) : CallCon Try.prog 13 [ctlN c] [] (.tup [.one (.sl 0 0 (cpL c).length), .one (.v (.int .i64 (cpE c)))]) [.row (ints .u8 (cpL c)) 1 5 true] :=
  con_nil [ctlN c] [] (by rw [hd]; rfl) (cput_con (c := c) ho h0 (by rw [hd]; decide)) (by rw [show ctlT 0 c = .agg [.v (.int .u8 c.kind), .v (.int .u8 c.of), .v (.int .i64 c.agent), .v (.int .i64 c.bkt), .v (.int .i64 c.gen), .v (.int .i64 c.peer), .v (.int .i64 c.ver), .v (.int .i64 c.sh.base), .v (.int .i64 c.sh.to), .sl 0 0 0] by unfold ctlT ctlS; rw [hd]; rfl]; repeat' (first | exact trivial | exact rfl | exact Or.inl rfl | apply And.intro)) rfl
theorem ctlackn_con {c : Ctl} (ho : 0 ≤ c.of ∧ c.of ≤ 255) (h0 : 0 ≤ c.kind) (hd : c.sh.rows = []) : CallCon Try.prog 17 [ctlN c] [] (.tup [ctlN (ackC c), .one (.b (ackOk c))]) [] :=
  con_nil [ctlN c] [] (by rw [hd]; rfl) (ctlack_con (c := c) ho h0 (by rw [hd]; decide)) (by rw [show ctlT 0 c = .agg [.v (.int .u8 c.kind), .v (.int .u8 c.of), .v (.int .i64 c.agent), .v (.int .i64 c.bkt), .v (.int .i64 c.gen), .v (.int .i64 c.peer), .v (.int .i64 c.ver), .v (.int .i64 c.sh.base), .v (.int .i64 c.sh.to), .sl 0 0 0] by unfold ctlT ctlS; rw [hd]; rfl]; repeat' (first | exact trivial | exact rfl | exact Or.inl rfl | apply And.intro)) rfl
theorem ownn_con {c : Ctl}  (hd : c.sh.rows = []) : CallCon Try.prog 26 [ctlN c] [] (.t (ctlT 0 c)) [.row (rowsV c.sh.rows) 5 101 true] :=
  con_nil [ctlN c] [] (by rw [hd]; rfl) (own_con (c := c) (by rw [hd]; decide)) (by rw [show ctlT 0 c = .agg [.v (.int .u8 c.kind), .v (.int .u8 c.of), .v (.int .i64 c.agent), .v (.int .i64 c.bkt), .v (.int .i64 c.gen), .v (.int .i64 c.peer), .v (.int .i64 c.ver), .v (.int .i64 c.sh.base), .v (.int .i64 c.sh.to), .sl 0 0 0] by unfold ctlT ctlS; rw [hd]; rfl]; repeat' (first | exact trivial | exact rfl | exact Or.inl rfl | apply And.intro)) rfl
theorem refsamen_con {c d : Ctl} (hs : c.sh.rows.length ≤ 1000000) (hd : d.sh.rows = []) : CallCon Try.prog 20 [ctlT 0 c, ctlN d] [.row (rowsV c.sh.rows) 5 101 false] (.t (.one (.b (c = d)))) [] :=
  con_nil [ctlT 0 c, ctlN d] [.row (rowsV c.sh.rows) 5 101 false] (by rw [hd]; rfl) (refsame_con (c := c) (d := d) hs (by rw [hd]; decide)) (by rw [show ctlT 1 d = .agg [.v (.int .u8 d.kind), .v (.int .u8 d.of), .v (.int .i64 d.agent), .v (.int .i64 d.bkt), .v (.int .i64 d.gen), .v (.int .i64 d.peer), .v (.int .i64 d.ver), .v (.int .i64 d.sh.base), .v (.int .i64 d.sh.to), .sl 1 0 0] by unfold ctlT ctlS; rw [hd]; rfl]; repeat' (first | exact trivial | exact rfl | exact Or.inl rfl | apply And.intro)) rfl
theorem samenn_con {c d : Ctl} (hd : c.sh.rows = []) (hd2 : d.sh.rows = []) : CallCon Try.prog 25 [ctlN c, ctlN d] [] (.t (.one (.b (c = d)))) [] :=
  con_nil [ctlN c, ctlN d] [] (by rw [hd]; rfl) (samen_con (c := c) (d := d) (by rw [hd]; decide) hd2) (by rw [show ctlT 0 c = .agg [.v (.int .u8 c.kind), .v (.int .u8 c.of), .v (.int .i64 c.agent), .v (.int .i64 c.bkt), .v (.int .i64 c.gen), .v (.int .i64 c.peer), .v (.int .i64 c.ver), .v (.int .i64 c.sh.base), .v (.int .i64 c.sh.to), .sl 0 0 0] by unfold ctlT ctlS; rw [hd]; rfl]; repeat' (first | exact trivial | exact rfl | exact Or.inl rfl | apply And.intro)) rfl
theorem refsamenn_con {c d : Ctl} (hd : c.sh.rows = []) (hd2 : d.sh.rows = []) : CallCon Try.prog 20 [ctlN c, ctlN d] [] (.t (.one (.b (c = d)))) [] :=
  con_nil [ctlN c, ctlN d] [] (by rw [hd]; rfl) (refsamen_con (c := c) (d := d) (by rw [hd]; decide) hd2) (by rw [show ctlT 0 c = .agg [.v (.int .u8 c.kind), .v (.int .u8 c.of), .v (.int .i64 c.agent), .v (.int .i64 c.bkt), .v (.int .i64 c.gen), .v (.int .i64 c.peer), .v (.int .i64 c.ver), .v (.int .i64 c.sh.base), .v (.int .i64 c.sh.to), .sl 0 0 0] by unfold ctlT ctlS; rw [hd]; rfl]; repeat' (first | exact trivial | exact rfl | exact Or.inl rfl | apply And.intro)) rfl
theorem answersnn_con {c d : Ctl} (hd : c.sh.rows = []) (ho : 0 ≤ d.of ∧ d.of ≤ 255) (h0 : 0 ≤ d.kind) (hd2 : d.sh.rows = []) : CallCon Try.prog 23 [ctlN c, ctlN d] [] (.t (.one (.b (ackOk d ∧ c = ackC d)))) [] :=
  con_nil [ctlN c, ctlN d] [] (by rw [hd]; rfl) (answersn_con (a := c) (c := d) (by rw [hd]; decide) ho h0 hd2) (by rw [show ctlT 0 c = .agg [.v (.int .u8 c.kind), .v (.int .u8 c.of), .v (.int .i64 c.agent), .v (.int .i64 c.bkt), .v (.int .i64 c.gen), .v (.int .i64 c.peer), .v (.int .i64 c.ver), .v (.int .i64 c.sh.base), .v (.int .i64 c.sh.to), .sl 0 0 0] by unfold ctlT ctlS; rw [hd]; rfl]; repeat' (first | exact trivial | exact rfl | exact Or.inl rfl | apply And.intro)) rfl
theorem samebytes_con {l r : List Int} (hl : Bytes l) (hr : Bytes r) : CallCon Try.prog 19 [.one (.sl 0 0 l.length), .one (.sl 1 0 r.length)] [.row (ints .u8 l) 1 5 false, .row (ints .u8 r) 1 5 false] (.t (.one (.b (l = r)))) [] := by
  refine con_of_call2 rfl ?_
  refine call_inline Try.func19 rfl rfl ?_
  intro _
  repeat' (refine is_asked ?_; refine asked _ (tostr_ask (take_ints _ _) rfl) ?_; intro u; clear u)
  rw [bytes_beq hl hr]
  (refine con_end ?_ rfl; intro u; clear u; refine ⟨rfl, rfl, EntGoal.mk ?_ ?_⟩ <;> (repeat' (first | exact trivial | (with_reducible rfl) | apply And.intro | rfl)))
theorem great_con (c : Ctl) : CallCon Try.prog 11 [ctlT 0 c] [.row (rowsV c.sh.rows) 5 101 false] (.t (.one (.b (40 < c.sh.rows.length)))) [] := by
  refine con_of_call2 rfl ?_
  refine call_inline Try.func11 rfl rfl ?_
  intro _
  repeat' fail
  all_goals (first | (refine end_iff ?_ ?_; (focus (omega)); (refine con_end ?_ rfl; intro u; clear u; refine ⟨rfl, rfl, EntGoal.mk ?_ ?_⟩ <;> (repeat' (first | exact trivial | (with_reducible rfl) | apply And.intro | rfl))); done) | ((refine con_end ?_ rfl; intro u; clear u; refine ⟨rfl, rfl, EntGoal.mk ?_ ?_⟩ <;> (repeat' (first | exact trivial | (with_reducible rfl) | apply And.intro | rfl))); done))
theorem drain_con : CallCon Try.prog 39 [] [] (.t (ctlN ⟨1, 0, 3, 5, 258, 1, 0, zeroSh⟩)) [] := by
  refine con_of_call2 rfl ?_
  refine call_inline Try.func39 rfl rfl ?_
  intro _
  repeat' fail
  (refine con_end ?_ rfl; intro u; clear u; refine ⟨rfl, rfl, EntGoal.mk ?_ ?_⟩ <;> (repeat' (first | exact trivial | (with_reducible rfl) | apply And.intro | rfl)))
theorem bytes_all {l : List Int} (h : (l.all fun x => decide (0 ≤ x ∧ x ≤ 255)) = true) : Bytes l := by
  intro x hx
  have := List.all_eq_true.1 h x hx
  simpa using this
theorem wakes19_con : CallCon Try.prog 12 [] [] (.t (.one (.v (.bool true)))) [] := by
  have h1 := cputn_con (c := ⟨1, 0, 3, 5, 258, 1, 0, zeroSh⟩) (by decide) (by decide) rfl
  rw [show cpL ⟨1, 0, 3, 5, 258, 1, 0, zeroSh⟩ = [1, 3, 5, 0, 0, 1, 2, 2] by decide +kernel, show cpE ⟨1, 0, 3, 5, 258, 1, 0, zeroSh⟩ = 0 by decide +kernel] at h1
  have h2 := ctake_con (b := [1, 3, 5, 0, 0, 1, 2, 2]) (bytes_all (by decide +kernel)) (by decide)
  rw [show tcC [1, 3, 5, 0, 0, 1, 2, 2] = ⟨1, 0, 3, 5, 258, 1, 0, zeroSh⟩ by decide +kernel, show tcE [1, 3, 5, 0, 0, 1, 2, 2] = 0 by decide +kernel] at h2
  have h3 := ctlackn_con (c := ⟨1, 0, 3, 5, 258, 1, 0, zeroSh⟩) (by decide) (by decide) rfl
  rw [show ackC ⟨1, 0, 3, 5, 258, 1, 0, zeroSh⟩ = ⟨4, 1, 3, 5, 258, 0, 0, zeroSh⟩ by decide +kernel, decide_eq_true (show ackOk ⟨1, 0, 3, 5, 258, 1, 0, zeroSh⟩ by decide +kernel)] at h3
  have h3 := con_known2 h3
  have h4 := ctlackn_con (c := ⟨4, 1, 3, 5, 258, 0, 0, zeroSh⟩) (by decide) (by decide) rfl
  rw [show ackC ⟨4, 1, 3, 5, 258, 0, 0, zeroSh⟩ = zeroCtl by decide +kernel, decide_eq_false (show ¬ ackOk ⟨4, 1, 3, 5, 258, 0, 0, zeroSh⟩ by decide +kernel)] at h4
  have h4 := con_known2 h4
  have h5 := cputn_con (c := zeroCtl) (by decide) (by decide) rfl
  rw [show cpL zeroCtl = [] by decide +kernel, show cpE zeroCtl = 2 by decide +kernel] at h5
  have h6 := ctake_con (b := []) (bytes_all (by decide +kernel)) (by decide)
  rw [show tcC [] = zeroCtl by decide +kernel, show tcE [] = 61 by decide +kernel] at h6
  have h6 := con_nil [.one (.v (.slice none 0 0))] [] rfl h6 (by repeat' (first | exact trivial | exact rfl | exact Or.inl rfl | apply And.intro)) rfl
  have h7 := ctake_con (b := [9]) (bytes_all (by decide +kernel)) (by decide)
  rw [show tcC [9] = zeroCtl by decide +kernel, show tcE [9] = 60 by decide +kernel] at h7
  have h8 := ctake_con (b := ([1, 3, 5, 0, 0, 1, 2, 2].take 7)) (bytes_all (by decide +kernel)) (by decide)
  rw [show tcC ([1, 3, 5, 0, 0, 1, 2, 2].take 7) = zeroCtl by decide +kernel, show tcE ([1, 3, 5, 0, 0, 1, 2, 2].take 7) = 61 by decide +kernel] at h8
  have h8 := con_take (xs := ints .u8 [1, 3, 5, 0, 0, 1, 2, 2]) 7 h8
  have h9 := ctake_con (b := ([1, 3, 5, 0, 0, 1, 2, 2] ++ [0])) (bytes_all (by decide +kernel)) (by decide)
  rw [show tcC ([1, 3, 5, 0, 0, 1, 2, 2] ++ [0]) = zeroCtl by decide +kernel, show tcE ([1, 3, 5, 0, 0, 1, 2, 2] ++ [0]) = 60 by decide +kernel] at h9
  have h10 := con_yes (samebytes_con (l := [1, 3, 5, 0, 0, 1, 2, 2]) (r := [1, 3, 5, 0, 0, 1, 2, 2]) (bytes_all (by decide +kernel)) (bytes_all (by decide +kernel))) rfl
  have h11 := con_yes (refsamen_con (c := ⟨1, 0, 3, 5, 258, 1, 0, zeroSh⟩) (d := ⟨1, 0, 3, 5, 258, 1, 0, zeroSh⟩) (by decide) rfl) rfl
  have h12 := con_yes (answersnn_con (c := ⟨4, 1, 3, 5, 258, 0, 0, zeroSh⟩) (d := ⟨1, 0, 3, 5, 258, 1, 0, zeroSh⟩) rfl (by decide) (by decide) rfl) (by decide +kernel)
  have h13 := con_no (answersnn_con (c := ⟨4, 1, 3, 5, 258, 0, 0, zeroSh⟩) (d := ⟨3, 0, 3, 5, 258, 0, 0, zeroSh⟩) rfl (by decide) (by decide) rfl) (by decide +kernel)
  have h14 := con_yes (ctlrightn_con (c := ⟨3, 0, 3, 5, 258, 0, 0, zeroSh⟩) (by decide) (by decide) rfl) (by decide +kernel)
  have h15 := con_no (ctlrightn_con (c := ⟨1, 0, 0, 0, 0, 0, 0, zeroSh⟩) (by decide) (by decide) rfl) (by decide +kernel)
  have h16 := ownn_con (c := ⟨4, 1, 3, 5, 258, 0, 0, zeroSh⟩) rfl
  have h17 := con_yes (samen_con (c := ⟨4, 1, 3, 5, 258, 0, 0, zeroSh⟩) (d := ⟨4, 1, 3, 5, 258, 0, 0, zeroSh⟩) (by decide) rfl) rfl
  have h18 := con_no (samenn_con (c := ⟨4, 1, 3, 5, 258, 0, 0, zeroSh⟩) (d := ⟨3, 0, 3, 5, 258, 0, 0, zeroSh⟩) rfl rfl) (by decide +kernel)
  refine con_of_call2 rfl ?_
  refine call_inline Try.func12 rfl rfl ?_
  intro _
  repeat' (first | (refine is_split ?_; refine sp_yes (by rfl) ?_ <;> (intro u; clear u)) | (refine is_asked ?_; (first | (refine asked _ (slice_at 0 7 (by rfl) (by rfl) (by decide) (by decide)) ?_) | refine asked _ (append_ask rfl rfl (by decide) (by decide)) ?_); intro u; clear u) | (refine is_draw ?_; refine draw_step mixed (by kernel_rfl) ?_; intro u; clear u) | (refine is_call ?_; (first | refine call_auto (drain_con) (lets_rfl rfl) (by exact trivial) rfl ?_ | refine call_auto (h1) (lets_rfl rfl) (by exact trivial) rfl ?_ | refine call_auto (h2) (lets_rfl rfl) (by exact ⟨⟨_, rfl, rfl, rfl⟩, trivial⟩) rfl ?_ | refine call_auto (h3) (lets_rfl rfl) (by exact trivial) rfl ?_ | refine call_auto (h4) (lets_rfl rfl) (by exact trivial) rfl ?_ | refine call_le (by (repeat' (first | exact trivial | apply And.intro | exact rfl)); (first | done | fail)) (h5) (by exact trivial) rfl ?_ | refine call_auto (h6) (lets_rfl rfl) (by exact trivial) rfl ?_ | refine call_auto (h7) (lets_rfl rfl) (by exact ⟨⟨_, rfl, rfl, rfl⟩, trivial⟩) rfl ?_ | refine call_auto (h8) (lets_rfl rfl) (by exact ⟨⟨_, rfl, rfl, rfl⟩, trivial⟩) rfl ?_ | refine call_auto (h9) (lets_rfl rfl) (by exact ⟨⟨_, rfl, rfl, rfl⟩, trivial⟩) rfl ?_); intro u; clear u) | (refine is_dcall ?_; (first | refine dcall_auto (drain_con) (lets_rfl rfl) (by exact trivial) rfl ?_ | refine dcall_auto (h10) (lets_rfl rfl) (by exact ⟨⟨_, rfl, rfl, rfl⟩, ⟨_, rfl, rfl, rfl⟩, trivial⟩) rfl ?_ | refine dcall_auto (h11) (lets_rfl rfl) (by exact ⟨⟨_, rfl, rfl, rfl⟩, trivial⟩) rfl ?_ | refine dcall_auto (h12) (lets_rfl rfl) (by exact trivial) rfl ?_ | refine dcall_le (by (repeat' (first | exact trivial | apply And.intro | exact rfl)); (first | done | fail)) (h13) (by exact trivial) rfl ?_ | refine dcall_le (by (repeat' (first | exact trivial | apply And.intro | exact rfl)); (first | done | fail)) (h14) (by exact trivial) rfl ?_ | refine dcall_le (by (repeat' (first | exact trivial | apply And.intro | exact rfl)); (first | done | fail)) (h15) (by exact trivial) rfl ?_ | refine dcall_auto (h16) (lets_rfl rfl) (by exact trivial) rfl ?_ | refine dcall_auto (h17) (lets_rfl rfl) (by exact ⟨⟨_, rfl, rfl, rfl⟩, trivial⟩) rfl ?_ | refine dcall_le (by (repeat' (first | exact trivial | apply And.intro | exact rfl)); (first | done | fail)) (h18) (by exact trivial) rfl ?_); intro u; clear u))
  all_goals (first | ((refine con_end ?_ rfl; intro u; clear u; refine ⟨rfl, rfl, EntGoal.mk ?_ ?_⟩ <;> (repeat' (first | exact trivial | (with_reducible rfl) | apply And.intro | rfl))); done))
end Go.Proofs.S19
