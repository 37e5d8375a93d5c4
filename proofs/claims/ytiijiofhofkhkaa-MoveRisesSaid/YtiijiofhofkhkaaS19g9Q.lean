/- Contracts of functions of the program, or a row of the seat, proved out of them. No condition beyond those that stand in each statement. -/
import Derived.Test.YtiijiofhofkhkaaS19g9P
namespace Go.Proofs.S19
open Go Go.SE
set_option maxRecDepth 100000
set_option maxHeartbeats 4000000
attribute [local irreducible] specI

theorem op_right {m : Mv} {b : Int} (h : opOk m b) : ackOk (opC m b) := by
  obtain ⟨ph, cur, to, gen, tick, ver⟩ := m
  have h1 := h.1
  have h2 := h.2.1
  have h3 := h.2.2
  rw [opC_yes h]
  simp only [okMv] at h1 h2
  rcases h2 with rfl | rfl | rfl | rfl <;> (simp [opRaw, ackOk, okCtl, zeroSh]; omega)
def mvAckP (m : Mv) (b : Int) (a : Ctl) (now : Int) : Prop := opOk m b ∧ (0 ≤ now ∧ now ≤ 1099511627776) ∧ a = ackC (opC m b)
instance (m : Mv) (b : Int) (a : Ctl) (now : Int) : Decidable (mvAckP m b a now) := by unfold mvAckP; infer_instance
def mvNext (m : Mv) (now : Int) : Mv := if m.ph = 2 then ⟨3, m.cur, m.to, m.gen, now, m.ver⟩ else if m.ph = 3 then ⟨4, m.cur, m.to, m.gen, m.tick, m.ver⟩ else if m.ph = 5 then seM m m.to else ⟨1, m.to, -1, m.gen, m.tick, m.ver⟩
def mvAckM (m : Mv) (b : Int) (a : Ctl) (now : Int) : Mv := if mvAckP m b a now then mvNext m now else m
def mvAckB (m : Mv) (b : Int) (a : Ctl) (now : Int) : Prop := mvAckP m b a now ∧ (m.ph = 5 → seE m m.to = 0)
instance (m : Mv) (b : Int) (a : Ctl) (now : Int) : Decidable (mvAckB m b a now) := by unfold mvAckB; infer_instance
theorem end_iff2 {p q : Prop} [Decidable p] [Decidable q] {x y : T} {m : M} (hp : p ↔ q) (h : ConEnd2 (.tup [x, .one (.b (decide q))]) [] (.tup [y, .one (.b (decide q))]) m) : ConEnd2 (.tup [x, .one (.b (decide p))]) [] (.tup [y, .one (.b (decide q))]) m := by
  rw [show decide p = decide q from decide_eq_decide.2 hp]; exact h
theorem ackM_yes {m : Mv} {b : Int} {a : Ctl} {now : Int} (h : mvAckP m b a now) : mvAckM m b a now = mvNext m now := if_pos h
theorem ackM_no {m : Mv} {b : Int} {a : Ctl} {now : Int} (h : ¬ mvAckP m b a now) : mvAckM m b a now = m := if_neg h

theorem ack2 (cur to gen tick ver b now : Int) (a : Ctl) (hs : a.sh.rows.length ≤ 1000000) : CallCon Try.prog 33 [.agg [.v (.int .u8 2), .v (.int .i64 cur), .v (.int .i64 to), .v (.int .i64 gen), .v (.int .i64 tick), .v (.int .i64 ver)], .one (.v (.int .i64 b)), ctlT 0 a, .one (.v (.int .i64 now))] [.row (rowsV a.sh.rows) 5 101 false] (.tup [mvT (mvAckM ⟨2, cur, to, gen, tick, ver⟩ b a now), .one (.b (mvAckB ⟨2, cur, to, gen, tick, ver⟩ b a now))]) [] := by
  have hO := open_con ⟨2, cur, to, gen, tick, ver⟩ b (by show (0 : Int) ≤ 2; decide)
  by_cases c0 : opOk ⟨2, cur, to, gen, tick, ver⟩ b
  · rw [decide_eq_true c0] at hO
    have hO := con_known2 hO
    have hA := answersn_con (a := a) (c := opC ⟨2, cur, to, gen, tick, ver⟩ b) hs (by rw [opC_of]; decide) (opC_kind _ _) (by rw [opC_nil]; rfl)
    by_cases c1 : (0 ≤ now ∧ now ≤ 1099511627776)
    · by_cases c2 : a = ackC (opC ⟨2, cur, to, gen, tick, ver⟩ b)
      · have hA := con_yes hA ⟨op_right c0, c2⟩
        have hp : mvAckP ⟨2, cur, to, gen, tick, ver⟩ b a now := ⟨c0, c1, c2⟩
        generalize opC ⟨2, cur, to, gen, tick, ver⟩ b = oc at hO hA
        rw [ackM_yes hp, show mvNext ⟨2, cur, to, gen, tick, ver⟩ now = ⟨3, cur, to, gen, now, ver⟩ from rfl, decide_eq_true (show mvAckB ⟨2, cur, to, gen, tick, ver⟩ b a now from ⟨hp, fun h => absurd h (by show ¬ ((2 : Int) = 5); decide)⟩)]
        refine con_of_call2 rfl ?_
        refine call_inline Try.func33 rfl rfl ?_
        intro _
        repeat' (first | (refine is_split ?_; (first | refine sp_yes (by exact dec_t (by omega)) ?_ | refine sp_no (by exact ndec_f (by omega)) ?_) <;> (intro u; clear u)) | (refine is_asked ?_; (refine asked (some 2, _) ⟨⟨rfl, by omega, by omega⟩, rfl⟩ ?_); intro u; clear u) | (refine is_draw ?_; refine draw_step mixed (by kernel_rfl) ?_; intro u; clear u) | (refine is_call ?_; (first | refine call_auto (hO) (lets_rfl rfl) (by exact trivial) rfl ?_ | refine call_auto (hA) (lets_rfl rfl) (by exact ⟨⟨_, rfl, rfl, rfl⟩, trivial⟩) rfl ?_ | refine call_inline Try.func65 rfl rfl ?_ | refine call_inline Try.func66 rfl rfl ?_); intro u; clear u))
        all_goals (first | ((refine con_end ?_ rfl; intro u; clear u; refine ⟨rfl, rfl, EntGoal.mk ?_ ?_⟩ <;> (repeat' (first | exact trivial | (with_reducible rfl) | apply And.intro | rfl))); done))
      · have hA := con_no hA (fun h => c2 h.2)
        have hp : ¬ mvAckP ⟨2, cur, to, gen, tick, ver⟩ b a now := fun h => c2 h.2.2
        generalize opC ⟨2, cur, to, gen, tick, ver⟩ b = oc at hO hA
        rw [ackM_no hp, decide_eq_false (show ¬ mvAckB ⟨2, cur, to, gen, tick, ver⟩ b a now from fun h => hp h.1)]
        refine con_of_call2 rfl ?_
        refine call_inline Try.func33 rfl rfl ?_
        intro _
        repeat' (first | (refine is_split ?_; (first | refine sp_yes (by exact dec_t (by omega)) ?_ | refine sp_no (by exact ndec_f (by omega)) ?_) <;> (intro u; clear u)) | (refine is_call ?_; (first | refine call_auto (hO) (lets_rfl rfl) (by exact trivial) rfl ?_ | refine call_auto (hA) (lets_rfl rfl) (by exact ⟨⟨_, rfl, rfl, rfl⟩, trivial⟩) rfl ?_ | refine call_inline Try.func65 rfl rfl ?_); intro u; clear u))
        all_goals (first | ((refine con_end ?_ rfl; intro u; clear u; refine ⟨rfl, rfl, EntGoal.mk ?_ ?_⟩ <;> (repeat' (first | exact trivial | (with_reducible rfl) | apply And.intro | rfl))); done))
    · have hp : ¬ mvAckP ⟨2, cur, to, gen, tick, ver⟩ b a now := fun h => c1 h.2.1
      generalize opC ⟨2, cur, to, gen, tick, ver⟩ b = oc at hO hA
      rw [ackM_no hp, decide_eq_false (show ¬ mvAckB ⟨2, cur, to, gen, tick, ver⟩ b a now from fun h => hp h.1)]
      refine con_of_call2 rfl ?_
      refine call_inline Try.func33 rfl rfl ?_
      intro _
      repeat' (first | (refine is_split ?_; (first | refine sp_yes (by exact ndec_t (by omega)) ?_ | refine sp_dec (fun g => ?_) (fun g => ?_)) <;> (intro u; clear u)) | (refine is_call ?_; (first | refine call_auto (hO) (lets_rfl rfl) (by exact trivial) rfl ?_ | refine call_inline Try.func65 rfl rfl ?_); intro u; clear u))
      all_goals (first | ((refine con_end ?_ rfl; intro u; clear u; refine ⟨rfl, rfl, EntGoal.mk ?_ ?_⟩ <;> (repeat' (first | exact trivial | (with_reducible rfl) | apply And.intro | rfl))); done))
  · rw [decide_eq_false c0] at hO
    have hO := con_known2 hO
    have hp : ¬ mvAckP ⟨2, cur, to, gen, tick, ver⟩ b a now := fun h => c0 h.1
    generalize opC ⟨2, cur, to, gen, tick, ver⟩ b = oc at hO
    rw [ackM_no hp, decide_eq_false (show ¬ mvAckB ⟨2, cur, to, gen, tick, ver⟩ b a now from fun h => hp h.1)]
    refine con_of_call2 rfl ?_
    refine call_inline Try.func33 rfl rfl ?_
    intro _
    repeat' (refine is_call ?_; refine call_auto (hO) (lets_rfl rfl) (by exact trivial) rfl ?_; intro u; clear u)
    all_goals (first | ((refine con_end ?_ rfl; intro u; clear u; refine ⟨rfl, rfl, EntGoal.mk ?_ ?_⟩ <;> (repeat' (first | exact trivial | (with_reducible rfl) | apply And.intro | rfl))); done))
theorem ack3 (cur to gen tick ver b now : Int) (a : Ctl) (hs : a.sh.rows.length ≤ 1000000) : CallCon Try.prog 33 [.agg [.v (.int .u8 3), .v (.int .i64 cur), .v (.int .i64 to), .v (.int .i64 gen), .v (.int .i64 tick), .v (.int .i64 ver)], .one (.v (.int .i64 b)), ctlT 0 a, .one (.v (.int .i64 now))] [.row (rowsV a.sh.rows) 5 101 false] (.tup [mvT (mvAckM ⟨3, cur, to, gen, tick, ver⟩ b a now), .one (.b (mvAckB ⟨3, cur, to, gen, tick, ver⟩ b a now))]) [] := by
  have hO := open_con ⟨3, cur, to, gen, tick, ver⟩ b (by show (0 : Int) ≤ 3; decide)
  by_cases c0 : opOk ⟨3, cur, to, gen, tick, ver⟩ b
  · rw [decide_eq_true c0] at hO
    have hO := con_known2 hO
    have hA := answersn_con (a := a) (c := opC ⟨3, cur, to, gen, tick, ver⟩ b) hs (by rw [opC_of]; decide) (opC_kind _ _) (by rw [opC_nil]; rfl)
    by_cases c1 : (0 ≤ now ∧ now ≤ 1099511627776)
    · by_cases c2 : a = ackC (opC ⟨3, cur, to, gen, tick, ver⟩ b)
      · have hA := con_yes hA ⟨op_right c0, c2⟩
        have hp : mvAckP ⟨3, cur, to, gen, tick, ver⟩ b a now := ⟨c0, c1, c2⟩
        generalize opC ⟨3, cur, to, gen, tick, ver⟩ b = oc at hO hA
        rw [ackM_yes hp, show mvNext ⟨3, cur, to, gen, tick, ver⟩ now = ⟨4, cur, to, gen, tick, ver⟩ from rfl, decide_eq_true (show mvAckB ⟨3, cur, to, gen, tick, ver⟩ b a now from ⟨hp, fun h => absurd h (by show ¬ ((3 : Int) = 5); decide)⟩)]
        refine con_of_call2 rfl ?_
        refine call_inline Try.func33 rfl rfl ?_
        intro _
        repeat' (first | (refine is_split ?_; (first | refine sp_yes (by exact dec_t (by omega)) ?_ | refine sp_no (by exact ndec_f (by omega)) ?_) <;> (intro u; clear u)) | (refine is_asked ?_; (refine asked (some 3, _) ⟨⟨rfl, by omega, by omega⟩, rfl⟩ ?_); intro u; clear u) | (refine is_call ?_; (first | refine call_auto (hO) (lets_rfl rfl) (by exact trivial) rfl ?_ | refine call_auto (hA) (lets_rfl rfl) (by exact ⟨⟨_, rfl, rfl, rfl⟩, trivial⟩) rfl ?_ | refine call_inline Try.func65 rfl rfl ?_ | refine call_inline Try.func67 rfl rfl ?_); intro u; clear u))
        all_goals (first | ((refine con_end ?_ rfl; intro u; clear u; refine ⟨rfl, rfl, EntGoal.mk ?_ ?_⟩ <;> (repeat' (first | exact trivial | (with_reducible rfl) | apply And.intro | rfl))); done))
      · have hA := con_no hA (fun h => c2 h.2)
        have hp : ¬ mvAckP ⟨3, cur, to, gen, tick, ver⟩ b a now := fun h => c2 h.2.2
        generalize opC ⟨3, cur, to, gen, tick, ver⟩ b = oc at hO hA
        rw [ackM_no hp, decide_eq_false (show ¬ mvAckB ⟨3, cur, to, gen, tick, ver⟩ b a now from fun h => hp h.1)]
        refine con_of_call2 rfl ?_
        refine call_inline Try.func33 rfl rfl ?_
        intro _
        repeat' (first | (refine is_split ?_; (first | refine sp_yes (by exact dec_t (by omega)) ?_ | refine sp_no (by exact ndec_f (by omega)) ?_) <;> (intro u; clear u)) | (refine is_call ?_; (first | refine call_auto (hO) (lets_rfl rfl) (by exact trivial) rfl ?_ | refine call_auto (hA) (lets_rfl rfl) (by exact ⟨⟨_, rfl, rfl, rfl⟩, trivial⟩) rfl ?_ | refine call_inline Try.func65 rfl rfl ?_); intro u; clear u))
        all_goals (first | ((refine con_end ?_ rfl; intro u; clear u; refine ⟨rfl, rfl, EntGoal.mk ?_ ?_⟩ <;> (repeat' (first | exact trivial | (with_reducible rfl) | apply And.intro | rfl))); done))
    · have hp : ¬ mvAckP ⟨3, cur, to, gen, tick, ver⟩ b a now := fun h => c1 h.2.1
      generalize opC ⟨3, cur, to, gen, tick, ver⟩ b = oc at hO hA
      rw [ackM_no hp, decide_eq_false (show ¬ mvAckB ⟨3, cur, to, gen, tick, ver⟩ b a now from fun h => hp h.1)]
      refine con_of_call2 rfl ?_
      refine call_inline Try.func33 rfl rfl ?_
      intro _
      repeat' (first | (refine is_split ?_; (first | refine sp_yes (by exact ndec_t (by omega)) ?_ | refine sp_dec (fun g => ?_) (fun g => ?_)) <;> (intro u; clear u)) | (refine is_call ?_; (first | refine call_auto (hO) (lets_rfl rfl) (by exact trivial) rfl ?_ | refine call_inline Try.func65 rfl rfl ?_); intro u; clear u))
      all_goals (first | ((refine con_end ?_ rfl; intro u; clear u; refine ⟨rfl, rfl, EntGoal.mk ?_ ?_⟩ <;> (repeat' (first | exact trivial | (with_reducible rfl) | apply And.intro | rfl))); done))
  · rw [decide_eq_false c0] at hO
    have hO := con_known2 hO
    have hp : ¬ mvAckP ⟨3, cur, to, gen, tick, ver⟩ b a now := fun h => c0 h.1
    generalize opC ⟨3, cur, to, gen, tick, ver⟩ b = oc at hO
    rw [ackM_no hp, decide_eq_false (show ¬ mvAckB ⟨3, cur, to, gen, tick, ver⟩ b a now from fun h => hp h.1)]
    refine con_of_call2 rfl ?_
    refine call_inline Try.func33 rfl rfl ?_
    intro _
    repeat' (refine is_call ?_; refine call_auto (hO) (lets_rfl rfl) (by exact trivial) rfl ?_; intro u; clear u)
    all_goals (first | ((refine con_end ?_ rfl; intro u; clear u; refine ⟨rfl, rfl, EntGoal.mk ?_ ?_⟩ <;> (repeat' (first | exact trivial | (with_reducible rfl) | apply And.intro | rfl))); done))
theorem ack5 (cur to gen tick ver b now : Int) (a : Ctl) (hs : a.sh.rows.length ≤ 1000000) : CallCon Try.prog 33 [.agg [.v (.int .u8 5), .v (.int .i64 cur), .v (.int .i64 to), .v (.int .i64 gen), .v (.int .i64 tick), .v (.int .i64 ver)], .one (.v (.int .i64 b)), ctlT 0 a, .one (.v (.int .i64 now))] [.row (rowsV a.sh.rows) 5 101 false] (.tup [mvT (mvAckM ⟨5, cur, to, gen, tick, ver⟩ b a now), .one (.b (mvAckB ⟨5, cur, to, gen, tick, ver⟩ b a now))]) [] := by
  have hO := open_con ⟨5, cur, to, gen, tick, ver⟩ b (by show (0 : Int) ≤ 5; decide)
  by_cases c0 : opOk ⟨5, cur, to, gen, tick, ver⟩ b
  · rw [decide_eq_true c0] at hO
    have hO := con_known2 hO
    have hA := answersn_con (a := a) (c := opC ⟨5, cur, to, gen, tick, ver⟩ b) hs (by rw [opC_of]; decide) (opC_kind _ _) (by rw [opC_nil]; rfl)
    by_cases c1 : (0 ≤ now ∧ now ≤ 1099511627776)
    · by_cases c2 : a = ackC (opC ⟨5, cur, to, gen, tick, ver⟩ b)
      · have hA := con_yes hA ⟨op_right c0, c2⟩
        have hp : mvAckP ⟨5, cur, to, gen, tick, ver⟩ b a now := ⟨c0, c1, c2⟩
        generalize opC ⟨5, cur, to, gen, tick, ver⟩ b = oc at hO hA
        have hS := se_con ⟨5, cur, to, gen, tick, ver⟩ to (by show (0 : Int) ≤ 5; decide)
        rw [ackM_yes hp, show mvNext ⟨5, cur, to, gen, tick, ver⟩ now = seM ⟨5, cur, to, gen, tick, ver⟩ to from rfl]
        by_cases c3 : seE ⟨5, cur, to, gen, tick, ver⟩ to = 0
        · rw [decide_eq_true (show mvAckB ⟨5, cur, to, gen, tick, ver⟩ b a now from ⟨hp, fun _ => c3⟩)]
          rw [c3] at hS
          generalize seM ⟨5, cur, to, gen, tick, ver⟩ to = mm at hS ⊢
          refine con_of_call2 rfl ?_
          refine call_inline Try.func33 rfl rfl ?_
          intro _
          repeat' (first | (refine is_split ?_; (first | refine sp_yes (by exact dec_t (by omega)) ?_ | refine sp_no (by exact ndec_f (by omega)) ?_) <;> (intro u; clear u)) | (refine is_asked ?_; (refine asked (some 5, _) ⟨⟨rfl, by omega, by omega⟩, rfl⟩ ?_); intro u; clear u) | (refine is_call ?_; (first | refine call_auto (hO) (lets_rfl rfl) (by exact trivial) rfl ?_ | refine call_auto (hA) (lets_rfl rfl) (by exact ⟨⟨_, rfl, rfl, rfl⟩, trivial⟩) rfl ?_ | refine call_inline Try.func65 rfl rfl ?_ | refine call_inline Try.func68 rfl rfl ?_ | refine call_auto (hS) (lets_rfl rfl) (by exact trivial) rfl ?_); intro u; clear u))
          all_goals (first | ((refine con_end ?_ rfl; intro u; clear u; refine ⟨rfl, rfl, EntGoal.mk ?_ ?_⟩ <;> (repeat' (first | exact trivial | (with_reducible rfl) | apply And.intro | rfl))); done))
        · have c4 := c3
          generalize seM ⟨5, cur, to, gen, tick, ver⟩ to = mm at hS ⊢
          generalize seE ⟨5, cur, to, gen, tick, ver⟩ to = ee at hS c3
          refine con_of_call2 rfl ?_
          refine call_inline Try.func33 rfl rfl ?_
          intro _
          repeat' (first | (refine is_split ?_; (first | refine sp_yes (by exact dec_t (by omega)) ?_ | refine sp_no (by exact ndec_f (by omega)) ?_) <;> (intro u; clear u)) | (refine is_asked ?_; (refine asked (some 5, _) ⟨⟨rfl, by omega, by omega⟩, rfl⟩ ?_); intro u; clear u) | (refine is_call ?_; (first | refine call_auto (hO) (lets_rfl rfl) (by exact trivial) rfl ?_ | refine call_auto (hA) (lets_rfl rfl) (by exact ⟨⟨_, rfl, rfl, rfl⟩, trivial⟩) rfl ?_ | refine call_inline Try.func65 rfl rfl ?_ | refine call_inline Try.func68 rfl rfl ?_ | refine call_auto (hS) (lets_rfl rfl) (by exact trivial) rfl ?_); intro u; clear u))
          all_goals (refine end_iff2 ?_ ?_; (focus (exact ⟨fun h => absurd (h.2 rfl) c4, fun h => absurd h c3⟩)); (refine con_end ?_ rfl; intro u; clear u; refine ⟨rfl, rfl, EntGoal.mk ?_ ?_⟩ <;> (repeat' (first | exact trivial | (with_reducible rfl) | apply And.intro | rfl))))
      · have hA := con_no hA (fun h => c2 h.2)
        have hp : ¬ mvAckP ⟨5, cur, to, gen, tick, ver⟩ b a now := fun h => c2 h.2.2
        generalize opC ⟨5, cur, to, gen, tick, ver⟩ b = oc at hO hA
        rw [ackM_no hp, decide_eq_false (show ¬ mvAckB ⟨5, cur, to, gen, tick, ver⟩ b a now from fun h => hp h.1)]
        refine con_of_call2 rfl ?_
        refine call_inline Try.func33 rfl rfl ?_
        intro _
        repeat' (first | (refine is_split ?_; (first | refine sp_yes (by exact dec_t (by omega)) ?_ | refine sp_no (by exact ndec_f (by omega)) ?_) <;> (intro u; clear u)) | (refine is_call ?_; (first | refine call_auto (hO) (lets_rfl rfl) (by exact trivial) rfl ?_ | refine call_auto (hA) (lets_rfl rfl) (by exact ⟨⟨_, rfl, rfl, rfl⟩, trivial⟩) rfl ?_ | refine call_inline Try.func65 rfl rfl ?_); intro u; clear u))
        all_goals (first | ((refine con_end ?_ rfl; intro u; clear u; refine ⟨rfl, rfl, EntGoal.mk ?_ ?_⟩ <;> (repeat' (first | exact trivial | (with_reducible rfl) | apply And.intro | rfl))); done))
    · have hp : ¬ mvAckP ⟨5, cur, to, gen, tick, ver⟩ b a now := fun h => c1 h.2.1
      generalize opC ⟨5, cur, to, gen, tick, ver⟩ b = oc at hO hA
      rw [ackM_no hp, decide_eq_false (show ¬ mvAckB ⟨5, cur, to, gen, tick, ver⟩ b a now from fun h => hp h.1)]
      refine con_of_call2 rfl ?_
      refine call_inline Try.func33 rfl rfl ?_
      intro _
      repeat' (first | (refine is_split ?_; (first | refine sp_yes (by exact ndec_t (by omega)) ?_ | refine sp_dec (fun g => ?_) (fun g => ?_)) <;> (intro u; clear u)) | (refine is_call ?_; (first | refine call_auto (hO) (lets_rfl rfl) (by exact trivial) rfl ?_ | refine call_inline Try.func65 rfl rfl ?_); intro u; clear u))
      all_goals (first | ((refine con_end ?_ rfl; intro u; clear u; refine ⟨rfl, rfl, EntGoal.mk ?_ ?_⟩ <;> (repeat' (first | exact trivial | (with_reducible rfl) | apply And.intro | rfl))); done))
  · rw [decide_eq_false c0] at hO
    have hO := con_known2 hO
    have hp : ¬ mvAckP ⟨5, cur, to, gen, tick, ver⟩ b a now := fun h => c0 h.1
    generalize opC ⟨5, cur, to, gen, tick, ver⟩ b = oc at hO
    rw [ackM_no hp, decide_eq_false (show ¬ mvAckB ⟨5, cur, to, gen, tick, ver⟩ b a now from fun h => hp h.1)]
    refine con_of_call2 rfl ?_
    refine call_inline Try.func33 rfl rfl ?_
    intro _
    repeat' (refine is_call ?_; refine call_auto (hO) (lets_rfl rfl) (by exact trivial) rfl ?_; intro u; clear u)
    all_goals (first | ((refine con_end ?_ rfl; intro u; clear u; refine ⟨rfl, rfl, EntGoal.mk ?_ ?_⟩ <;> (repeat' (first | exact trivial | (with_reducible rfl) | apply And.intro | rfl))); done))
theorem ack6 (cur to gen tick ver b now : Int) (a : Ctl) (hs : a.sh.rows.length ≤ 1000000) : CallCon Try.prog 33 [.agg [.v (.int .u8 6), .v (.int .i64 cur), .v (.int .i64 to), .v (.int .i64 gen), .v (.int .i64 tick), .v (.int .i64 ver)], .one (.v (.int .i64 b)), ctlT 0 a, .one (.v (.int .i64 now))] [.row (rowsV a.sh.rows) 5 101 false] (.tup [mvT (mvAckM ⟨6, cur, to, gen, tick, ver⟩ b a now), .one (.b (mvAckB ⟨6, cur, to, gen, tick, ver⟩ b a now))]) [] := by
  have hO := open_con ⟨6, cur, to, gen, tick, ver⟩ b (by show (0 : Int) ≤ 6; decide)
  by_cases c0 : opOk ⟨6, cur, to, gen, tick, ver⟩ b
  · rw [decide_eq_true c0] at hO
    have hO := con_known2 hO
    have hA := answersn_con (a := a) (c := opC ⟨6, cur, to, gen, tick, ver⟩ b) hs (by rw [opC_of]; decide) (opC_kind _ _) (by rw [opC_nil]; rfl)
    by_cases c1 : (0 ≤ now ∧ now ≤ 1099511627776)
    · by_cases c2 : a = ackC (opC ⟨6, cur, to, gen, tick, ver⟩ b)
      · have hA := con_yes hA ⟨op_right c0, c2⟩
        have hp : mvAckP ⟨6, cur, to, gen, tick, ver⟩ b a now := ⟨c0, c1, c2⟩
        generalize opC ⟨6, cur, to, gen, tick, ver⟩ b = oc at hO hA
        rw [ackM_yes hp, show mvNext ⟨6, cur, to, gen, tick, ver⟩ now = ⟨1, to, -1, gen, tick, ver⟩ from rfl, decide_eq_true (show mvAckB ⟨6, cur, to, gen, tick, ver⟩ b a now from ⟨hp, fun h => absurd h (by show ¬ ((6 : Int) = 5); decide)⟩)]
        refine con_of_call2 rfl ?_
        refine call_inline Try.func33 rfl rfl ?_
        intro _
        repeat' (first | (refine is_split ?_; (first | refine sp_yes (by exact dec_t (by omega)) ?_ | refine sp_no (by exact ndec_f (by omega)) ?_) <;> (intro u; clear u)) | (refine is_asked ?_; (refine asked (some 6, _) ⟨⟨rfl, by omega, by omega⟩, rfl⟩ ?_); intro u; clear u) | (refine is_call ?_; (first | refine call_auto (hO) (lets_rfl rfl) (by exact trivial) rfl ?_ | refine call_auto (hA) (lets_rfl rfl) (by exact ⟨⟨_, rfl, rfl, rfl⟩, trivial⟩) rfl ?_ | refine call_inline Try.func65 rfl rfl ?_ | refine call_inline Try.func69 rfl rfl ?_); intro u; clear u))
        all_goals (first | ((refine con_end ?_ rfl; intro u; clear u; refine ⟨rfl, rfl, EntGoal.mk ?_ ?_⟩ <;> (repeat' (first | exact trivial | (with_reducible rfl) | apply And.intro | rfl))); done))
      · have hA := con_no hA (fun h => c2 h.2)
        have hp : ¬ mvAckP ⟨6, cur, to, gen, tick, ver⟩ b a now := fun h => c2 h.2.2
        generalize opC ⟨6, cur, to, gen, tick, ver⟩ b = oc at hO hA
        rw [ackM_no hp, decide_eq_false (show ¬ mvAckB ⟨6, cur, to, gen, tick, ver⟩ b a now from fun h => hp h.1)]
        refine con_of_call2 rfl ?_
        refine call_inline Try.func33 rfl rfl ?_
        intro _
        repeat' (first | (refine is_split ?_; (first | refine sp_yes (by exact dec_t (by omega)) ?_ | refine sp_no (by exact ndec_f (by omega)) ?_) <;> (intro u; clear u)) | (refine is_call ?_; (first | refine call_auto (hO) (lets_rfl rfl) (by exact trivial) rfl ?_ | refine call_auto (hA) (lets_rfl rfl) (by exact ⟨⟨_, rfl, rfl, rfl⟩, trivial⟩) rfl ?_ | refine call_inline Try.func65 rfl rfl ?_); intro u; clear u))
        all_goals (first | ((refine con_end ?_ rfl; intro u; clear u; refine ⟨rfl, rfl, EntGoal.mk ?_ ?_⟩ <;> (repeat' (first | exact trivial | (with_reducible rfl) | apply And.intro | rfl))); done))
    · have hp : ¬ mvAckP ⟨6, cur, to, gen, tick, ver⟩ b a now := fun h => c1 h.2.1
      generalize opC ⟨6, cur, to, gen, tick, ver⟩ b = oc at hO hA
      rw [ackM_no hp, decide_eq_false (show ¬ mvAckB ⟨6, cur, to, gen, tick, ver⟩ b a now from fun h => hp h.1)]
      refine con_of_call2 rfl ?_
      refine call_inline Try.func33 rfl rfl ?_
      intro _
      repeat' (first | (refine is_split ?_; (first | refine sp_yes (by exact ndec_t (by omega)) ?_ | refine sp_dec (fun g => ?_) (fun g => ?_)) <;> (intro u; clear u)) | (refine is_call ?_; (first | refine call_auto (hO) (lets_rfl rfl) (by exact trivial) rfl ?_ | refine call_inline Try.func65 rfl rfl ?_); intro u; clear u))
      all_goals (first | ((refine con_end ?_ rfl; intro u; clear u; refine ⟨rfl, rfl, EntGoal.mk ?_ ?_⟩ <;> (repeat' (first | exact trivial | (with_reducible rfl) | apply And.intro | rfl))); done))
  · rw [decide_eq_false c0] at hO
    have hO := con_known2 hO
    have hp : ¬ mvAckP ⟨6, cur, to, gen, tick, ver⟩ b a now := fun h => c0 h.1
    generalize opC ⟨6, cur, to, gen, tick, ver⟩ b = oc at hO
    rw [ackM_no hp, decide_eq_false (show ¬ mvAckB ⟨6, cur, to, gen, tick, ver⟩ b a now from fun h => hp h.1)]
    refine con_of_call2 rfl ?_
    refine call_inline Try.func33 rfl rfl ?_
    intro _
    repeat' (refine is_call ?_; refine call_auto (hO) (lets_rfl rfl) (by exact trivial) rfl ?_; intro u; clear u)
    all_goals (first | ((refine con_end ?_ rfl; intro u; clear u; refine ⟨rfl, rfl, EntGoal.mk ?_ ?_⟩ <;> (repeat' (first | exact trivial | (with_reducible rfl) | apply And.intro | rfl))); done))
theorem ack_else (m : Mv) (b : Int) (a : Ctl) (now : Int) (h0 : 0 ≤ m.ph) (hp : ¬ (m.ph = 2 ∨ m.ph = 3 ∨ m.ph = 5 ∨ m.ph = 6)) : CallCon Try.prog 33 [mvT m, .one (.v (.int .i64 b)), ctlT 0 a, .one (.v (.int .i64 now))] [.row (rowsV a.sh.rows) 5 101 false] (.tup [mvT (mvAckM m b a now), .one (.b (mvAckB m b a now))]) [] := by
  have hO := open_con m b h0
  have c0 : ¬ opOk m b := fun h => hp h.2.1
  rw [decide_eq_false c0] at hO
  have hO := con_known2 hO
  have hq : ¬ mvAckP m b a now := fun h => c0 h.1
  generalize opC m b = oc at hO
  rw [ackM_no hq, decide_eq_false (show ¬ mvAckB m b a now from fun h => hq h.1)]
  refine con_of_call2 rfl ?_
  refine call_inline Try.func33 rfl rfl ?_
  intro _
  repeat' (refine is_call ?_; refine call_auto (hO) (lets_rfl rfl) (by exact trivial) rfl ?_; intro u; clear u)
  all_goals (first | ((refine con_end ?_ rfl; intro u; clear u; refine ⟨rfl, rfl, EntGoal.mk ?_ ?_⟩ <;> (repeat' (first | exact trivial | (with_reducible rfl) | apply And.intro | rfl))); done))
theorem mvack_con (m : Mv) (b : Int) (a : Ctl) (now : Int) (h0 : 0 ≤ m.ph) (hs : a.sh.rows.length ≤ 1000000) : CallCon Try.prog 33 [mvT m, .one (.v (.int .i64 b)), ctlT 0 a, .one (.v (.int .i64 now))] [.row (rowsV a.sh.rows) 5 101 false] (.tup [mvT (mvAckM m b a now), .one (.b (mvAckB m b a now))]) [] := by
  by_cases hp : m.ph = 2 ∨ m.ph = 3 ∨ m.ph = 5 ∨ m.ph = 6
  · obtain ⟨ph, cur, to, gen, tick, ver⟩ := m
    change ph = 2 ∨ ph = 3 ∨ ph = 5 ∨ ph = 6 at hp
    rcases hp with rfl | rfl | rfl | rfl
    · exact ack2 cur to gen tick ver b now a hs
    · exact ack3 cur to gen tick ver b now a hs
    · exact ack5 cur to gen tick ver b now a hs
    · exact ack6 cur to gen tick ver b now a hs
  · exact ack_else m b a now h0 hp
theorem mvackn_con (m : Mv) (b : Int) (a : Ctl) (now : Int) (h0 : 0 ≤ m.ph) (hd : a.sh.rows = []) : CallCon Try.prog 33 [mvT m, .one (.v (.int .i64 b)), ctlN a, .one (.v (.int .i64 now))] [] (.tup [mvT (mvAckM m b a now), .one (.b (mvAckB m b a now))]) [] :=
  con_nil [mvT m, .one (.v (.int .i64 b)), ctlN a, .one (.v (.int .i64 now))] [] (by rw [hd]; rfl) (mvack_con m b a now h0 (by rw [hd]; decide)) (by rw [show ctlT 0 a = .agg [.v (.int .u8 a.kind), .v (.int .u8 a.of), .v (.int .i64 a.agent), .v (.int .i64 a.bkt), .v (.int .i64 a.gen), .v (.int .i64 a.peer), .v (.int .i64 a.ver), .v (.int .i64 a.sh.base), .v (.int .i64 a.sh.to), .sl 0 0 0] by unfold ctlT ctlS; rw [hd]; rfl]; repeat' (first | exact trivial | exact rfl | exact Or.inl rfl | apply And.intro)) rfl
end Go.Proofs.S19
