/- Contracts of functions of the program, or a row of the seat, proved out of them. No condition beyond those that stand in each statement. -/
import Derived.Test.YtiijiofhofkhkaaS19g9Q
namespace Go.Proofs.S19
open Go Go.SE
set_option maxRecDepth 100000
set_option maxHeartbeats 4000000
attribute [local irreducible] specI

/-- A control whose rows are a raw slice. -/
def ctlRS (c : Ctl) (v : Value) : List S := [.v (.int .u8 c.kind), .v (.int .u8 c.of), .v (.int .i64 c.agent), .v (.int .i64 c.bkt), .v (.int .i64 c.gen), .v (.int .i64 c.peer), .v (.int .i64 c.ver), .v (.int .i64 c.sh.base), .v (.int .i64 c.sh.to), .v v]
def ctlR (c : Ctl) (v : Value) : T := .agg (ctlRS c v)
theorem ctlackn_con {c : Ctl} (ho : 0 ≤ c.of ∧ c.of ≤ 255) (h0 : 0 ≤ c.kind) (hd : c.sh.rows = []) : CallCon Try.prog 17 [ctlN c] [] (.tup [ctlN (ackC c), .one (.b (ackOk c))]) [] :=
  con_nil [ctlN c] [] (by rw [hd]; rfl) (ctlack_con (c := c) ho h0 (by rw [hd]; decide)) (by rw [show ctlT 0 c = .agg [.v (.int .u8 c.kind), .v (.int .u8 c.of), .v (.int .i64 c.agent), .v (.int .i64 c.bkt), .v (.int .i64 c.gen), .v (.int .i64 c.peer), .v (.int .i64 c.ver), .v (.int .i64 c.sh.base), .v (.int .i64 c.sh.to), .sl 0 0 0] by unfold ctlT ctlS; rw [hd]; rfl]; repeat' (first | exact trivial | exact rfl | exact Or.inl rfl | apply And.intro)) rfl
theorem eqraw_con (a : Addr) (n cap : Nat) : CallCon Try.prog 81 [.one (.v (.slice (some a) n cap)), .one (.v (.slice none 0 0))] [] (.t (.one (.b (n = 0)))) [] := by
  by_cases h : n = 0
  · rw [decide_eq_true h]
    refine con_of_call2 rfl ?_
    refine call_inline Try.func81 rfl rfl ?_
    intro _
    repeat' (first | (refine is_split ?_; refine sp_no (by (first | exact dec_f (by omega) | exact ndec_f (by omega))) ?_ <;> (intro u; clear u)) | (refine is_loop ?_; refine loop_step ?_; intro u; clear u))
    all_goals (first | ((refine con_end ?_ rfl; intro u; clear u; refine ⟨rfl, rfl, EntGoal.mk ?_ ?_⟩ <;> (repeat' (first | exact trivial | (with_reducible rfl) | apply And.intro | rfl))); done))
  · rw [decide_eq_false h]
    refine con_of_call2 rfl ?_
    refine call_inline Try.func81 rfl rfl ?_
    intro _
    repeat' (refine is_split ?_; refine sp_yes (by exact ndec_t (by omega)) ?_ <;> (intro u; clear u))
    all_goals (first | ((refine con_end ?_ rfl; intro u; clear u; refine ⟨rfl, rfl, EntGoal.mk ?_ ?_⟩ <;> (repeat' (first | exact trivial | (with_reducible rfl) | apply And.intro | rfl))); done))
theorem sameraw_con {c d : Ctl} (a : Addr) (n cap : Nat) (hc : c.sh.rows = [] ↔ n = 0) (hd : d.sh.rows = []) : CallCon Try.prog 25 [ctlR c (.slice (some a) n cap), ctlN d] [] (.t (.one (.b (c = d)))) [] := by
  have hE := eqraw_con a n cap
  rw [show decide (n = 0) = decide (c.sh.rows = d.sh.rows) by rw [decide_eq_decide, hd]; exact hc.symm] at hE
  refine con_of_call2 rfl ?_
  refine call_inline Try.func25 rfl rfl ?_
  intro _
  repeat' (first | (refine is_split ?_; refine sp_dec (fun g => ?_) (fun g => ?_) <;> (intro u; clear u)) | (refine is_call ?_; (first | refine call_auto (hE) (lets_rfl rfl) (by exact trivial) rfl ?_ | refine call_inline Try.func55 rfl rfl ?_); intro u; clear u))
  all_goals (refine con_end ?_ rfl; intro u; clear u; refine ⟨rfl, rfl, EntGoal.mk ?_ ?_⟩ <;> (repeat' (first | exact trivial | (with_reducible rfl) | apply And.intro | rfl)))
  all_goals (obtain ⟨a1, a2, a3, a4, a5, a6, a7, ⟨a8, a9, a10⟩⟩ := c; obtain ⟨b1, b2, b3, b4, b5, b6, b7, ⟨b8, b9, b10⟩⟩ := d; simp_all; try rfl)
theorem answersraw_con {x c : Ctl} (a : Addr) (n cap : Nat) (hx : x.sh.rows = [] ↔ n = 0) (ho : 0 ≤ c.of ∧ c.of ≤ 255) (h0 : 0 ≤ c.kind) (hd : c.sh.rows = []) : CallCon Try.prog 23 [ctlR x (.slice (some a) n cap), ctlN c] [] (.t (.one (.b (ackOk c ∧ x = ackC c)))) [] := by
  have hA := ctlackn_con ho h0 hd
  have hS := sameraw_con (c := x) (d := ackC c) a n cap hx (by rw [ackC_nil]; rfl)
  by_cases ha : ackOk c
  · rw [decide_eq_true ha] at hA
    have hA := con_known2 hA
    rw [show decide (ackOk c ∧ x = ackC c) = decide (x = ackC c) by rw [decide_eq_decide]; exact ⟨fun h => h.2, fun h => ⟨ha, h⟩⟩]
    refine con_of_call2 rfl ?_
    refine call_inline Try.func23 rfl rfl ?_
    intro _
    repeat' (refine is_call ?_; (first | refine call_auto (hA) (lets_rfl rfl) (by exact trivial) rfl ?_ | refine call_auto (hS) (lets_rfl rfl) (by exact trivial) rfl ?_); intro u; clear u)
    all_goals (first | ((refine con_end ?_ rfl; intro u; clear u; refine ⟨rfl, rfl, EntGoal.mk ?_ ?_⟩ <;> (repeat' (first | exact trivial | (with_reducible rfl) | apply And.intro | rfl))); done))
  · rw [decide_eq_false ha] at hA
    have hA := con_known2 hA
    rw [decide_eq_false (fun h => ha h.1 : ¬ (ackOk c ∧ x = ackC c))]
    refine con_of_call2 rfl ?_
    refine call_inline Try.func23 rfl rfl ?_
    intro _
    repeat' (refine is_call ?_; refine call_auto (hA) (lets_rfl rfl) (by exact trivial) rfl ?_; intro u; clear u)
    all_goals (first | ((refine con_end ?_ rfl; intro u; clear u; refine ⟨rfl, rfl, EntGoal.mk ?_ ?_⟩ <;> (repeat' (first | exact trivial | (with_reducible rfl) | apply And.intro | rfl))); done))
theorem rack2 (cur to gen tick ver b now : Int) (a : Ctl) (ad : Addr) (rn rcap : Nat) (hs : a.sh.rows = [] ↔ rn = 0) : CallCon Try.prog 33 [.agg [.v (.int .u8 2), .v (.int .i64 cur), .v (.int .i64 to), .v (.int .i64 gen), .v (.int .i64 tick), .v (.int .i64 ver)], .one (.v (.int .i64 b)), ctlR a (.slice (some ad) rn rcap), .one (.v (.int .i64 now))] [] (.tup [mvT (mvAckM ⟨2, cur, to, gen, tick, ver⟩ b a now), .one (.b (mvAckB ⟨2, cur, to, gen, tick, ver⟩ b a now))]) [] := by
  have hO := open_con ⟨2, cur, to, gen, tick, ver⟩ b (by show (0 : Int) ≤ 2; decide)
  by_cases c0 : opOk ⟨2, cur, to, gen, tick, ver⟩ b
  · rw [decide_eq_true c0] at hO
    have hO := con_known2 hO
    have hA := answersraw_con (x := a) (c := opC ⟨2, cur, to, gen, tick, ver⟩ b) ad rn rcap hs (by rw [opC_of]; decide) (opC_kind _ _) (by rw [opC_nil]; rfl)
    by_cases c1 : (0 ≤ now ∧ now ≤ 1099511627776)
    · by_cases c2 : a = ackC (opC ⟨2, cur, to, gen, tick, ver⟩ b)
      · have hA := con_yes hA ⟨op_right c0, c2⟩
        have hp : mvAckP ⟨2, cur, to, gen, tick, ver⟩ b a now := ⟨c0, c1, c2⟩
        generalize opC ⟨2, cur, to, gen, tick, ver⟩ b = oc at hO hA
        rw [ackM_yes hp, show mvNext ⟨2, cur, to, gen, tick, ver⟩ now = ⟨3, cur, to, gen, now, ver⟩ from rfl, decide_eq_true (show mvAckB ⟨2, cur, to, gen, tick, ver⟩ b a now from ⟨hp, fun h => absurd h (by show ¬ ((2 : Int) = 5); decide)⟩)]
        refine con_of_call2 rfl ?_
        refine call_inline Try.func33 rfl rfl ?_
        intro _
        repeat' (first | (refine is_split ?_; (first | refine sp_yes (by exact dec_t (by omega)) ?_ | refine sp_no (by exact ndec_f (by omega)) ?_) <;> (intro u; clear u)) | (refine is_asked ?_; (refine asked (some 2, _) ⟨⟨rfl, by omega, by omega⟩, rfl⟩ ?_); intro u; clear u) | (refine is_draw ?_; refine draw_step mixed (by kernel_rfl) ?_; intro u; clear u) | (refine is_call ?_; (first | refine call_auto (hO) (lets_rfl rfl) (by exact trivial) rfl ?_ | refine call_auto (hA) (lets_rfl rfl) (by exact trivial) rfl ?_ | refine call_inline Try.func65 rfl rfl ?_ | refine call_inline Try.func66 rfl rfl ?_); intro u; clear u))
        all_goals (first | ((refine con_end ?_ rfl; intro u; clear u; refine ⟨rfl, rfl, EntGoal.mk ?_ ?_⟩ <;> (repeat' (first | exact trivial | (with_reducible rfl) | apply And.intro | rfl))); done))
      · have hA := con_no hA (fun h => c2 h.2)
        have hp : ¬ mvAckP ⟨2, cur, to, gen, tick, ver⟩ b a now := fun h => c2 h.2.2
        generalize opC ⟨2, cur, to, gen, tick, ver⟩ b = oc at hO hA
        rw [ackM_no hp, decide_eq_false (show ¬ mvAckB ⟨2, cur, to, gen, tick, ver⟩ b a now from fun h => hp h.1)]
        refine con_of_call2 rfl ?_
        refine call_inline Try.func33 rfl rfl ?_
        intro _
        repeat' (first | (refine is_split ?_; (first | refine sp_yes (by exact dec_t (by omega)) ?_ | refine sp_no (by exact ndec_f (by omega)) ?_) <;> (intro u; clear u)) | (refine is_call ?_; (first | refine call_auto (hO) (lets_rfl rfl) (by exact trivial) rfl ?_ | refine call_auto (hA) (lets_rfl rfl) (by exact trivial) rfl ?_ | refine call_inline Try.func65 rfl rfl ?_); intro u; clear u))
        all_goals (first | ((refine con_end ?_ rfl; intro u; clear u; refine ⟨rfl, rfl, EntGoal.mk ?_ ?_⟩ <;> (repeat' (first | exact trivial | (with_reducible rfl) | apply And.intro | rfl))); done))
    · have hp : ¬ mvAckP ⟨2, cur, to, gen, tick, ver⟩ b a now := fun h => c1 h.2.1
      generalize opC ⟨2, cur, to, gen, tick, ver⟩ b = oc at hO hA
      rw [ackM_no hp, decide_eq_false (show ¬ mvAckB ⟨2, cur, to, gen, tick, ver⟩ b a now from fun h => hp h.1)]
      refine con_of_call2 rfl ?_
      refine call_inline Try.func33 rfl rfl ?_
      intro _
      repeat' (first | (refine is_split ?_; (first | refine sp_yes (by exact ndec_t (by omega)) ?_ | refine sp_dec (fun g => ?_) (fun g => ?_)) <;> (intro u; clear u)) | (refine is_call ?_; (first | refine call_auto (hO) (lets_rfl rfl) (by exact trivial) rfl ?_ | refine call_inline Try.func65 rfl rfl ?_); intro u; clear u))
      all_goals (first | ((refine con_end ?_ rfl; intro u; clear u; refine ⟨rfl, rfl, EntGoal.mk ?_ ?_⟩ <;> (repeat' (first | exact trivial | (with_reducible rfl) | apply And.intro | rfl))); done))
  · rw [decide_eq_false c0] at hO
    have hO := con_known2 hO
    have hp : ¬ mvAckP ⟨2, cur, to, gen, tick, ver⟩ b a now := fun h => c0 h.1
    generalize opC ⟨2, cur, to, gen, tick, ver⟩ b = oc at hO
    rw [ackM_no hp, decide_eq_false (show ¬ mvAckB ⟨2, cur, to, gen, tick, ver⟩ b a now from fun h => hp h.1)]
    refine con_of_call2 rfl ?_
    refine call_inline Try.func33 rfl rfl ?_
    intro _
    repeat' (refine is_call ?_; refine call_auto (hO) (lets_rfl rfl) (by exact trivial) rfl ?_; intro u; clear u)
    all_goals (first | ((refine con_end ?_ rfl; intro u; clear u; refine ⟨rfl, rfl, EntGoal.mk ?_ ?_⟩ <;> (repeat' (first | exact trivial | (with_reducible rfl) | apply And.intro | rfl))); done))
theorem rack3 (cur to gen tick ver b now : Int) (a : Ctl) (ad : Addr) (rn rcap : Nat) (hs : a.sh.rows = [] ↔ rn = 0) : CallCon Try.prog 33 [.agg [.v (.int .u8 3), .v (.int .i64 cur), .v (.int .i64 to), .v (.int .i64 gen), .v (.int .i64 tick), .v (.int .i64 ver)], .one (.v (.int .i64 b)), ctlR a (.slice (some ad) rn rcap), .one (.v (.int .i64 now))] [] (.tup [mvT (mvAckM ⟨3, cur, to, gen, tick, ver⟩ b a now), .one (.b (mvAckB ⟨3, cur, to, gen, tick, ver⟩ b a now))]) [] := by
  have hO := open_con ⟨3, cur, to, gen, tick, ver⟩ b (by show (0 : Int) ≤ 3; decide)
  by_cases c0 : opOk ⟨3, cur, to, gen, tick, ver⟩ b
  · rw [decide_eq_true c0] at hO
    have hO := con_known2 hO
    have hA := answersraw_con (x := a) (c := opC ⟨3, cur, to, gen, tick, ver⟩ b) ad rn rcap hs (by rw [opC_of]; decide) (opC_kind _ _) (by rw [opC_nil]; rfl)
    by_cases c1 : (0 ≤ now ∧ now ≤ 1099511627776)
    · by_cases c2 : a = ackC (opC ⟨3, cur, to, gen, tick, ver⟩ b)
      · have hA := con_yes hA ⟨op_right c0, c2⟩
        have hp : mvAckP ⟨3, cur, to, gen, tick, ver⟩ b a now := ⟨c0, c1, c2⟩
        generalize opC ⟨3, cur, to, gen, tick, ver⟩ b = oc at hO hA
        rw [ackM_yes hp, show mvNext ⟨3, cur, to, gen, tick, ver⟩ now = ⟨4, cur, to, gen, tick, ver⟩ from rfl, decide_eq_true (show mvAckB ⟨3, cur, to, gen, tick, ver⟩ b a now from ⟨hp, fun h => absurd h (by show ¬ ((3 : Int) = 5); decide)⟩)]
        refine con_of_call2 rfl ?_
        refine call_inline Try.func33 rfl rfl ?_
        intro _
        repeat' (first | (refine is_split ?_; (first | refine sp_yes (by exact dec_t (by omega)) ?_ | refine sp_no (by exact ndec_f (by omega)) ?_) <;> (intro u; clear u)) | (refine is_asked ?_; (refine asked (some 3, _) ⟨⟨rfl, by omega, by omega⟩, rfl⟩ ?_); intro u; clear u) | (refine is_call ?_; (first | refine call_auto (hO) (lets_rfl rfl) (by exact trivial) rfl ?_ | refine call_auto (hA) (lets_rfl rfl) (by exact trivial) rfl ?_ | refine call_inline Try.func65 rfl rfl ?_ | refine call_inline Try.func67 rfl rfl ?_); intro u; clear u))
        all_goals (first | ((refine con_end ?_ rfl; intro u; clear u; refine ⟨rfl, rfl, EntGoal.mk ?_ ?_⟩ <;> (repeat' (first | exact trivial | (with_reducible rfl) | apply And.intro | rfl))); done))
      · have hA := con_no hA (fun h => c2 h.2)
        have hp : ¬ mvAckP ⟨3, cur, to, gen, tick, ver⟩ b a now := fun h => c2 h.2.2
        generalize opC ⟨3, cur, to, gen, tick, ver⟩ b = oc at hO hA
        rw [ackM_no hp, decide_eq_false (show ¬ mvAckB ⟨3, cur, to, gen, tick, ver⟩ b a now from fun h => hp h.1)]
        refine con_of_call2 rfl ?_
        refine call_inline Try.func33 rfl rfl ?_
        intro _
        repeat' (first | (refine is_split ?_; (first | refine sp_yes (by exact dec_t (by omega)) ?_ | refine sp_no (by exact ndec_f (by omega)) ?_) <;> (intro u; clear u)) | (refine is_call ?_; (first | refine call_auto (hO) (lets_rfl rfl) (by exact trivial) rfl ?_ | refine call_auto (hA) (lets_rfl rfl) (by exact trivial) rfl ?_ | refine call_inline Try.func65 rfl rfl ?_); intro u; clear u))
        all_goals (first | ((refine con_end ?_ rfl; intro u; clear u; refine ⟨rfl, rfl, EntGoal.mk ?_ ?_⟩ <;> (repeat' (first | exact trivial | (with_reducible rfl) | apply And.intro | rfl))); done))
    · have hp : ¬ mvAckP ⟨3, cur, to, gen, tick, ver⟩ b a now := fun h => c1 h.2.1
      generalize opC ⟨3, cur, to, gen, tick, ver⟩ b = oc at hO hA
      rw [ackM_no hp, decide_eq_false (show ¬ mvAckB ⟨3, cur, to, gen, tick, ver⟩ b a now from fun h => hp h.1)]
      refine con_of_call2 rfl ?_
      refine call_inline Try.func33 rfl rfl ?_
      intro _
      repeat' (first | (refine is_split ?_; (first | refine sp_yes (by exact ndec_t (by omega)) ?_ | refine sp_dec (fun g => ?_) (fun g => ?_)) <;> (intro u; clear u)) | (refine is_call ?_; (first | refine call_auto (hO) (lets_rfl rfl) (by exact trivial) rfl ?_ | refine call_inline Try.func65 rfl rfl ?_); intro u; clear u))
      all_goals (first | ((refine con_end ?_ rfl; intro u; clear u; refine ⟨rfl, rfl, EntGoal.mk ?_ ?_⟩ <;> (repeat' (first | exact trivial | (with_reducible rfl) | apply And.intro | rfl))); done))
  · rw [decide_eq_false c0] at hO
    have hO := con_known2 hO
    have hp : ¬ mvAckP ⟨3, cur, to, gen, tick, ver⟩ b a now := fun h => c0 h.1
    generalize opC ⟨3, cur, to, gen, tick, ver⟩ b = oc at hO
    rw [ackM_no hp, decide_eq_false (show ¬ mvAckB ⟨3, cur, to, gen, tick, ver⟩ b a now from fun h => hp h.1)]
    refine con_of_call2 rfl ?_
    refine call_inline Try.func33 rfl rfl ?_
    intro _
    repeat' (refine is_call ?_; refine call_auto (hO) (lets_rfl rfl) (by exact trivial) rfl ?_; intro u; clear u)
    all_goals (first | ((refine con_end ?_ rfl; intro u; clear u; refine ⟨rfl, rfl, EntGoal.mk ?_ ?_⟩ <;> (repeat' (first | exact trivial | (with_reducible rfl) | apply And.intro | rfl))); done))
theorem rack5 (cur to gen tick ver b now : Int) (a : Ctl) (ad : Addr) (rn rcap : Nat) (hs : a.sh.rows = [] ↔ rn = 0) : CallCon Try.prog 33 [.agg [.v (.int .u8 5), .v (.int .i64 cur), .v (.int .i64 to), .v (.int .i64 gen), .v (.int .i64 tick), .v (.int .i64 ver)], .one (.v (.int .i64 b)), ctlR a (.slice (some ad) rn rcap), .one (.v (.int .i64 now))] [] (.tup [mvT (mvAckM ⟨5, cur, to, gen, tick, ver⟩ b a now), .one (.b (mvAckB ⟨5, cur, to, gen, tick, ver⟩ b a now))]) [] := by
  have hO := open_con ⟨5, cur, to, gen, tick, ver⟩ b (by show (0 : Int) ≤ 5; decide)
  by_cases c0 : opOk ⟨5, cur, to, gen, tick, ver⟩ b
  · rw [decide_eq_true c0] at hO
    have hO := con_known2 hO
    have hA := answersraw_con (x := a) (c := opC ⟨5, cur, to, gen, tick, ver⟩ b) ad rn rcap hs (by rw [opC_of]; decide) (opC_kind _ _) (by rw [opC_nil]; rfl)
    by_cases c1 : (0 ≤ now ∧ now ≤ 1099511627776)
    · by_cases c2 : a = ackC (opC ⟨5, cur, to, gen, tick, ver⟩ b)
      · have hA := con_yes hA ⟨op_right c0, c2⟩
        have hp : mvAckP ⟨5, cur, to, gen, tick, ver⟩ b a now := ⟨c0, c1, c2⟩
        generalize opC ⟨5, cur, to, gen, tick, ver⟩ b = oc at hO hA
        have hS := se_con ⟨5, cur, to, gen, tick, ver⟩ to (by show (0 : Int) ≤ 5; decide)
        rw [ackM_yes hp, show mvNext ⟨5, cur, to, gen, tick, ver⟩ now = seM ⟨5, cur, to, gen, tick, ver⟩ to from rfl]
        by_cases c3 : seE ⟨5, cur, to, gen, tick, ver⟩ to = 0
        · rw [decide_eq_true (show mvAckB ⟨5, cur, to, gen, tick, ver⟩ b a now from ⟨hp, fun _ => c3⟩)]
          rw [c3] at hS
          generalize seM ⟨5, cur, to, gen, tick, ver⟩ to = mm at hS ⊢
          refine con_of_call2 rfl ?_
          refine call_inline Try.func33 rfl rfl ?_
          intro _
          repeat' (first | (refine is_split ?_; (first | refine sp_yes (by exact dec_t (by omega)) ?_ | refine sp_no (by exact ndec_f (by omega)) ?_) <;> (intro u; clear u)) | (refine is_asked ?_; (refine asked (some 5, _) ⟨⟨rfl, by omega, by omega⟩, rfl⟩ ?_); intro u; clear u) | (refine is_call ?_; (first | refine call_auto (hO) (lets_rfl rfl) (by exact trivial) rfl ?_ | refine call_auto (hA) (lets_rfl rfl) (by exact trivial) rfl ?_ | refine call_inline Try.func65 rfl rfl ?_ | refine call_inline Try.func68 rfl rfl ?_ | refine call_auto (hS) (lets_rfl rfl) (by exact trivial) rfl ?_); intro u; clear u))
          all_goals (first | ((refine con_end ?_ rfl; intro u; clear u; refine ⟨rfl, rfl, EntGoal.mk ?_ ?_⟩ <;> (repeat' (first | exact trivial | (with_reducible rfl) | apply And.intro | rfl))); done))
        · have c4 := c3
          generalize seM ⟨5, cur, to, gen, tick, ver⟩ to = mm at hS ⊢
          generalize seE ⟨5, cur, to, gen, tick, ver⟩ to = ee at hS c3
          refine con_of_call2 rfl ?_
          refine call_inline Try.func33 rfl rfl ?_
          intro _
          repeat' (first | (refine is_split ?_; (first | refine sp_yes (by exact dec_t (by omega)) ?_ | refine sp_no (by exact ndec_f (by omega)) ?_) <;> (intro u; clear u)) | (refine is_asked ?_; (refine asked (some 5, _) ⟨⟨rfl, by omega, by omega⟩, rfl⟩ ?_); intro u; clear u) | (refine is_call ?_; (first | refine call_auto (hO) (lets_rfl rfl) (by exact trivial) rfl ?_ | refine call_auto (hA) (lets_rfl rfl) (by exact trivial) rfl ?_ | refine call_inline Try.func65 rfl rfl ?_ | refine call_inline Try.func68 rfl rfl ?_ | refine call_auto (hS) (lets_rfl rfl) (by exact trivial) rfl ?_); intro u; clear u))
          all_goals (refine end_iff2 ?_ ?_; (focus (exact ⟨fun h => absurd (h.2 rfl) c4, fun h => absurd h c3⟩)); (refine con_end ?_ rfl; intro u; clear u; refine ⟨rfl, rfl, EntGoal.mk ?_ ?_⟩ <;> (repeat' (first | exact trivial | (with_reducible rfl) | apply And.intro | rfl))))
      · have hA := con_no hA (fun h => c2 h.2)
        have hp : ¬ mvAckP ⟨5, cur, to, gen, tick, ver⟩ b a now := fun h => c2 h.2.2
        generalize opC ⟨5, cur, to, gen, tick, ver⟩ b = oc at hO hA
        rw [ackM_no hp, decide_eq_false (show ¬ mvAckB ⟨5, cur, to, gen, tick, ver⟩ b a now from fun h => hp h.1)]
        refine con_of_call2 rfl ?_
        refine call_inline Try.func33 rfl rfl ?_
        intro _
        repeat' (first | (refine is_split ?_; (first | refine sp_yes (by exact dec_t (by omega)) ?_ | refine sp_no (by exact ndec_f (by omega)) ?_) <;> (intro u; clear u)) | (refine is_call ?_; (first | refine call_auto (hO) (lets_rfl rfl) (by exact trivial) rfl ?_ | refine call_auto (hA) (lets_rfl rfl) (by exact trivial) rfl ?_ | refine call_inline Try.func65 rfl rfl ?_); intro u; clear u))
        all_goals (first | ((refine con_end ?_ rfl; intro u; clear u; refine ⟨rfl, rfl, EntGoal.mk ?_ ?_⟩ <;> (repeat' (first | exact trivial | (with_reducible rfl) | apply And.intro | rfl))); done))
    · have hp : ¬ mvAckP ⟨5, cur, to, gen, tick, ver⟩ b a now := fun h => c1 h.2.1
      generalize opC ⟨5, cur, to, gen, tick, ver⟩ b = oc at hO hA
      rw [ackM_no hp, decide_eq_false (show ¬ mvAckB ⟨5, cur, to, gen, tick, ver⟩ b a now from fun h => hp h.1)]
      refine con_of_call2 rfl ?_
      refine call_inline Try.func33 rfl rfl ?_
      intro _
      repeat' (first | (refine is_split ?_; (first | refine sp_yes (by exact ndec_t (by omega)) ?_ | refine sp_dec (fun g => ?_) (fun g => ?_)) <;> (intro u; clear u)) | (refine is_call ?_; (first | refine call_auto (hO) (lets_rfl rfl) (by exact trivial) rfl ?_ | refine call_inline Try.func65 rfl rfl ?_); intro u; clear u))
      all_goals (first | ((refine con_end ?_ rfl; intro u; clear u; refine ⟨rfl, rfl, EntGoal.mk ?_ ?_⟩ <;> (repeat' (first | exact trivial | (with_reducible rfl) | apply And.intro | rfl))); done))
  · rw [decide_eq_false c0] at hO
    have hO := con_known2 hO
    have hp : ¬ mvAckP ⟨5, cur, to, gen, tick, ver⟩ b a now := fun h => c0 h.1
    generalize opC ⟨5, cur, to, gen, tick, ver⟩ b = oc at hO
    rw [ackM_no hp, decide_eq_false (show ¬ mvAckB ⟨5, cur, to, gen, tick, ver⟩ b a now from fun h => hp h.1)]
    refine con_of_call2 rfl ?_
    refine call_inline Try.func33 rfl rfl ?_
    intro _
    repeat' (refine is_call ?_; refine call_auto (hO) (lets_rfl rfl) (by exact trivial) rfl ?_; intro u; clear u)
    all_goals (first | ((refine con_end ?_ rfl; intro u; clear u; refine ⟨rfl, rfl, EntGoal.mk ?_ ?_⟩ <;> (repeat' (first | exact trivial | (with_reducible rfl) | apply And.intro | rfl))); done))
theorem rack6 (cur to gen tick ver b now : Int) (a : Ctl) (ad : Addr) (rn rcap : Nat) (hs : a.sh.rows = [] ↔ rn = 0) : CallCon Try.prog 33 [.agg [.v (.int .u8 6), .v (.int .i64 cur), .v (.int .i64 to), .v (.int .i64 gen), .v (.int .i64 tick), .v (.int .i64 ver)], .one (.v (.int .i64 b)), ctlR a (.slice (some ad) rn rcap), .one (.v (.int .i64 now))] [] (.tup [mvT (mvAckM ⟨6, cur, to, gen, tick, ver⟩ b a now), .one (.b (mvAckB ⟨6, cur, to, gen, tick, ver⟩ b a now))]) [] := by
  have hO := open_con ⟨6, cur, to, gen, tick, ver⟩ b (by show (0 : Int) ≤ 6; decide)
  by_cases c0 : opOk ⟨6, cur, to, gen, tick, ver⟩ b
  · rw [decide_eq_true c0] at hO
    have hO := con_known2 hO
    have hA := answersraw_con (x := a) (c := opC ⟨6, cur, to, gen, tick, ver⟩ b) ad rn rcap hs (by rw [opC_of]; decide) (opC_kind _ _) (by rw [opC_nil]; rfl)
    by_cases c1 : (0 ≤ now ∧ now ≤ 1099511627776)
    · by_cases c2 : a = ackC (opC ⟨6, cur, to, gen, tick, ver⟩ b)
      · have hA := con_yes hA ⟨op_right c0, c2⟩
        have hp : mvAckP ⟨6, cur, to, gen, tick, ver⟩ b a now := ⟨c0, c1, c2⟩
        generalize opC ⟨6, cur, to, gen, tick, ver⟩ b = oc at hO hA
        rw [ackM_yes hp, show mvNext ⟨6, cur, to, gen, tick, ver⟩ now = ⟨1, to, -1, gen, tick, ver⟩ from rfl, decide_eq_true (show mvAckB ⟨6, cur, to, gen, tick, ver⟩ b a now from ⟨hp, fun h => absurd h (by show ¬ ((6 : Int) = 5); decide)⟩)]
        refine con_of_call2 rfl ?_
        refine call_inline Try.func33 rfl rfl ?_
        intro _
        repeat' (first | (refine is_split ?_; (first | refine sp_yes (by exact dec_t (by omega)) ?_ | refine sp_no (by exact ndec_f (by omega)) ?_) <;> (intro u; clear u)) | (refine is_asked ?_; (refine asked (some 6, _) ⟨⟨rfl, by omega, by omega⟩, rfl⟩ ?_); intro u; clear u) | (refine is_call ?_; (first | refine call_auto (hO) (lets_rfl rfl) (by exact trivial) rfl ?_ | refine call_auto (hA) (lets_rfl rfl) (by exact trivial) rfl ?_ | refine call_inline Try.func65 rfl rfl ?_ | refine call_inline Try.func69 rfl rfl ?_); intro u; clear u))
        all_goals (first | ((refine con_end ?_ rfl; intro u; clear u; refine ⟨rfl, rfl, EntGoal.mk ?_ ?_⟩ <;> (repeat' (first | exact trivial | (with_reducible rfl) | apply And.intro | rfl))); done))
      · have hA := con_no hA (fun h => c2 h.2)
        have hp : ¬ mvAckP ⟨6, cur, to, gen, tick, ver⟩ b a now := fun h => c2 h.2.2
        generalize opC ⟨6, cur, to, gen, tick, ver⟩ b = oc at hO hA
        rw [ackM_no hp, decide_eq_false (show ¬ mvAckB ⟨6, cur, to, gen, tick, ver⟩ b a now from fun h => hp h.1)]
        refine con_of_call2 rfl ?_
        refine call_inline Try.func33 rfl rfl ?_
        intro _
        repeat' (first | (refine is_split ?_; (first | refine sp_yes (by exact dec_t (by omega)) ?_ | refine sp_no (by exact ndec_f (by omega)) ?_) <;> (intro u; clear u)) | (refine is_call ?_; (first | refine call_auto (hO) (lets_rfl rfl) (by exact trivial) rfl ?_ | refine call_auto (hA) (lets_rfl rfl) (by exact trivial) rfl ?_ | refine call_inline Try.func65 rfl rfl ?_); intro u; clear u))
        all_goals (first | ((refine con_end ?_ rfl; intro u; clear u; refine ⟨rfl, rfl, EntGoal.mk ?_ ?_⟩ <;> (repeat' (first | exact trivial | (with_reducible rfl) | apply And.intro | rfl))); done))
    · have hp : ¬ mvAckP ⟨6, cur, to, gen, tick, ver⟩ b a now := fun h => c1 h.2.1
      generalize opC ⟨6, cur, to, gen, tick, ver⟩ b = oc at hO hA
      rw [ackM_no hp, decide_eq_false (show ¬ mvAckB ⟨6, cur, to, gen, tick, ver⟩ b a now from fun h => hp h.1)]
      refine con_of_call2 rfl ?_
      refine call_inline Try.func33 rfl rfl ?_
      intro _
      repeat' (first | (refine is_split ?_; (first | refine sp_yes (by exact ndec_t (by omega)) ?_ | refine sp_dec (fun g => ?_) (fun g => ?_)) <;> (intro u; clear u)) | (refine is_call ?_; (first | refine call_auto (hO) (lets_rfl rfl) (by exact trivial) rfl ?_ | refine call_inline Try.func65 rfl rfl ?_); intro u; clear u))
      all_goals (first | ((refine con_end ?_ rfl; intro u; clear u; refine ⟨rfl, rfl, EntGoal.mk ?_ ?_⟩ <;> (repeat' (first | exact trivial | (with_reducible rfl) | apply And.intro | rfl))); done))
  · rw [decide_eq_false c0] at hO
    have hO := con_known2 hO
    have hp : ¬ mvAckP ⟨6, cur, to, gen, tick, ver⟩ b a now := fun h => c0 h.1
    generalize opC ⟨6, cur, to, gen, tick, ver⟩ b = oc at hO
    rw [ackM_no hp, decide_eq_false (show ¬ mvAckB ⟨6, cur, to, gen, tick, ver⟩ b a now from fun h => hp h.1)]
    refine con_of_call2 rfl ?_
    refine call_inline Try.func33 rfl rfl ?_
    intro _
    repeat' (refine is_call ?_; refine call_auto (hO) (lets_rfl rfl) (by exact trivial) rfl ?_; intro u; clear u)
    all_goals (first | ((refine con_end ?_ rfl; intro u; clear u; refine ⟨rfl, rfl, EntGoal.mk ?_ ?_⟩ <;> (repeat' (first | exact trivial | (with_reducible rfl) | apply And.intro | rfl))); done))
theorem rack_else (m : Mv) (b : Int) (a : Ctl) (now : Int) (h0 : 0 ≤ m.ph) (hp : ¬ (m.ph = 2 ∨ m.ph = 3 ∨ m.ph = 5 ∨ m.ph = 6)) (ad : Addr) (rn rcap : Nat) (hs : a.sh.rows = [] ↔ rn = 0) : CallCon Try.prog 33 [mvT m, .one (.v (.int .i64 b)), ctlR a (.slice (some ad) rn rcap), .one (.v (.int .i64 now))] [] (.tup [mvT (mvAckM m b a now), .one (.b (mvAckB m b a now))]) [] := by
  have hO := open_con m b h0
  have c0 : ¬ opOk m b := fun h => hp h.2.1
  rw [decide_eq_false c0] at hO
  have hO := con_known2 hO
  have hq : ¬ mvAckP m b a now := fun h => c0 h.1
  generalize opC m b = oc at hO
  rw [ackM_no hq, decide_eq_false (show ¬ mvAckB m b a now from fun h => hq h.1)]
  refine con_of_call2 rfl ?_
  refine call_inline Try.func33 rfl rfl ?_
  intro _
  repeat' (refine is_call ?_; refine call_auto (hO) (lets_rfl rfl) (by exact trivial) rfl ?_; intro u; clear u)
  all_goals (first | ((refine con_end ?_ rfl; intro u; clear u; refine ⟨rfl, rfl, EntGoal.mk ?_ ?_⟩ <;> (repeat' (first | exact trivial | (with_reducible rfl) | apply And.intro | rfl))); done))
theorem mvackraw_con (m : Mv) (b : Int) (a : Ctl) (now : Int) (h0 : 0 ≤ m.ph) (ad : Addr) (rn rcap : Nat) (hs : a.sh.rows = [] ↔ rn = 0) : CallCon Try.prog 33 [mvT m, .one (.v (.int .i64 b)), ctlR a (.slice (some ad) rn rcap), .one (.v (.int .i64 now))] [] (.tup [mvT (mvAckM m b a now), .one (.b (mvAckB m b a now))]) [] := by
  by_cases hp : m.ph = 2 ∨ m.ph = 3 ∨ m.ph = 5 ∨ m.ph = 6
  · obtain ⟨ph, cur, to, gen, tick, ver⟩ := m
    change ph = 2 ∨ ph = 3 ∨ ph = 5 ∨ ph = 6 at hp
    rcases hp with rfl | rfl | rfl | rfl
    · exact rack2 cur to gen tick ver b now a ad rn rcap hs
    · exact rack3 cur to gen tick ver b now a ad rn rcap hs
    · exact rack5 cur to gen tick ver b now a ad rn rcap hs
    · exact rack6 cur to gen tick ver b now a ad rn rcap hs
  · exact rack_else m b a now h0 hp ad rn rcap hs
end Go.Proofs.S19
