/- Contracts of functions of the program, or a row of the seat, proved out of them. No condition beyond those that stand in each statement. -/
import Derived.Test.YtiijiofhofkhkaaS19g9N
namespace Go.Proofs.S19
open Go Go.SE
set_option maxRecDepth 100000
set_option maxHeartbeats 4000000
attribute [local irreducible] specI

def opOk (m : Mv) (b : Int) : Prop := okMv m ∧ (m.ph = 2 ∨ m.ph = 3 ∨ m.ph = 5 ∨ m.ph = 6) ∧ (0 ≤ b ∧ b ≤ 15)
instance (m : Mv) (b : Int) : Decidable (opOk m b) := by unfold opOk; infer_instance
def opRaw (m : Mv) (b : Int) : Ctl := if m.ph = 2 then ⟨1, 0, m.cur, b, m.gen, m.to, 0, zeroSh⟩ else if m.ph = 3 then ⟨2, 0, m.to, b, m.gen, m.cur, 0, zeroSh⟩ else if m.ph = 5 then ⟨3, 0, m.cur, b, m.gen, 0, 0, zeroSh⟩ else ⟨2, 0, m.to, b, m.gen, -1, 0, zeroSh⟩
def opC (m : Mv) (b : Int) : Ctl := if opOk m b then opRaw m b else zeroCtl
theorem opC_yes {m : Mv} {b : Int} (h : opOk m b) : opC m b = opRaw m b := if_pos h
theorem opC_no {m : Mv} {b : Int} (h : ¬ opOk m b) : opC m b = zeroCtl := if_neg h
theorem opC_nil (m : Mv) (b : Int) : (opC m b).sh = zeroSh := by unfold opC opRaw; (repeat' split) <;> rfl

theorem open0 (cur to gen tick ver b : Int) : CallCon Try.prog 36 [.agg [.v (.int .u8 0), .v (.int .i64 cur), .v (.int .i64 to), .v (.int .i64 gen), .v (.int .i64 tick), .v (.int .i64 ver)], .one (.v (.int .i64 b))] [] (.tup [ctlN (opC ⟨0, cur, to, gen, tick, ver⟩ b), .one (.b (opOk ⟨0, cur, to, gen, tick, ver⟩ b))]) [] := by
  have hR := mvright_con ⟨0, cur, to, gen, tick, ver⟩ (by show (0 : Int) ≤ 0; decide)
  have ho : ¬ opOk ⟨0, cur, to, gen, tick, ver⟩ b := fun h => absurd h.2.1 (by show ¬ ((0 : Int) = 2 ∨ (0 : Int) = 3 ∨ (0 : Int) = 5 ∨ (0 : Int) = 6); decide)
  rw [opC_no ho, decide_eq_false ho]
  refine con_of_call2 rfl ?_
  refine call_inline Try.func36 rfl rfl ?_
  intro _
  repeat' (first | (refine is_draw (id := 1) ?_; refine mask_start mixed rfl ?_) | (refine is_mask ?_; (first | (refine mask_take 2 (by rfl) (by decide +kernel) (by decide +kernel) ?_; intro u; clear u) | (refine held_start [0, 3] ?_; refine is_held ?_))) | (refine is_held ?_; (first | (refine held_end (by decide +kernel) ?_; intro u; clear u) | (refine held_load [0, 3] 0 _ (by rfl) (.head _) rfl (by decide +kernel) ?_; intro u; clear u) | (refine held_load [0, 3] 3 _ (by rfl) (.tail _ (.head _)) rfl (by decide +kernel) ?_; intro u; clear u) | (refine held_step [0, 3] 1 (by rfl) rfl (by decide +kernel) ?_; intro u; clear u) | (refine held_step [0, 3] 4 (by rfl) rfl (by decide +kernel) ?_; intro u; clear u) | (refine held_step [0, 3] 5 (by rfl) rfl (by decide +kernel) ?_; intro u; clear u))) | (refine is_kept ?_; refine Kept.mk ?_ ?_; focus (repeat' (first | exact trivial | apply And.intro | exact rfl))) | (refine is_asked ?_; (refine asked (none, _) ⟨.inl (by omega), rfl⟩ ?_); intro u; clear u) | (refine is_call ?_; refine call_inline Try.func71 rfl rfl ?_; intro u; clear u))
  all_goals (first | ((refine con_end ?_ rfl; intro u; clear u; refine ⟨rfl, rfl, EntGoal.mk ?_ ?_⟩ <;> (repeat' (first | exact trivial | (with_reducible rfl) | apply And.intro | rfl))); done))
theorem open1 (cur to gen tick ver b : Int) : CallCon Try.prog 36 [.agg [.v (.int .u8 1), .v (.int .i64 cur), .v (.int .i64 to), .v (.int .i64 gen), .v (.int .i64 tick), .v (.int .i64 ver)], .one (.v (.int .i64 b))] [] (.tup [ctlN (opC ⟨1, cur, to, gen, tick, ver⟩ b), .one (.b (opOk ⟨1, cur, to, gen, tick, ver⟩ b))]) [] := by
  have hR := mvright_con ⟨1, cur, to, gen, tick, ver⟩ (by show (0 : Int) ≤ 1; decide)
  have ho : ¬ opOk ⟨1, cur, to, gen, tick, ver⟩ b := fun h => absurd h.2.1 (by show ¬ ((1 : Int) = 2 ∨ (1 : Int) = 3 ∨ (1 : Int) = 5 ∨ (1 : Int) = 6); decide)
  rw [opC_no ho, decide_eq_false ho]
  refine con_of_call2 rfl ?_
  refine call_inline Try.func36 rfl rfl ?_
  intro _
  repeat' (first | (refine is_draw (id := 1) ?_; refine mask_start mixed rfl ?_) | (refine is_mask ?_; (first | (refine mask_take 2 (by rfl) (by decide +kernel) (by decide +kernel) ?_; intro u; clear u) | (refine held_start [0, 3] ?_; refine is_held ?_))) | (refine is_held ?_; (first | (refine held_end (by decide +kernel) ?_; intro u; clear u) | (refine held_load [0, 3] 0 _ (by rfl) (.head _) rfl (by decide +kernel) ?_; intro u; clear u) | (refine held_load [0, 3] 3 _ (by rfl) (.tail _ (.head _)) rfl (by decide +kernel) ?_; intro u; clear u) | (refine held_step [0, 3] 1 (by rfl) rfl (by decide +kernel) ?_; intro u; clear u) | (refine held_step [0, 3] 4 (by rfl) rfl (by decide +kernel) ?_; intro u; clear u) | (refine held_step [0, 3] 5 (by rfl) rfl (by decide +kernel) ?_; intro u; clear u))) | (refine is_kept ?_; refine Kept.mk ?_ ?_; focus (repeat' (first | exact trivial | apply And.intro | exact rfl))) | (refine is_asked ?_; (refine asked (some 1, _) ⟨⟨rfl, by omega, by omega⟩, rfl⟩ ?_); intro u; clear u) | (refine is_call ?_; refine call_inline Try.func71 rfl rfl ?_; intro u; clear u))
  all_goals (first | ((refine con_end ?_ rfl; intro u; clear u; refine ⟨rfl, rfl, EntGoal.mk ?_ ?_⟩ <;> (repeat' (first | exact trivial | (with_reducible rfl) | apply And.intro | rfl))); done))
theorem open2 (cur to gen tick ver b : Int) : CallCon Try.prog 36 [.agg [.v (.int .u8 2), .v (.int .i64 cur), .v (.int .i64 to), .v (.int .i64 gen), .v (.int .i64 tick), .v (.int .i64 ver)], .one (.v (.int .i64 b))] [] (.tup [ctlN (opC ⟨2, cur, to, gen, tick, ver⟩ b), .one (.b (opOk ⟨2, cur, to, gen, tick, ver⟩ b))]) [] := by
  have hR := mvright_con ⟨2, cur, to, gen, tick, ver⟩ (by show (0 : Int) ≤ 2; decide)
  by_cases c0 : okMv ⟨2, cur, to, gen, tick, ver⟩
  · have hR := con_yes hR c0
    by_cases c1 : (0 ≤ b ∧ b ≤ 15)
    · have ho : opOk ⟨2, cur, to, gen, tick, ver⟩ b := ⟨c0, (by show (2 : Int) = 2 ∨ (2 : Int) = 3 ∨ (2 : Int) = 5 ∨ (2 : Int) = 6; decide), c1⟩
      rw [opC_yes ho, decide_eq_true ho, show opRaw ⟨2, cur, to, gen, tick, ver⟩ b = ⟨1, 0, cur, b, gen, to, 0, zeroSh⟩ from rfl]
      refine con_of_call2 rfl ?_
      refine call_inline Try.func36 rfl rfl ?_
      intro _
      repeat' (first | (refine is_draw (id := 1) ?_; refine mask_start mixed rfl ?_) | (refine is_mask ?_; (first | (refine mask_take 2 (by rfl) (by decide +kernel) (by decide +kernel) ?_; intro u; clear u) | (refine held_start [0, 3] ?_; refine is_held ?_))) | (refine is_held ?_; (first | (refine held_end (by decide +kernel) ?_; intro u; clear u) | (refine held_load [0, 3] 0 _ (by rfl) (.head _) rfl (by decide +kernel) ?_; intro u; clear u) | (refine held_load [0, 3] 3 _ (by rfl) (.tail _ (.head _)) rfl (by decide +kernel) ?_; intro u; clear u) | (refine held_step [0, 3] 1 (by rfl) rfl (by decide +kernel) ?_; intro u; clear u) | (refine held_step [0, 3] 4 (by rfl) rfl (by decide +kernel) ?_; intro u; clear u) | (refine held_step [0, 3] 5 (by rfl) rfl (by decide +kernel) ?_; intro u; clear u))) | (refine is_kept ?_; refine Kept.mk ?_ ?_; focus (repeat' (first | exact trivial | apply And.intro | exact rfl))) | (refine is_split ?_; (first | refine sp_yes (by exact dec_t (by omega)) ?_ | refine sp_no (by exact ndec_f (by omega)) ?_) <;> (intro u; clear u)) | (refine is_asked ?_; (refine asked (some 2, _) ⟨⟨rfl, by omega, by omega⟩, rfl⟩ ?_); intro u; clear u) | (refine is_draw ?_; refine draw_step mixed (by kernel_rfl) ?_; intro u; clear u) | (refine is_call ?_; (first | refine call_auto (hR) (lets_rfl rfl) (by exact trivial) rfl ?_ | refine call_inline Try.func65 rfl rfl ?_ | refine call_inline Try.func71 rfl rfl ?_ | refine call_inline Try.func85 rfl rfl ?_); intro u; clear u))
      all_goals (first | ((refine con_end ?_ rfl; intro u; clear u; refine ⟨rfl, rfl, EntGoal.mk ?_ ?_⟩ <;> (repeat' (first | exact trivial | (with_reducible rfl) | apply And.intro | rfl))); done))
    · have ho : ¬ opOk ⟨2, cur, to, gen, tick, ver⟩ b := fun h => c1 h.2.2
      rw [opC_no ho, decide_eq_false ho]
      refine con_of_call2 rfl ?_
      refine call_inline Try.func36 rfl rfl ?_
      intro _
      repeat' (first | (refine is_draw (id := 1) ?_; refine mask_start mixed rfl ?_) | (refine is_mask ?_; (first | (refine mask_take 2 (by rfl) (by decide +kernel) (by decide +kernel) ?_; intro u; clear u) | (refine held_start [0, 3] ?_; refine is_held ?_))) | (refine is_held ?_; (first | (refine held_end (by decide +kernel) ?_; intro u; clear u) | (refine held_load [0, 3] 0 _ (by rfl) (.head _) rfl (by decide +kernel) ?_; intro u; clear u) | (refine held_load [0, 3] 3 _ (by rfl) (.tail _ (.head _)) rfl (by decide +kernel) ?_; intro u; clear u) | (refine held_step [0, 3] 1 (by rfl) rfl (by decide +kernel) ?_; intro u; clear u) | (refine held_step [0, 3] 4 (by rfl) rfl (by decide +kernel) ?_; intro u; clear u) | (refine held_step [0, 3] 5 (by rfl) rfl (by decide +kernel) ?_; intro u; clear u))) | (refine is_kept ?_; refine Kept.mk ?_ ?_; focus (repeat' (first | exact trivial | apply And.intro | exact rfl))) | (refine is_split ?_; (first | refine sp_yes (by exact ndec_t (by omega)) ?_ | refine sp_dec (fun g => ?_) (fun g => ?_)) <;> (intro u; clear u)) | (refine is_asked ?_; (refine asked (some 2, _) ⟨⟨rfl, by omega, by omega⟩, rfl⟩ ?_); intro u; clear u) | (refine is_call ?_; (first | refine call_auto (hR) (lets_rfl rfl) (by exact trivial) rfl ?_ | refine call_inline Try.func65 rfl rfl ?_ | refine call_inline Try.func71 rfl rfl ?_); intro u; clear u))
      all_goals (first | ((refine con_end ?_ rfl; intro u; clear u; refine ⟨rfl, rfl, EntGoal.mk ?_ ?_⟩ <;> (repeat' (first | exact trivial | (with_reducible rfl) | apply And.intro | rfl))); done))
  · have hR := con_no hR c0
    have ho : ¬ opOk ⟨2, cur, to, gen, tick, ver⟩ b := fun h => c0 h.1
    rw [opC_no ho, decide_eq_false ho]
    refine con_of_call2 rfl ?_
    refine call_inline Try.func36 rfl rfl ?_
    intro _
    repeat' (first | (refine is_draw (id := 1) ?_; refine mask_start mixed rfl ?_) | (refine is_mask ?_; (first | (refine mask_take 2 (by rfl) (by decide +kernel) (by decide +kernel) ?_; intro u; clear u) | (refine held_start [0, 3] ?_; refine is_held ?_))) | (refine is_held ?_; (first | (refine held_end (by decide +kernel) ?_; intro u; clear u) | (refine held_load [0, 3] 0 _ (by rfl) (.head _) rfl (by decide +kernel) ?_; intro u; clear u) | (refine held_load [0, 3] 3 _ (by rfl) (.tail _ (.head _)) rfl (by decide +kernel) ?_; intro u; clear u) | (refine held_step [0, 3] 1 (by rfl) rfl (by decide +kernel) ?_; intro u; clear u) | (refine held_step [0, 3] 4 (by rfl) rfl (by decide +kernel) ?_; intro u; clear u) | (refine held_step [0, 3] 5 (by rfl) rfl (by decide +kernel) ?_; intro u; clear u))) | (refine is_kept ?_; refine Kept.mk ?_ ?_; focus (repeat' (first | exact trivial | apply And.intro | exact rfl))) | (refine is_asked ?_; (refine asked (some 2, _) ⟨⟨rfl, by omega, by omega⟩, rfl⟩ ?_); intro u; clear u) | (refine is_call ?_; (first | refine call_auto (hR) (lets_rfl rfl) (by exact trivial) rfl ?_ | refine call_inline Try.func71 rfl rfl ?_); intro u; clear u))
    all_goals (first | ((refine con_end ?_ rfl; intro u; clear u; refine ⟨rfl, rfl, EntGoal.mk ?_ ?_⟩ <;> (repeat' (first | exact trivial | (with_reducible rfl) | apply And.intro | rfl))); done))
theorem open3 (cur to gen tick ver b : Int) : CallCon Try.prog 36 [.agg [.v (.int .u8 3), .v (.int .i64 cur), .v (.int .i64 to), .v (.int .i64 gen), .v (.int .i64 tick), .v (.int .i64 ver)], .one (.v (.int .i64 b))] [] (.tup [ctlN (opC ⟨3, cur, to, gen, tick, ver⟩ b), .one (.b (opOk ⟨3, cur, to, gen, tick, ver⟩ b))]) [] := by
  have hR := mvright_con ⟨3, cur, to, gen, tick, ver⟩ (by show (0 : Int) ≤ 3; decide)
  by_cases c0 : okMv ⟨3, cur, to, gen, tick, ver⟩
  · have hR := con_yes hR c0
    by_cases c1 : (0 ≤ b ∧ b ≤ 15)
    · have ho : opOk ⟨3, cur, to, gen, tick, ver⟩ b := ⟨c0, (by show (3 : Int) = 2 ∨ (3 : Int) = 3 ∨ (3 : Int) = 5 ∨ (3 : Int) = 6; decide), c1⟩
      rw [opC_yes ho, decide_eq_true ho, show opRaw ⟨3, cur, to, gen, tick, ver⟩ b = ⟨2, 0, to, b, gen, cur, 0, zeroSh⟩ from rfl]
      refine con_of_call2 rfl ?_
      refine call_inline Try.func36 rfl rfl ?_
      intro _
      repeat' (first | (refine is_draw (id := 1) ?_; refine mask_start mixed rfl ?_) | (refine is_mask ?_; (first | (refine mask_take 2 (by rfl) (by decide +kernel) (by decide +kernel) ?_; intro u; clear u) | (refine held_start [0, 3] ?_; refine is_held ?_))) | (refine is_held ?_; (first | (refine held_end (by decide +kernel) ?_; intro u; clear u) | (refine held_load [0, 3] 0 _ (by rfl) (.head _) rfl (by decide +kernel) ?_; intro u; clear u) | (refine held_load [0, 3] 3 _ (by rfl) (.tail _ (.head _)) rfl (by decide +kernel) ?_; intro u; clear u) | (refine held_step [0, 3] 1 (by rfl) rfl (by decide +kernel) ?_; intro u; clear u) | (refine held_step [0, 3] 4 (by rfl) rfl (by decide +kernel) ?_; intro u; clear u) | (refine held_step [0, 3] 5 (by rfl) rfl (by decide +kernel) ?_; intro u; clear u))) | (refine is_kept ?_; refine Kept.mk ?_ ?_; focus (repeat' (first | exact trivial | apply And.intro | exact rfl))) | (refine is_split ?_; (first | refine sp_yes (by exact dec_t (by omega)) ?_ | refine sp_no (by exact ndec_f (by omega)) ?_) <;> (intro u; clear u)) | (refine is_asked ?_; (refine asked (some 3, _) ⟨⟨rfl, by omega, by omega⟩, rfl⟩ ?_); intro u; clear u) | (refine is_draw ?_; refine draw_step mixed (by kernel_rfl) ?_; intro u; clear u) | (refine is_call ?_; (first | refine call_auto (hR) (lets_rfl rfl) (by exact trivial) rfl ?_ | refine call_inline Try.func65 rfl rfl ?_ | refine call_inline Try.func71 rfl rfl ?_ | refine call_inline Try.func84 rfl rfl ?_ | refine call_inline Try.func86 rfl rfl ?_); intro u; clear u))
      all_goals (first | ((refine con_end ?_ rfl; intro u; clear u; refine ⟨rfl, rfl, EntGoal.mk ?_ ?_⟩ <;> (repeat' (first | exact trivial | (with_reducible rfl) | apply And.intro | rfl))); done))
    · have ho : ¬ opOk ⟨3, cur, to, gen, tick, ver⟩ b := fun h => c1 h.2.2
      rw [opC_no ho, decide_eq_false ho]
      refine con_of_call2 rfl ?_
      refine call_inline Try.func36 rfl rfl ?_
      intro _
      repeat' (first | (refine is_draw (id := 1) ?_; refine mask_start mixed rfl ?_) | (refine is_mask ?_; (first | (refine mask_take 2 (by rfl) (by decide +kernel) (by decide +kernel) ?_; intro u; clear u) | (refine held_start [0, 3] ?_; refine is_held ?_))) | (refine is_held ?_; (first | (refine held_end (by decide +kernel) ?_; intro u; clear u) | (refine held_load [0, 3] 0 _ (by rfl) (.head _) rfl (by decide +kernel) ?_; intro u; clear u) | (refine held_load [0, 3] 3 _ (by rfl) (.tail _ (.head _)) rfl (by decide +kernel) ?_; intro u; clear u) | (refine held_step [0, 3] 1 (by rfl) rfl (by decide +kernel) ?_; intro u; clear u) | (refine held_step [0, 3] 4 (by rfl) rfl (by decide +kernel) ?_; intro u; clear u) | (refine held_step [0, 3] 5 (by rfl) rfl (by decide +kernel) ?_; intro u; clear u))) | (refine is_kept ?_; refine Kept.mk ?_ ?_; focus (repeat' (first | exact trivial | apply And.intro | exact rfl))) | (refine is_split ?_; (first | refine sp_yes (by exact ndec_t (by omega)) ?_ | refine sp_dec (fun g => ?_) (fun g => ?_)) <;> (intro u; clear u)) | (refine is_asked ?_; (refine asked (some 3, _) ⟨⟨rfl, by omega, by omega⟩, rfl⟩ ?_); intro u; clear u) | (refine is_call ?_; (first | refine call_auto (hR) (lets_rfl rfl) (by exact trivial) rfl ?_ | refine call_inline Try.func65 rfl rfl ?_ | refine call_inline Try.func71 rfl rfl ?_); intro u; clear u))
      all_goals (first | ((refine con_end ?_ rfl; intro u; clear u; refine ⟨rfl, rfl, EntGoal.mk ?_ ?_⟩ <;> (repeat' (first | exact trivial | (with_reducible rfl) | apply And.intro | rfl))); done))
  · have hR := con_no hR c0
    have ho : ¬ opOk ⟨3, cur, to, gen, tick, ver⟩ b := fun h => c0 h.1
    rw [opC_no ho, decide_eq_false ho]
    refine con_of_call2 rfl ?_
    refine call_inline Try.func36 rfl rfl ?_
    intro _
    repeat' (first | (refine is_draw (id := 1) ?_; refine mask_start mixed rfl ?_) | (refine is_mask ?_; (first | (refine mask_take 2 (by rfl) (by decide +kernel) (by decide +kernel) ?_; intro u; clear u) | (refine held_start [0, 3] ?_; refine is_held ?_))) | (refine is_held ?_; (first | (refine held_end (by decide +kernel) ?_; intro u; clear u) | (refine held_load [0, 3] 0 _ (by rfl) (.head _) rfl (by decide +kernel) ?_; intro u; clear u) | (refine held_load [0, 3] 3 _ (by rfl) (.tail _ (.head _)) rfl (by decide +kernel) ?_; intro u; clear u) | (refine held_step [0, 3] 1 (by rfl) rfl (by decide +kernel) ?_; intro u; clear u) | (refine held_step [0, 3] 4 (by rfl) rfl (by decide +kernel) ?_; intro u; clear u) | (refine held_step [0, 3] 5 (by rfl) rfl (by decide +kernel) ?_; intro u; clear u))) | (refine is_kept ?_; refine Kept.mk ?_ ?_; focus (repeat' (first | exact trivial | apply And.intro | exact rfl))) | (refine is_asked ?_; (refine asked (some 3, _) ⟨⟨rfl, by omega, by omega⟩, rfl⟩ ?_); intro u; clear u) | (refine is_call ?_; (first | refine call_auto (hR) (lets_rfl rfl) (by exact trivial) rfl ?_ | refine call_inline Try.func71 rfl rfl ?_); intro u; clear u))
    all_goals (first | ((refine con_end ?_ rfl; intro u; clear u; refine ⟨rfl, rfl, EntGoal.mk ?_ ?_⟩ <;> (repeat' (first | exact trivial | (with_reducible rfl) | apply And.intro | rfl))); done))
theorem open4 (cur to gen tick ver b : Int) : CallCon Try.prog 36 [.agg [.v (.int .u8 4), .v (.int .i64 cur), .v (.int .i64 to), .v (.int .i64 gen), .v (.int .i64 tick), .v (.int .i64 ver)], .one (.v (.int .i64 b))] [] (.tup [ctlN (opC ⟨4, cur, to, gen, tick, ver⟩ b), .one (.b (opOk ⟨4, cur, to, gen, tick, ver⟩ b))]) [] := by
  have hR := mvright_con ⟨4, cur, to, gen, tick, ver⟩ (by show (0 : Int) ≤ 4; decide)
  have ho : ¬ opOk ⟨4, cur, to, gen, tick, ver⟩ b := fun h => absurd h.2.1 (by show ¬ ((4 : Int) = 2 ∨ (4 : Int) = 3 ∨ (4 : Int) = 5 ∨ (4 : Int) = 6); decide)
  rw [opC_no ho, decide_eq_false ho]
  refine con_of_call2 rfl ?_
  refine call_inline Try.func36 rfl rfl ?_
  intro _
  repeat' (first | (refine is_draw (id := 1) ?_; refine mask_start mixed rfl ?_) | (refine is_mask ?_; (first | (refine mask_take 2 (by rfl) (by decide +kernel) (by decide +kernel) ?_; intro u; clear u) | (refine held_start [0, 3] ?_; refine is_held ?_))) | (refine is_held ?_; (first | (refine held_end (by decide +kernel) ?_; intro u; clear u) | (refine held_load [0, 3] 0 _ (by rfl) (.head _) rfl (by decide +kernel) ?_; intro u; clear u) | (refine held_load [0, 3] 3 _ (by rfl) (.tail _ (.head _)) rfl (by decide +kernel) ?_; intro u; clear u) | (refine held_step [0, 3] 1 (by rfl) rfl (by decide +kernel) ?_; intro u; clear u) | (refine held_step [0, 3] 4 (by rfl) rfl (by decide +kernel) ?_; intro u; clear u) | (refine held_step [0, 3] 5 (by rfl) rfl (by decide +kernel) ?_; intro u; clear u))) | (refine is_kept ?_; refine Kept.mk ?_ ?_; focus (repeat' (first | exact trivial | apply And.intro | exact rfl))) | (refine is_asked ?_; (refine asked (some 4, _) ⟨⟨rfl, by omega, by omega⟩, rfl⟩ ?_); intro u; clear u) | (refine is_call ?_; refine call_inline Try.func71 rfl rfl ?_; intro u; clear u))
  all_goals (first | ((refine con_end ?_ rfl; intro u; clear u; refine ⟨rfl, rfl, EntGoal.mk ?_ ?_⟩ <;> (repeat' (first | exact trivial | (with_reducible rfl) | apply And.intro | rfl))); done))
theorem open5 (cur to gen tick ver b : Int) : CallCon Try.prog 36 [.agg [.v (.int .u8 5), .v (.int .i64 cur), .v (.int .i64 to), .v (.int .i64 gen), .v (.int .i64 tick), .v (.int .i64 ver)], .one (.v (.int .i64 b))] [] (.tup [ctlN (opC ⟨5, cur, to, gen, tick, ver⟩ b), .one (.b (opOk ⟨5, cur, to, gen, tick, ver⟩ b))]) [] := by
  have hR := mvright_con ⟨5, cur, to, gen, tick, ver⟩ (by show (0 : Int) ≤ 5; decide)
  by_cases c0 : okMv ⟨5, cur, to, gen, tick, ver⟩
  · have hR := con_yes hR c0
    by_cases c1 : (0 ≤ b ∧ b ≤ 15)
    · have ho : opOk ⟨5, cur, to, gen, tick, ver⟩ b := ⟨c0, (by show (5 : Int) = 2 ∨ (5 : Int) = 3 ∨ (5 : Int) = 5 ∨ (5 : Int) = 6; decide), c1⟩
      rw [opC_yes ho, decide_eq_true ho, show opRaw ⟨5, cur, to, gen, tick, ver⟩ b = ⟨3, 0, cur, b, gen, 0, 0, zeroSh⟩ from rfl]
      refine con_of_call2 rfl ?_
      refine call_inline Try.func36 rfl rfl ?_
      intro _
      repeat' (first | (refine is_draw (id := 1) ?_; refine mask_start mixed rfl ?_) | (refine is_mask ?_; (first | (refine mask_take 2 (by rfl) (by decide +kernel) (by decide +kernel) ?_; intro u; clear u) | (refine held_start [0, 3] ?_; refine is_held ?_))) | (refine is_held ?_; (first | (refine held_end (by decide +kernel) ?_; intro u; clear u) | (refine held_load [0, 3] 0 _ (by rfl) (.head _) rfl (by decide +kernel) ?_; intro u; clear u) | (refine held_load [0, 3] 3 _ (by rfl) (.tail _ (.head _)) rfl (by decide +kernel) ?_; intro u; clear u) | (refine held_step [0, 3] 1 (by rfl) rfl (by decide +kernel) ?_; intro u; clear u) | (refine held_step [0, 3] 4 (by rfl) rfl (by decide +kernel) ?_; intro u; clear u) | (refine held_step [0, 3] 5 (by rfl) rfl (by decide +kernel) ?_; intro u; clear u))) | (refine is_kept ?_; refine Kept.mk ?_ ?_; focus (repeat' (first | exact trivial | apply And.intro | exact rfl))) | (refine is_split ?_; (first | refine sp_yes (by exact dec_t (by omega)) ?_ | refine sp_no (by exact ndec_f (by omega)) ?_) <;> (intro u; clear u)) | (refine is_asked ?_; (refine asked (some 5, _) ⟨⟨rfl, by omega, by omega⟩, rfl⟩ ?_); intro u; clear u) | (refine is_draw ?_; refine draw_step mixed (by kernel_rfl) ?_; intro u; clear u) | (refine is_call ?_; (first | refine call_auto (hR) (lets_rfl rfl) (by exact trivial) rfl ?_ | refine call_inline Try.func65 rfl rfl ?_ | refine call_inline Try.func71 rfl rfl ?_ | refine call_inline Try.func87 rfl rfl ?_); intro u; clear u))
      all_goals (first | ((refine con_end ?_ rfl; intro u; clear u; refine ⟨rfl, rfl, EntGoal.mk ?_ ?_⟩ <;> (repeat' (first | exact trivial | (with_reducible rfl) | apply And.intro | rfl))); done))
    · have ho : ¬ opOk ⟨5, cur, to, gen, tick, ver⟩ b := fun h => c1 h.2.2
      rw [opC_no ho, decide_eq_false ho]
      refine con_of_call2 rfl ?_
      refine call_inline Try.func36 rfl rfl ?_
      intro _
      repeat' (first | (refine is_draw (id := 1) ?_; refine mask_start mixed rfl ?_) | (refine is_mask ?_; (first | (refine mask_take 2 (by rfl) (by decide +kernel) (by decide +kernel) ?_; intro u; clear u) | (refine held_start [0, 3] ?_; refine is_held ?_))) | (refine is_held ?_; (first | (refine held_end (by decide +kernel) ?_; intro u; clear u) | (refine held_load [0, 3] 0 _ (by rfl) (.head _) rfl (by decide +kernel) ?_; intro u; clear u) | (refine held_load [0, 3] 3 _ (by rfl) (.tail _ (.head _)) rfl (by decide +kernel) ?_; intro u; clear u) | (refine held_step [0, 3] 1 (by rfl) rfl (by decide +kernel) ?_; intro u; clear u) | (refine held_step [0, 3] 4 (by rfl) rfl (by decide +kernel) ?_; intro u; clear u) | (refine held_step [0, 3] 5 (by rfl) rfl (by decide +kernel) ?_; intro u; clear u))) | (refine is_kept ?_; refine Kept.mk ?_ ?_; focus (repeat' (first | exact trivial | apply And.intro | exact rfl))) | (refine is_split ?_; (first | refine sp_yes (by exact ndec_t (by omega)) ?_ | refine sp_dec (fun g => ?_) (fun g => ?_)) <;> (intro u; clear u)) | (refine is_asked ?_; (refine asked (some 5, _) ⟨⟨rfl, by omega, by omega⟩, rfl⟩ ?_); intro u; clear u) | (refine is_call ?_; (first | refine call_auto (hR) (lets_rfl rfl) (by exact trivial) rfl ?_ | refine call_inline Try.func65 rfl rfl ?_ | refine call_inline Try.func71 rfl rfl ?_); intro u; clear u))
      all_goals (first | ((refine con_end ?_ rfl; intro u; clear u; refine ⟨rfl, rfl, EntGoal.mk ?_ ?_⟩ <;> (repeat' (first | exact trivial | (with_reducible rfl) | apply And.intro | rfl))); done))
  · have hR := con_no hR c0
    have ho : ¬ opOk ⟨5, cur, to, gen, tick, ver⟩ b := fun h => c0 h.1
    rw [opC_no ho, decide_eq_false ho]
    refine con_of_call2 rfl ?_
    refine call_inline Try.func36 rfl rfl ?_
    intro _
    repeat' (first | (refine is_draw (id := 1) ?_; refine mask_start mixed rfl ?_) | (refine is_mask ?_; (first | (refine mask_take 2 (by rfl) (by decide +kernel) (by decide +kernel) ?_; intro u; clear u) | (refine held_start [0, 3] ?_; refine is_held ?_))) | (refine is_held ?_; (first | (refine held_end (by decide +kernel) ?_; intro u; clear u) | (refine held_load [0, 3] 0 _ (by rfl) (.head _) rfl (by decide +kernel) ?_; intro u; clear u) | (refine held_load [0, 3] 3 _ (by rfl) (.tail _ (.head _)) rfl (by decide +kernel) ?_; intro u; clear u) | (refine held_step [0, 3] 1 (by rfl) rfl (by decide +kernel) ?_; intro u; clear u) | (refine held_step [0, 3] 4 (by rfl) rfl (by decide +kernel) ?_; intro u; clear u) | (refine held_step [0, 3] 5 (by rfl) rfl (by decide +kernel) ?_; intro u; clear u))) | (refine is_kept ?_; refine Kept.mk ?_ ?_; focus (repeat' (first | exact trivial | apply And.intro | exact rfl))) | (refine is_asked ?_; (refine asked (some 5, _) ⟨⟨rfl, by omega, by omega⟩, rfl⟩ ?_); intro u; clear u) | (refine is_call ?_; (first | refine call_auto (hR) (lets_rfl rfl) (by exact trivial) rfl ?_ | refine call_inline Try.func71 rfl rfl ?_); intro u; clear u))
    all_goals (first | ((refine con_end ?_ rfl; intro u; clear u; refine ⟨rfl, rfl, EntGoal.mk ?_ ?_⟩ <;> (repeat' (first | exact trivial | (with_reducible rfl) | apply And.intro | rfl))); done))
theorem open6 (cur to gen tick ver b : Int) : CallCon Try.prog 36 [.agg [.v (.int .u8 6), .v (.int .i64 cur), .v (.int .i64 to), .v (.int .i64 gen), .v (.int .i64 tick), .v (.int .i64 ver)], .one (.v (.int .i64 b))] [] (.tup [ctlN (opC ⟨6, cur, to, gen, tick, ver⟩ b), .one (.b (opOk ⟨6, cur, to, gen, tick, ver⟩ b))]) [] := by
  have hR := mvright_con ⟨6, cur, to, gen, tick, ver⟩ (by show (0 : Int) ≤ 6; decide)
  by_cases c0 : okMv ⟨6, cur, to, gen, tick, ver⟩
  · have hR := con_yes hR c0
    by_cases c1 : (0 ≤ b ∧ b ≤ 15)
    · have ho : opOk ⟨6, cur, to, gen, tick, ver⟩ b := ⟨c0, (by show (6 : Int) = 2 ∨ (6 : Int) = 3 ∨ (6 : Int) = 5 ∨ (6 : Int) = 6; decide), c1⟩
      rw [opC_yes ho, decide_eq_true ho, show opRaw ⟨6, cur, to, gen, tick, ver⟩ b = ⟨2, 0, to, b, gen, -1, 0, zeroSh⟩ from rfl]
      refine con_of_call2 rfl ?_
      refine call_inline Try.func36 rfl rfl ?_
      intro _
      repeat' (first | (refine is_draw (id := 1) ?_; refine mask_start mixed rfl ?_) | (refine is_mask ?_; (first | (refine mask_take 2 (by rfl) (by decide +kernel) (by decide +kernel) ?_; intro u; clear u) | (refine held_start [0, 3] ?_; refine is_held ?_))) | (refine is_held ?_; (first | (refine held_end (by decide +kernel) ?_; intro u; clear u) | (refine held_load [0, 3] 0 _ (by rfl) (.head _) rfl (by decide +kernel) ?_; intro u; clear u) | (refine held_load [0, 3] 3 _ (by rfl) (.tail _ (.head _)) rfl (by decide +kernel) ?_; intro u; clear u) | (refine held_step [0, 3] 1 (by rfl) rfl (by decide +kernel) ?_; intro u; clear u) | (refine held_step [0, 3] 4 (by rfl) rfl (by decide +kernel) ?_; intro u; clear u) | (refine held_step [0, 3] 5 (by rfl) rfl (by decide +kernel) ?_; intro u; clear u))) | (refine is_kept ?_; refine Kept.mk ?_ ?_; focus (repeat' (first | exact trivial | apply And.intro | exact rfl))) | (refine is_split ?_; (first | refine sp_yes (by exact dec_t (by omega)) ?_ | refine sp_no (by exact ndec_f (by omega)) ?_) <;> (intro u; clear u)) | (refine is_asked ?_; (refine asked (some 6, _) ⟨⟨rfl, by omega, by omega⟩, rfl⟩ ?_); intro u; clear u) | (refine is_draw ?_; refine draw_step mixed (by kernel_rfl) ?_; intro u; clear u) | (refine is_call ?_; (first | refine call_auto (hR) (lets_rfl rfl) (by exact trivial) rfl ?_ | refine call_inline Try.func65 rfl rfl ?_ | refine call_inline Try.func71 rfl rfl ?_ | refine call_inline Try.func84 rfl rfl ?_ | refine call_inline Try.func88 rfl rfl ?_); intro u; clear u))
      all_goals (first | ((refine con_end ?_ rfl; intro u; clear u; refine ⟨rfl, rfl, EntGoal.mk ?_ ?_⟩ <;> (repeat' (first | exact trivial | (with_reducible rfl) | apply And.intro | rfl))); done))
    · have ho : ¬ opOk ⟨6, cur, to, gen, tick, ver⟩ b := fun h => c1 h.2.2
      rw [opC_no ho, decide_eq_false ho]
      refine con_of_call2 rfl ?_
      refine call_inline Try.func36 rfl rfl ?_
      intro _
      repeat' (first | (refine is_draw (id := 1) ?_; refine mask_start mixed rfl ?_) | (refine is_mask ?_; (first | (refine mask_take 2 (by rfl) (by decide +kernel) (by decide +kernel) ?_; intro u; clear u) | (refine held_start [0, 3] ?_; refine is_held ?_))) | (refine is_held ?_; (first | (refine held_end (by decide +kernel) ?_; intro u; clear u) | (refine held_load [0, 3] 0 _ (by rfl) (.head _) rfl (by decide +kernel) ?_; intro u; clear u) | (refine held_load [0, 3] 3 _ (by rfl) (.tail _ (.head _)) rfl (by decide +kernel) ?_; intro u; clear u) | (refine held_step [0, 3] 1 (by rfl) rfl (by decide +kernel) ?_; intro u; clear u) | (refine held_step [0, 3] 4 (by rfl) rfl (by decide +kernel) ?_; intro u; clear u) | (refine held_step [0, 3] 5 (by rfl) rfl (by decide +kernel) ?_; intro u; clear u))) | (refine is_kept ?_; refine Kept.mk ?_ ?_; focus (repeat' (first | exact trivial | apply And.intro | exact rfl))) | (refine is_split ?_; (first | refine sp_yes (by exact ndec_t (by omega)) ?_ | refine sp_dec (fun g => ?_) (fun g => ?_)) <;> (intro u; clear u)) | (refine is_asked ?_; (refine asked (some 6, _) ⟨⟨rfl, by omega, by omega⟩, rfl⟩ ?_); intro u; clear u) | (refine is_call ?_; (first | refine call_auto (hR) (lets_rfl rfl) (by exact trivial) rfl ?_ | refine call_inline Try.func65 rfl rfl ?_ | refine call_inline Try.func71 rfl rfl ?_); intro u; clear u))
      all_goals (first | ((refine con_end ?_ rfl; intro u; clear u; refine ⟨rfl, rfl, EntGoal.mk ?_ ?_⟩ <;> (repeat' (first | exact trivial | (with_reducible rfl) | apply And.intro | rfl))); done))
  · have hR := con_no hR c0
    have ho : ¬ opOk ⟨6, cur, to, gen, tick, ver⟩ b := fun h => c0 h.1
    rw [opC_no ho, decide_eq_false ho]
    refine con_of_call2 rfl ?_
    refine call_inline Try.func36 rfl rfl ?_
    intro _
    repeat' (first | (refine is_draw (id := 1) ?_; refine mask_start mixed rfl ?_) | (refine is_mask ?_; (first | (refine mask_take 2 (by rfl) (by decide +kernel) (by decide +kernel) ?_; intro u; clear u) | (refine held_start [0, 3] ?_; refine is_held ?_))) | (refine is_held ?_; (first | (refine held_end (by decide +kernel) ?_; intro u; clear u) | (refine held_load [0, 3] 0 _ (by rfl) (.head _) rfl (by decide +kernel) ?_; intro u; clear u) | (refine held_load [0, 3] 3 _ (by rfl) (.tail _ (.head _)) rfl (by decide +kernel) ?_; intro u; clear u) | (refine held_step [0, 3] 1 (by rfl) rfl (by decide +kernel) ?_; intro u; clear u) | (refine held_step [0, 3] 4 (by rfl) rfl (by decide +kernel) ?_; intro u; clear u) | (refine held_step [0, 3] 5 (by rfl) rfl (by decide +kernel) ?_; intro u; clear u))) | (refine is_kept ?_; refine Kept.mk ?_ ?_; focus (repeat' (first | exact trivial | apply And.intro | exact rfl))) | (refine is_asked ?_; (refine asked (some 6, _) ⟨⟨rfl, by omega, by omega⟩, rfl⟩ ?_); intro u; clear u) | (refine is_call ?_; (first | refine call_auto (hR) (lets_rfl rfl) (by exact trivial) rfl ?_ | refine call_inline Try.func71 rfl rfl ?_); intro u; clear u))
    all_goals (first | ((refine con_end ?_ rfl; intro u; clear u; refine ⟨rfl, rfl, EntGoal.mk ?_ ?_⟩ <;> (repeat' (first | exact trivial | (with_reducible rfl) | apply And.intro | rfl))); done))
theorem open7 (cur to gen tick ver b : Int) : CallCon Try.prog 36 [.agg [.v (.int .u8 7), .v (.int .i64 cur), .v (.int .i64 to), .v (.int .i64 gen), .v (.int .i64 tick), .v (.int .i64 ver)], .one (.v (.int .i64 b))] [] (.tup [ctlN (opC ⟨7, cur, to, gen, tick, ver⟩ b), .one (.b (opOk ⟨7, cur, to, gen, tick, ver⟩ b))]) [] := by
  have hR := mvright_con ⟨7, cur, to, gen, tick, ver⟩ (by show (0 : Int) ≤ 7; decide)
  have ho : ¬ opOk ⟨7, cur, to, gen, tick, ver⟩ b := fun h => absurd h.2.1 (by show ¬ ((7 : Int) = 2 ∨ (7 : Int) = 3 ∨ (7 : Int) = 5 ∨ (7 : Int) = 6); decide)
  rw [opC_no ho, decide_eq_false ho]
  refine con_of_call2 rfl ?_
  refine call_inline Try.func36 rfl rfl ?_
  intro _
  repeat' (first | (refine is_draw (id := 1) ?_; refine mask_start mixed rfl ?_) | (refine is_mask ?_; (first | (refine mask_take 2 (by rfl) (by decide +kernel) (by decide +kernel) ?_; intro u; clear u) | (refine held_start [0, 3] ?_; refine is_held ?_))) | (refine is_held ?_; (first | (refine held_end (by decide +kernel) ?_; intro u; clear u) | (refine held_load [0, 3] 0 _ (by rfl) (.head _) rfl (by decide +kernel) ?_; intro u; clear u) | (refine held_load [0, 3] 3 _ (by rfl) (.tail _ (.head _)) rfl (by decide +kernel) ?_; intro u; clear u) | (refine held_step [0, 3] 1 (by rfl) rfl (by decide +kernel) ?_; intro u; clear u) | (refine held_step [0, 3] 4 (by rfl) rfl (by decide +kernel) ?_; intro u; clear u) | (refine held_step [0, 3] 5 (by rfl) rfl (by decide +kernel) ?_; intro u; clear u))) | (refine is_kept ?_; refine Kept.mk ?_ ?_; focus (repeat' (first | exact trivial | apply And.intro | exact rfl))) | (refine is_asked ?_; (refine asked (some 7, _) ⟨⟨rfl, by omega, by omega⟩, rfl⟩ ?_); intro u; clear u) | (refine is_call ?_; refine call_inline Try.func71 rfl rfl ?_; intro u; clear u))
  all_goals (first | ((refine con_end ?_ rfl; intro u; clear u; refine ⟨rfl, rfl, EntGoal.mk ?_ ?_⟩ <;> (repeat' (first | exact trivial | (with_reducible rfl) | apply And.intro | rfl))); done))
theorem open_else (ph cur to gen tick ver b : Int) (hp : 7 < ph) : CallCon Try.prog 36 [.agg [.v (.int .u8 ph), .v (.int .i64 cur), .v (.int .i64 to), .v (.int .i64 gen), .v (.int .i64 tick), .v (.int .i64 ver)], .one (.v (.int .i64 b))] [] (.tup [ctlN (opC ⟨ph, cur, to, gen, tick, ver⟩ b), .one (.b (opOk ⟨ph, cur, to, gen, tick, ver⟩ b))]) [] := by
  have ho : ¬ opOk ⟨ph, cur, to, gen, tick, ver⟩ b := fun h => by
    have h2 : ph = 2 ∨ ph = 3 ∨ ph = 5 ∨ ph = 6 := h.2.1
    omega
  have hR := mvright_con ⟨ph, cur, to, gen, tick, ver⟩ (by show (0 : Int) ≤ ph; omega)
  rw [opC_no ho, decide_eq_false ho]
  refine con_of_call2 rfl ?_
  refine call_inline Try.func36 rfl rfl ?_
  intro _
  repeat' (first | (refine is_draw (id := 1) ?_; refine mask_start mixed rfl ?_) | (refine is_mask ?_; (first | (refine mask_take 2 (by rfl) (by decide +kernel) (by decide +kernel) ?_; intro u; clear u) | (refine held_start [0, 3] ?_; refine is_held ?_))) | (refine is_held ?_; (first | (refine held_end (by decide +kernel) ?_; intro u; clear u) | (refine held_load [0, 3] 0 _ (by rfl) (.head _) rfl (by decide +kernel) ?_; intro u; clear u) | (refine held_load [0, 3] 3 _ (by rfl) (.tail _ (.head _)) rfl (by decide +kernel) ?_; intro u; clear u) | (refine held_step [0, 3] 1 (by rfl) rfl (by decide +kernel) ?_; intro u; clear u) | (refine held_step [0, 3] 4 (by rfl) rfl (by decide +kernel) ?_; intro u; clear u) | (refine held_step [0, 3] 5 (by rfl) rfl (by decide +kernel) ?_; intro u; clear u))) | (refine is_kept ?_; refine Kept.mk ?_ ?_; focus (repeat' (first | exact trivial | apply And.intro | exact rfl))) | (refine is_asked ?_; (refine asked (none, _) ⟨.inr (by omega), rfl⟩ ?_); intro u; clear u) | (refine is_call ?_; refine call_inline Try.func71 rfl rfl ?_; intro u; clear u))
  all_goals (first | ((refine con_end ?_ rfl; intro u; clear u; refine ⟨rfl, rfl, EntGoal.mk ?_ ?_⟩ <;> (repeat' (first | exact trivial | (with_reducible rfl) | apply And.intro | rfl))); done))
theorem open_con (m : Mv) (b : Int) (h0 : 0 ≤ m.ph) : CallCon Try.prog 36 [mvT m, .one (.v (.int .i64 b))] [] (.tup [ctlN (opC m b), .one (.b (opOk m b))]) [] := by
  obtain ⟨ph, cur, to, gen, tick, ver⟩ := m
  change 0 ≤ ph at h0
  by_cases h : 7 < ph
  · exact open_else ph cur to gen tick ver b h
  have : ph = 0 ∨ ph = 1 ∨ ph = 2 ∨ ph = 3 ∨ ph = 4 ∨ ph = 5 ∨ ph = 6 ∨ ph = 7 := by omega
  rcases this with rfl | rfl | rfl | rfl | rfl | rfl | rfl | rfl
  · exact open0 cur to gen tick ver b
  · exact open1 cur to gen tick ver b
  · exact open2 cur to gen tick ver b
  · exact open3 cur to gen tick ver b
  · exact open4 cur to gen tick ver b
  · exact open5 cur to gen tick ver b
  · exact open6 cur to gen tick ver b
  · exact open7 cur to gen tick ver b
end Go.Proofs.S19
