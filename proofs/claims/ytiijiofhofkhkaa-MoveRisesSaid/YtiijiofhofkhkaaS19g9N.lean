/- Contracts of functions of the program, or a row of the seat, proved out of them. No condition beyond those that stand in each statement. -/
import Derived.Test.YtiijiofhofkhkaaS19g9M
namespace Go.Proofs.S19
open Go Go.SE
set_option maxRecDepth 100000
set_option maxHeartbeats 4000000
attribute [local irreducible] specI

def tickP (n : Int) : Prop := 0 ≤ n ∧ n ≤ 1099511627776

def bgM (m : Mv) (to least : Int) : Mv := if okMv m then if (0 ≤ to ∧ to ≤ 5) then if m.cur ≠ to then if m.ph = 1 then if m.ver ≤ least then if m.gen ≤ 2147483639 then ⟨2, m.cur, to, m.gen + 1, m.tick, m.ver⟩ else m else m else m else m else m else m
def bgE (m : Mv) (to least : Int) : Int := if okMv m then if (0 ≤ to ∧ to ≤ 5) then if m.cur ≠ to then if m.ph = 1 then if m.ver ≤ least then if m.gen ≤ 2147483639 then 0 else 150 else 221 else 220 else 2 else 2 else 2
theorem bg_con (m : Mv) (to least : Int) (h0 : 0 ≤ m.ph) : CallCon Try.prog 30 [mvT m, .one (.v (.int .i64 to)), .one (.v (.int .i64 least))] [] (.tup [mvT (bgM m to least), .one (.v (.int .i64 (bgE m to least)))]) [] := by
  have hR := mvright_con m h0
  have hN := node_con to
  by_cases c0 : okMv m
  · have hR := con_yes hR c0; have hb1 := c0.1; have hb2 := c0.2.1; have hb3 := c0.2.2.1
    by_cases c1 : (0 ≤ to ∧ to ≤ 5)
    · have hN := con_yes hN c1
      by_cases c2 : m.cur ≠ to
      · skip
        by_cases c3 : m.ph = 1
        · skip
          by_cases c4 : m.ver ≤ least
          · skip
            by_cases c5 : m.gen ≤ 2147483639
            · skip
              rw [show bgM m to least = ⟨2, m.cur, to, m.gen + 1, m.tick, m.ver⟩ by unfold bgM; rw [if_pos c0, if_pos c1, if_pos c2, if_pos c3, if_pos c4, if_pos c5], show bgE m to least = 0 by unfold bgE; rw [if_pos c0, if_pos c1, if_pos c2, if_pos c3, if_pos c4, if_pos c5]]
              refine con_of_call2 rfl ?_
              refine call_inline Try.func30 rfl rfl ?_
              intro _
              repeat' (first | (refine is_split ?_; refine sp_no (by (first | exact dec_f (by omega) | exact ndec_f (by omega))) ?_ <;> (intro u; clear u)) | (refine is_asked ?_; (refine is_spec ?_; (with_reducible refine asked _ (sp_add (by simp only [lo, hi]; omega) (by simp only [lo, hi]; omega)) ?_)); intro u; clear u) | (refine is_draw ?_; refine draw_step mixed (by kernel_rfl) ?_; intro u; clear u) | (refine is_scope ?_; refine scope_step ?_; intro u; clear u) | (refine is_call ?_; (first | refine call_auto (hR) (lets_rfl rfl) (by exact trivial) rfl ?_ | refine call_auto (hN) (lets_rfl rfl) (by exact trivial) rfl ?_); intro u; clear u))
              all_goals (refine con_end ?_ rfl; intro u; clear u; refine ⟨rfl, rfl, EntGoal.mk ?_ ?_⟩ <;> (repeat' (first | exact trivial | (with_reducible rfl) | apply And.intro | rfl)))
            · skip
              rw [show bgM m to least = m by unfold bgM; rw [if_pos c0, if_pos c1, if_pos c2, if_pos c3, if_pos c4, if_neg c5], show bgE m to least = 150 by unfold bgE; rw [if_pos c0, if_pos c1, if_pos c2, if_pos c3, if_pos c4, if_neg c5]]
              refine con_of_call2 rfl ?_
              refine call_inline Try.func30 rfl rfl ?_
              intro _
              repeat' (first | (refine is_split ?_; (first | refine sp_yes (by exact dec_t (by omega)) ?_ | refine sp_no (by (first | exact dec_f (by omega) | exact ndec_f (by omega))) ?_) <;> (intro u; clear u)) | (refine is_scope ?_; refine scope_step ?_; intro u; clear u) | (refine is_call ?_; (first | refine call_auto (hR) (lets_rfl rfl) (by exact trivial) rfl ?_ | refine call_auto (hN) (lets_rfl rfl) (by exact trivial) rfl ?_); intro u; clear u))
              all_goals (refine con_end ?_ rfl; intro u; clear u; refine ⟨rfl, rfl, EntGoal.mk ?_ ?_⟩ <;> (repeat' (first | exact trivial | (with_reducible rfl) | apply And.intro | rfl)))
          · skip
            rw [show bgM m to least = m by unfold bgM; rw [if_pos c0, if_pos c1, if_pos c2, if_pos c3, if_neg c4], show bgE m to least = 221 by unfold bgE; rw [if_pos c0, if_pos c1, if_pos c2, if_pos c3, if_neg c4]]
            refine con_of_call2 rfl ?_
            refine call_inline Try.func30 rfl rfl ?_
            intro _
            repeat' (first | (refine is_split ?_; (first | refine sp_yes (by exact dec_t (by omega)) ?_ | refine sp_no (by (first | exact dec_f (by omega) | exact ndec_f (by omega))) ?_) <;> (intro u; clear u)) | (refine is_scope ?_; refine scope_step ?_; intro u; clear u) | (refine is_call ?_; (first | refine call_auto (hR) (lets_rfl rfl) (by exact trivial) rfl ?_ | refine call_auto (hN) (lets_rfl rfl) (by exact trivial) rfl ?_); intro u; clear u))
            all_goals (refine con_end ?_ rfl; intro u; clear u; refine ⟨rfl, rfl, EntGoal.mk ?_ ?_⟩ <;> (repeat' (first | exact trivial | (with_reducible rfl) | apply And.intro | rfl)))
        · skip
          rw [show bgM m to least = m by unfold bgM; rw [if_pos c0, if_pos c1, if_pos c2, if_neg c3], show bgE m to least = 220 by unfold bgE; rw [if_pos c0, if_pos c1, if_pos c2, if_neg c3]]
          refine con_of_call2 rfl ?_
          refine call_inline Try.func30 rfl rfl ?_
          intro _
          repeat' (first | (refine is_split ?_; (first | refine sp_yes (by exact ndec_t (by omega)) ?_ | refine sp_no (by exact dec_f (by omega)) ?_) <;> (intro u; clear u)) | (refine is_scope ?_; refine scope_step ?_; intro u; clear u) | (refine is_call ?_; (first | refine call_auto (hR) (lets_rfl rfl) (by exact trivial) rfl ?_ | refine call_auto (hN) (lets_rfl rfl) (by exact trivial) rfl ?_); intro u; clear u))
          all_goals (refine con_end ?_ rfl; intro u; clear u; refine ⟨rfl, rfl, EntGoal.mk ?_ ?_⟩ <;> (repeat' (first | exact trivial | (with_reducible rfl) | apply And.intro | rfl)))
      · skip
        rw [show bgM m to least = m by unfold bgM; rw [if_pos c0, if_pos c1, if_neg c2], show bgE m to least = 2 by unfold bgE; rw [if_pos c0, if_pos c1, if_neg c2]]
        refine con_of_call2 rfl ?_
        refine call_inline Try.func30 rfl rfl ?_
        intro _
        repeat' (first | (refine is_split ?_; refine sp_yes (by exact dec_t (by omega)) ?_ <;> (intro u; clear u)) | (refine is_scope ?_; refine scope_step ?_; intro u; clear u) | (refine is_call ?_; (first | refine call_auto (hR) (lets_rfl rfl) (by exact trivial) rfl ?_ | refine call_auto (hN) (lets_rfl rfl) (by exact trivial) rfl ?_); intro u; clear u))
        all_goals (refine con_end ?_ rfl; intro u; clear u; refine ⟨rfl, rfl, EntGoal.mk ?_ ?_⟩ <;> (repeat' (first | exact trivial | (with_reducible rfl) | apply And.intro | rfl)))
    · have hN := con_no hN c1
      rw [show bgM m to least = m by unfold bgM; rw [if_pos c0, if_neg c1], show bgE m to least = 2 by unfold bgE; rw [if_pos c0, if_neg c1]]
      refine con_of_call2 rfl ?_
      refine call_inline Try.func30 rfl rfl ?_
      intro _
      repeat' (first | (refine is_scope ?_; refine scope_step ?_; intro u; clear u) | (refine is_call ?_; (first | refine call_auto (hR) (lets_rfl rfl) (by exact trivial) rfl ?_ | refine call_auto (hN) (lets_rfl rfl) (by exact trivial) rfl ?_); intro u; clear u))
      all_goals (refine con_end ?_ rfl; intro u; clear u; refine ⟨rfl, rfl, EntGoal.mk ?_ ?_⟩ <;> (repeat' (first | exact trivial | (with_reducible rfl) | apply And.intro | rfl)))
  · have hR := con_no hR c0
    rw [show bgM m to least = m by unfold bgM; rw [if_neg c0], show bgE m to least = 2 by unfold bgE; rw [if_neg c0]]
    refine con_of_call2 rfl ?_
    refine call_inline Try.func30 rfl rfl ?_
    intro _
    repeat' (first | (refine is_scope ?_; refine scope_step ?_; intro u; clear u) | (refine is_call ?_; refine call_auto (hR) (lets_rfl rfl) (by exact trivial) rfl ?_; intro u; clear u))
    all_goals (refine con_end ?_ rfl; intro u; clear u; refine ⟨rfl, rfl, EntGoal.mk ?_ ?_⟩ <;> (repeat' (first | exact trivial | (with_reducible rfl) | apply And.intro | rfl)))
def seM (m : Mv) (to : Int) : Mv := if okMv m then if (0 ≤ to ∧ to ≤ 5) then if m.gen ≤ 2147483645 then ⟨6, -1, to, m.gen + 1, m.tick, m.ver⟩ else m else m else m
def seE (m : Mv) (to : Int) : Int := if okMv m then if (0 ≤ to ∧ to ≤ 5) then if m.gen ≤ 2147483645 then 0 else 150 else 2 else 2
theorem se_con (m : Mv) (to : Int) (h0 : 0 ≤ m.ph) : CallCon Try.prog 31 [mvT m, .one (.v (.int .i64 to))] [] (.tup [mvT (seM m to), .one (.v (.int .i64 (seE m to)))]) [] := by
  have hR := mvright_con m h0
  have hN := node_con to
  by_cases c0 : okMv m
  · have hR := con_yes hR c0; have hb1 := c0.1; have hb2 := c0.2.1; have hb3 := c0.2.2.1
    by_cases c1 : (0 ≤ to ∧ to ≤ 5)
    · have hN := con_yes hN c1
      by_cases c2 : m.gen ≤ 2147483645
      · skip
        rw [show seM m to = ⟨6, -1, to, m.gen + 1, m.tick, m.ver⟩ by unfold seM; rw [if_pos c0, if_pos c1, if_pos c2], show seE m to = 0 by unfold seE; rw [if_pos c0, if_pos c1, if_pos c2]]
        refine con_of_call2 rfl ?_
        refine call_inline Try.func31 rfl rfl ?_
        intro _
        repeat' (first | (refine is_split ?_; refine sp_no (by exact dec_f (by omega)) ?_ <;> (intro u; clear u)) | (refine is_asked ?_; (refine is_spec ?_; (with_reducible refine asked _ (sp_add (by simp only [lo, hi]; omega) (by simp only [lo, hi]; omega)) ?_)); intro u; clear u) | (refine is_call ?_; (first | refine call_auto (hR) (lets_rfl rfl) (by exact trivial) rfl ?_ | refine call_auto (hN) (lets_rfl rfl) (by exact trivial) rfl ?_); intro u; clear u))
        all_goals (refine con_end ?_ rfl; intro u; clear u; refine ⟨rfl, rfl, EntGoal.mk ?_ ?_⟩ <;> (repeat' (first | exact trivial | (with_reducible rfl) | apply And.intro | rfl)))
      · skip
        rw [show seM m to = m by unfold seM; rw [if_pos c0, if_pos c1, if_neg c2], show seE m to = 150 by unfold seE; rw [if_pos c0, if_pos c1, if_neg c2]]
        refine con_of_call2 rfl ?_
        refine call_inline Try.func31 rfl rfl ?_
        intro _
        repeat' (first | (refine is_split ?_; refine sp_yes (by exact dec_t (by omega)) ?_ <;> (intro u; clear u)) | (refine is_call ?_; (first | refine call_auto (hR) (lets_rfl rfl) (by exact trivial) rfl ?_ | refine call_auto (hN) (lets_rfl rfl) (by exact trivial) rfl ?_); intro u; clear u))
        all_goals (refine con_end ?_ rfl; intro u; clear u; refine ⟨rfl, rfl, EntGoal.mk ?_ ?_⟩ <;> (repeat' (first | exact trivial | (with_reducible rfl) | apply And.intro | rfl)))
    · have hN := con_no hN c1
      rw [show seM m to = m by unfold seM; rw [if_pos c0, if_neg c1], show seE m to = 2 by unfold seE; rw [if_pos c0, if_neg c1]]
      refine con_of_call2 rfl ?_
      refine call_inline Try.func31 rfl rfl ?_
      intro _
      repeat' (refine is_call ?_; (first | refine call_auto (hR) (lets_rfl rfl) (by exact trivial) rfl ?_ | refine call_auto (hN) (lets_rfl rfl) (by exact trivial) rfl ?_); intro u; clear u)
      all_goals (refine con_end ?_ rfl; intro u; clear u; refine ⟨rfl, rfl, EntGoal.mk ?_ ?_⟩ <;> (repeat' (first | exact trivial | (with_reducible rfl) | apply And.intro | rfl)))
  · have hR := con_no hR c0
    rw [show seM m to = m by unfold seM; rw [if_neg c0], show seE m to = 2 by unfold seE; rw [if_neg c0]]
    refine con_of_call2 rfl ?_
    refine call_inline Try.func31 rfl rfl ?_
    intro _
    repeat' (refine is_call ?_; refine call_auto (hR) (lets_rfl rfl) (by exact trivial) rfl ?_; intro u; clear u)
    all_goals (refine con_end ?_ rfl; intro u; clear u; refine ⟨rfl, rfl, EntGoal.mk ?_ ?_⟩ <;> (repeat' (first | exact trivial | (with_reducible rfl) | apply And.intro | rfl)))
def agM (m : Mv) (to : Int) : Mv := if okMv m then if (0 ≤ to ∧ to ≤ 5) then if m.cur ≠ to then if (2 ≤ m.ph ∧ m.ph ≤ 5) then if m.gen ≤ 2147483645 then ⟨2, m.cur, to, m.gen + 1, m.tick, m.ver⟩ else m else m else m else m else m
def agE (m : Mv) (to : Int) : Int := if okMv m then if (0 ≤ to ∧ to ≤ 5) then if m.cur ≠ to then if (2 ≤ m.ph ∧ m.ph ≤ 5) then if m.gen ≤ 2147483645 then 0 else 150 else 223 else 2 else 2 else 2
theorem ag_con (m : Mv) (to : Int) (h0 : 0 ≤ m.ph) : CallCon Try.prog 35 [mvT m, .one (.v (.int .i64 to))] [] (.tup [mvT (agM m to), .one (.v (.int .i64 (agE m to)))]) [] := by
  have hR := mvright_con m h0
  have hN := node_con to
  by_cases c0 : okMv m
  · have hR := con_yes hR c0; have hb1 := c0.1; have hb2 := c0.2.1; have hb3 := c0.2.2.1
    by_cases c1 : (0 ≤ to ∧ to ≤ 5)
    · have hN := con_yes hN c1
      by_cases c2 : m.cur ≠ to
      · skip
        by_cases c3 : (2 ≤ m.ph ∧ m.ph ≤ 5)
        · skip
          by_cases c4 : m.gen ≤ 2147483645
          · skip
            rw [show agM m to = ⟨2, m.cur, to, m.gen + 1, m.tick, m.ver⟩ by unfold agM; rw [if_pos c0, if_pos c1, if_pos c2, if_pos c3, if_pos c4], show agE m to = 0 by unfold agE; rw [if_pos c0, if_pos c1, if_pos c2, if_pos c3, if_pos c4]]
            refine con_of_call2 rfl ?_
            refine call_inline Try.func35 rfl rfl ?_
            intro _
            repeat' (first | (refine is_split ?_; refine sp_no (by exact dec_f (by omega)) ?_ <;> (intro u; clear u)) | (refine is_asked ?_; (refine is_spec ?_; (with_reducible refine asked _ (sp_add (by simp only [lo, hi]; omega) (by simp only [lo, hi]; omega)) ?_)); intro u; clear u) | (refine is_call ?_; (first | refine call_auto (hR) (lets_rfl rfl) (by exact trivial) rfl ?_ | refine call_auto (hN) (lets_rfl rfl) (by exact trivial) rfl ?_); intro u; clear u))
            all_goals (refine con_end ?_ rfl; intro u; clear u; refine ⟨rfl, rfl, EntGoal.mk ?_ ?_⟩ <;> (repeat' (first | exact trivial | (with_reducible rfl) | apply And.intro | rfl)))
          · skip
            rw [show agM m to = m by unfold agM; rw [if_pos c0, if_pos c1, if_pos c2, if_pos c3, if_neg c4], show agE m to = 150 by unfold agE; rw [if_pos c0, if_pos c1, if_pos c2, if_pos c3, if_neg c4]]
            refine con_of_call2 rfl ?_
            refine call_inline Try.func35 rfl rfl ?_
            intro _
            repeat' (first | (refine is_split ?_; (first | refine sp_yes (by exact dec_t (by omega)) ?_ | refine sp_no (by exact dec_f (by omega)) ?_) <;> (intro u; clear u)) | (refine is_call ?_; (first | refine call_auto (hR) (lets_rfl rfl) (by exact trivial) rfl ?_ | refine call_auto (hN) (lets_rfl rfl) (by exact trivial) rfl ?_); intro u; clear u))
            all_goals (refine con_end ?_ rfl; intro u; clear u; refine ⟨rfl, rfl, EntGoal.mk ?_ ?_⟩ <;> (repeat' (first | exact trivial | (with_reducible rfl) | apply And.intro | rfl)))
        · skip
          rw [show agM m to = m by unfold agM; rw [if_pos c0, if_pos c1, if_pos c2, if_neg c3], show agE m to = 223 by unfold agE; rw [if_pos c0, if_pos c1, if_pos c2, if_neg c3]]
          refine con_of_call2 rfl ?_
          refine call_inline Try.func35 rfl rfl ?_
          intro _
          repeat' (first | (refine is_split ?_; (first | refine sp_yes (by exact dec_t (by omega)) ?_ | refine sp_no (by exact dec_f (by omega)) ?_ | refine sp_dec (fun g => ?_) (fun g => ?_)) <;> (intro u; clear u)) | (refine is_call ?_; (first | refine call_auto (hR) (lets_rfl rfl) (by exact trivial) rfl ?_ | refine call_auto (hN) (lets_rfl rfl) (by exact trivial) rfl ?_); intro u; clear u))
          all_goals (refine con_end ?_ rfl; intro u; clear u; refine ⟨rfl, rfl, EntGoal.mk ?_ ?_⟩ <;> (repeat' (first | exact trivial | (with_reducible rfl) | apply And.intro | rfl)))
      · skip
        rw [show agM m to = m by unfold agM; rw [if_pos c0, if_pos c1, if_neg c2], show agE m to = 2 by unfold agE; rw [if_pos c0, if_pos c1, if_neg c2]]
        refine con_of_call2 rfl ?_
        refine call_inline Try.func35 rfl rfl ?_
        intro _
        repeat' (first | (refine is_split ?_; refine sp_yes (by exact dec_t (by omega)) ?_ <;> (intro u; clear u)) | (refine is_call ?_; (first | refine call_auto (hR) (lets_rfl rfl) (by exact trivial) rfl ?_ | refine call_auto (hN) (lets_rfl rfl) (by exact trivial) rfl ?_); intro u; clear u))
        all_goals (refine con_end ?_ rfl; intro u; clear u; refine ⟨rfl, rfl, EntGoal.mk ?_ ?_⟩ <;> (repeat' (first | exact trivial | (with_reducible rfl) | apply And.intro | rfl)))
    · have hN := con_no hN c1
      rw [show agM m to = m by unfold agM; rw [if_pos c0, if_neg c1], show agE m to = 2 by unfold agE; rw [if_pos c0, if_neg c1]]
      refine con_of_call2 rfl ?_
      refine call_inline Try.func35 rfl rfl ?_
      intro _
      repeat' (refine is_call ?_; (first | refine call_auto (hR) (lets_rfl rfl) (by exact trivial) rfl ?_ | refine call_auto (hN) (lets_rfl rfl) (by exact trivial) rfl ?_); intro u; clear u)
      all_goals (refine con_end ?_ rfl; intro u; clear u; refine ⟨rfl, rfl, EntGoal.mk ?_ ?_⟩ <;> (repeat' (first | exact trivial | (with_reducible rfl) | apply And.intro | rfl)))
  · have hR := con_no hR c0
    rw [show agM m to = m by unfold agM; rw [if_neg c0], show agE m to = 2 by unfold agE; rw [if_neg c0]]
    refine con_of_call2 rfl ?_
    refine call_inline Try.func35 rfl rfl ?_
    intro _
    repeat' (refine is_call ?_; refine call_auto (hR) (lets_rfl rfl) (by exact trivial) rfl ?_; intro u; clear u)
    all_goals (refine con_end ?_ rfl; intro u; clear u; refine ⟨rfl, rfl, EntGoal.mk ?_ ?_⟩ <;> (repeat' (first | exact trivial | (with_reducible rfl) | apply And.intro | rfl)))
def reM (m : Mv) (now window : Int) : Mv := if okMv m then if (0 ≤ now ∧ now ≤ 1099511627776) then if (0 ≤ window ∧ window ≤ 1099511627776) then if m.ph = 4 then if window ≤ now - m.tick then ⟨5, m.cur, m.to, m.gen, m.tick, m.ver⟩ else m else m else m else m else m
def reE (m : Mv) (now window : Int) : Int := if okMv m then if (0 ≤ now ∧ now ≤ 1099511627776) then if (0 ≤ window ∧ window ≤ 1099511627776) then if m.ph = 4 then if window ≤ now - m.tick then 0 else 222 else 223 else 2 else 2 else 2
theorem re_con (m : Mv) (now window : Int) (h0 : 0 ≤ m.ph) : CallCon Try.prog 32 [mvT m, .one (.v (.int .i64 now)), .one (.v (.int .i64 window))] [] (.tup [mvT (reM m now window), .one (.v (.int .i64 (reE m now window)))]) [] := by
  have hR := mvright_con m h0
  by_cases c0 : okMv m
  · have hR := con_yes hR c0; have hb1 := c0.1; have hb2 := c0.2.1; have hb3 := c0.2.2.1
    by_cases c1 : (0 ≤ now ∧ now ≤ 1099511627776)
    · skip
      by_cases c2 : (0 ≤ window ∧ window ≤ 1099511627776)
      · skip
        by_cases c3 : m.ph = 4
        · skip
          by_cases c4 : window ≤ now - m.tick
          · skip
            rw [show reM m now window = ⟨5, m.cur, m.to, m.gen, m.tick, m.ver⟩ by unfold reM; rw [if_pos c0, if_pos c1, if_pos c2, if_pos c3, if_pos c4], show reE m now window = 0 by unfold reE; rw [if_pos c0, if_pos c1, if_pos c2, if_pos c3, if_pos c4]]
            refine con_of_call2 rfl ?_
            refine call_inline Try.func32 rfl rfl ?_
            intro _
            repeat' (first | (refine is_split ?_; (first | refine sp_yes (by exact dec_t (by omega)) ?_ | refine sp_no (by exact ndec_f (by omega)) ?_) <;> (intro u; clear u)) | (refine is_asked ?_; (refine is_spec ?_; (with_reducible refine asked _ (sp_sub (by simp only [lo, hi]; omega) (by simp only [lo, hi]; omega)) ?_)); intro u; clear u) | (refine is_call ?_; (first | refine call_auto (hR) (lets_rfl rfl) (by exact trivial) rfl ?_ | refine call_inline Try.func65 rfl rfl ?_); intro u; clear u))
            all_goals (refine con_end ?_ rfl; intro u; clear u; refine ⟨rfl, rfl, EntGoal.mk ?_ ?_⟩ <;> (repeat' (first | exact trivial | (with_reducible rfl) | apply And.intro | rfl)))
          · skip
            rw [show reM m now window = m by unfold reM; rw [if_pos c0, if_pos c1, if_pos c2, if_pos c3, if_neg c4], show reE m now window = 222 by unfold reE; rw [if_pos c0, if_pos c1, if_pos c2, if_pos c3, if_neg c4]]
            refine con_of_call2 rfl ?_
            refine call_inline Try.func32 rfl rfl ?_
            intro _
            repeat' (first | (refine is_split ?_; (first | refine sp_yes (by exact dec_t (by omega)) ?_ | refine sp_no (by (first | exact dec_f (by omega) | exact ndec_f (by omega))) ?_) <;> (intro u; clear u)) | (refine is_asked ?_; (refine is_spec ?_; (with_reducible refine asked _ (sp_sub (by simp only [lo, hi]; omega) (by simp only [lo, hi]; omega)) ?_)); intro u; clear u) | (refine is_call ?_; (first | refine call_auto (hR) (lets_rfl rfl) (by exact trivial) rfl ?_ | refine call_inline Try.func65 rfl rfl ?_); intro u; clear u))
            all_goals (refine con_end ?_ rfl; intro u; clear u; refine ⟨rfl, rfl, EntGoal.mk ?_ ?_⟩ <;> (repeat' (first | exact trivial | (with_reducible rfl) | apply And.intro | rfl)))
        · skip
          rw [show reM m now window = m by unfold reM; rw [if_pos c0, if_pos c1, if_pos c2, if_neg c3], show reE m now window = 223 by unfold reE; rw [if_pos c0, if_pos c1, if_pos c2, if_neg c3]]
          refine con_of_call2 rfl ?_
          refine call_inline Try.func32 rfl rfl ?_
          intro _
          repeat' (first | (refine is_split ?_; (first | refine sp_yes (by exact dec_t (by omega)) ?_ | refine sp_no (by (first | exact dec_f (by omega) | exact ndec_f (by omega))) ?_) <;> (intro u; clear u)) | (refine is_call ?_; (first | refine call_auto (hR) (lets_rfl rfl) (by exact trivial) rfl ?_ | refine call_inline Try.func65 rfl rfl ?_); intro u; clear u))
          all_goals (refine con_end ?_ rfl; intro u; clear u; refine ⟨rfl, rfl, EntGoal.mk ?_ ?_⟩ <;> (repeat' (first | exact trivial | (with_reducible rfl) | apply And.intro | rfl)))
      · skip
        rw [show reM m now window = m by unfold reM; rw [if_pos c0, if_pos c1, if_neg c2], show reE m now window = 2 by unfold reE; rw [if_pos c0, if_pos c1, if_neg c2]]
        refine con_of_call2 rfl ?_
        refine call_inline Try.func32 rfl rfl ?_
        intro _
        repeat' (first | (refine is_split ?_; (first | refine sp_yes (by (first | exact dec_t (by omega) | exact ndec_t (by omega))) ?_ | refine sp_no (by exact ndec_f (by omega)) ?_ | refine sp_dec (fun g => ?_) (fun g => ?_)) <;> (intro u; clear u)) | (refine is_call ?_; (first | refine call_auto (hR) (lets_rfl rfl) (by exact trivial) rfl ?_ | refine call_inline Try.func65 rfl rfl ?_); intro u; clear u))
        all_goals (refine con_end ?_ rfl; intro u; clear u; refine ⟨rfl, rfl, EntGoal.mk ?_ ?_⟩ <;> (repeat' (first | exact trivial | (with_reducible rfl) | apply And.intro | rfl)))
    · skip
      rw [show reM m now window = m by unfold reM; rw [if_pos c0, if_neg c1], show reE m now window = 2 by unfold reE; rw [if_pos c0, if_neg c1]]
      refine con_of_call2 rfl ?_
      refine call_inline Try.func32 rfl rfl ?_
      intro _
      repeat' (first | (refine is_split ?_; (first | refine sp_yes (by exact ndec_t (by omega)) ?_ | refine sp_dec (fun g => ?_) (fun g => ?_)) <;> (intro u; clear u)) | (refine is_call ?_; (first | refine call_auto (hR) (lets_rfl rfl) (by exact trivial) rfl ?_ | refine call_inline Try.func65 rfl rfl ?_); intro u; clear u))
      all_goals (refine con_end ?_ rfl; intro u; clear u; refine ⟨rfl, rfl, EntGoal.mk ?_ ?_⟩ <;> (repeat' (first | exact trivial | (with_reducible rfl) | apply And.intro | rfl)))
  · have hR := con_no hR c0
    rw [show reM m now window = m by unfold reM; rw [if_neg c0], show reE m now window = 2 by unfold reE; rw [if_neg c0]]
    refine con_of_call2 rfl ?_
    refine call_inline Try.func32 rfl rfl ?_
    intro _
    repeat' (refine is_call ?_; refine call_auto (hR) (lets_rfl rfl) (by exact trivial) rfl ?_; intro u; clear u)
    all_goals (refine con_end ?_ rfl; intro u; clear u; refine ⟨rfl, rfl, EntGoal.mk ?_ ?_⟩ <;> (repeat' (first | exact trivial | (with_reducible rfl) | apply And.intro | rfl)))

def mvRowE (m : Mv) : Ent := if okMv m then (if m.ph = 4 then ⟨m.to, m.cur, m.gen, m.tick⟩ else if m.ph = 1 then ⟨m.cur, -1, m.gen, m.tick⟩ else zeroE) else zeroE
def mvRowB (m : Mv) : Prop := okMv m ∧ (m.ph = 4 ∨ m.ph = 1)
instance (m : Mv) : Decidable (mvRowB m) := by unfold mvRowB; infer_instance
theorem mvrow_con (m : Mv) (h0 : 0 ≤ m.ph) : CallCon Try.prog 37 [mvT m] [] (.tup [entT (mvRowE m), .one (.b (mvRowB m))]) [] := by
  have hR := mvright_con m h0
  by_cases c0 : okMv m
  · have hR := con_yes hR c0
    by_cases c1 : m.ph = 4
    · rw [show mvRowE m = ⟨m.to, m.cur, m.gen, m.tick⟩ by unfold mvRowE; rw [if_pos c0, if_pos c1], decide_eq_true (show mvRowB m from ⟨c0, .inl c1⟩)]
      refine con_of_call2 rfl ?_
      refine call_inline Try.func37 rfl rfl ?_
      intro _
      repeat' (first | (refine is_split ?_; refine sp_yes (by exact dec_t (by omega)) ?_ <;> (intro u; clear u)) | (refine is_draw ?_; refine draw_step mixed (by kernel_rfl) ?_; intro u; clear u) | (refine is_call ?_; refine call_auto (hR) (lets_rfl rfl) (by exact trivial) rfl ?_; intro u; clear u))
      all_goals (refine con_end ?_ rfl; intro u; clear u; refine ⟨rfl, rfl, EntGoal.mk ?_ ?_⟩ <;> (repeat' (first | exact trivial | (with_reducible rfl) | apply And.intro | rfl)))
    · by_cases c2 : m.ph = 1
      · rw [show mvRowE m = ⟨m.cur, -1, m.gen, m.tick⟩ by unfold mvRowE; rw [if_pos c0, if_neg c1, if_pos c2], decide_eq_true (show mvRowB m from ⟨c0, .inr c2⟩)]
        refine con_of_call2 rfl ?_
        refine call_inline Try.func37 rfl rfl ?_
        intro _
        repeat' (first | (refine is_split ?_; (first | refine sp_yes (by exact dec_t (by omega)) ?_ | refine sp_no (by exact dec_f (by omega)) ?_) <;> (intro u; clear u)) | (refine is_call ?_; refine call_auto (hR) (lets_rfl rfl) (by exact trivial) rfl ?_; intro u; clear u))
        all_goals (refine con_end ?_ rfl; intro u; clear u; refine ⟨rfl, rfl, EntGoal.mk ?_ ?_⟩ <;> (repeat' (first | exact trivial | (with_reducible rfl) | apply And.intro | rfl)))
      · rw [show mvRowE m = zeroE by unfold mvRowE; rw [if_pos c0, if_neg c1, if_neg c2], decide_eq_false (show ¬ mvRowB m from fun h => by have := h.2; omega)]
        refine con_of_call2 rfl ?_
        refine call_inline Try.func37 rfl rfl ?_
        intro _
        repeat' (first | (refine is_split ?_; refine sp_no (by exact dec_f (by omega)) ?_ <;> (intro u; clear u)) | (refine is_call ?_; refine call_auto (hR) (lets_rfl rfl) (by exact trivial) rfl ?_; intro u; clear u))
        all_goals (refine con_end ?_ rfl; intro u; clear u; refine ⟨rfl, rfl, EntGoal.mk ?_ ?_⟩ <;> (repeat' (first | exact trivial | (with_reducible rfl) | apply And.intro | rfl)))
  · have hR := con_no hR c0
    rw [show mvRowE m = zeroE by unfold mvRowE; rw [if_neg c0], decide_eq_false (show ¬ mvRowB m from fun h => c0 h.1)]
    refine con_of_call2 rfl ?_
    refine call_inline Try.func37 rfl rfl ?_
    intro _
    repeat' (refine is_call ?_; refine call_auto (hR) (lets_rfl rfl) (by exact trivial) rfl ?_; intro u; clear u)
    all_goals (refine con_end ?_ rfl; intro u; clear u; refine ⟨rfl, rfl, EntGoal.mk ?_ ?_⟩ <;> (repeat' (first | exact trivial | (with_reducible rfl) | apply And.intro | rfl)))
theorem mvnew_con : CallCon Try.prog 63 [] [] (.t (mvT ⟨0, -1, -1, 0, 0, 0⟩)) [] := by
  refine con_of_call2 rfl ?_
  refine call_inline Try.func63 rfl rfl ?_
  intro _
  repeat' fail
  all_goals (refine con_end ?_ rfl; intro u; clear u; refine ⟨rfl, rfl, EntGoal.mk ?_ ?_⟩ <;> (repeat' (first | exact trivial | (with_reducible rfl) | apply And.intro | rfl)))
def atM (m : Mv) (ver : Int) : Mv := if m.ph = 1 then (if okMv m then (if (0 ≤ ver ∧ ver ≤ 1099511627776) then ⟨m.ph, m.cur, m.to, m.gen, m.tick, ver⟩ else m) else m) else m
theorem at_con (m : Mv) (ver : Int) (h0 : 0 ≤ m.ph) : CallCon Try.prog 61 [mvT m, .one (.v (.int .i64 ver))] [] (.t (mvT (atM m ver))) [] := by
  have hR := mvright_con m h0
  by_cases c0 : m.ph = 1
  · by_cases c1 : okMv m
    · have hR := con_yes hR c1
      by_cases c2 : (0 ≤ ver ∧ ver ≤ 1099511627776)
      · rw [show atM m ver = ⟨m.ph, m.cur, m.to, m.gen, m.tick, ver⟩ by unfold atM; rw [if_pos c0, if_pos c1, if_pos c2]]
        refine con_of_call2 rfl ?_
        refine call_inline Try.func61 rfl rfl ?_
        intro _
        repeat' (first | (refine is_split ?_; refine sp_yes (by exact dec_t (by omega)) ?_ <;> (intro u; clear u)) | (refine is_call ?_; (first | refine call_auto (hR) (lets_rfl rfl) (by exact trivial) rfl ?_ | refine call_inline Try.func65 rfl rfl ?_); intro u; clear u))
        all_goals (refine con_end ?_ rfl; intro u; clear u; refine ⟨rfl, rfl, EntGoal.mk ?_ ?_⟩ <;> (repeat' (first | exact trivial | (with_reducible rfl) | apply And.intro | rfl)))
      · rw [show atM m ver = m by unfold atM; rw [if_pos c0, if_pos c1, if_neg c2]]
        refine con_of_call2 rfl ?_
        refine call_inline Try.func61 rfl rfl ?_
        intro _
        repeat' (first | (refine is_split ?_; (first | refine sp_yes (by exact dec_t (by omega)) ?_ | refine sp_no (by exact dec_f (by omega)) ?_ | refine sp_dec (fun g => ?_) (fun g => ?_)) <;> (intro u; clear u)) | (refine is_call ?_; (first | refine call_auto (hR) (lets_rfl rfl) (by exact trivial) rfl ?_ | refine call_inline Try.func65 rfl rfl ?_); intro u; clear u))
        all_goals (refine con_end ?_ rfl; intro u; clear u; refine ⟨rfl, rfl, EntGoal.mk ?_ ?_⟩ <;> (repeat' (first | exact trivial | (with_reducible rfl) | apply And.intro | rfl)))
    · have hR := con_no hR c1
      rw [show atM m ver = m by unfold atM; rw [if_pos c0, if_neg c1]]
      refine con_of_call2 rfl ?_
      refine call_inline Try.func61 rfl rfl ?_
      intro _
      repeat' (first | (refine is_split ?_; refine sp_yes (by exact dec_t (by omega)) ?_ <;> (intro u; clear u)) | (refine is_call ?_; refine call_auto (hR) (lets_rfl rfl) (by exact trivial) rfl ?_; intro u; clear u))
      all_goals (refine con_end ?_ rfl; intro u; clear u; refine ⟨rfl, rfl, EntGoal.mk ?_ ?_⟩ <;> (repeat' (first | exact trivial | (with_reducible rfl) | apply And.intro | rfl)))
  · rw [show atM m ver = m by unfold atM; rw [if_neg c0]]
    refine con_of_call2 rfl ?_
    refine call_inline Try.func61 rfl rfl ?_
    intro _
    repeat' (refine is_split ?_; refine sp_no (by exact dec_f (by omega)) ?_ <;> (intro u; clear u))
    all_goals (refine con_end ?_ rfl; intro u; clear u; refine ⟨rfl, rfl, EntGoal.mk ?_ ?_⟩ <;> (repeat' (first | exact trivial | (with_reducible rfl) | apply And.intro | rfl)))
theorem refmvright_con (m : Mv) (h0 : 0 ≤ m.ph) : CallCon Try.prog 28 [mvT m] [] (.t (.one (.b (okMv m)))) [] := by
  refine con_of_call2 rfl ?_
  refine call_inline Try.func28 rfl rfl ?_
  intro _
  repeat' (first | (refine is_split ?_; (first | refine sp_yes (by exact dec_t (by omega)) ?_ | refine sp_no (by exact dec_f (by omega)) ?_ | refine sp_dec (fun g => ?_) (fun g => ?_) | refine sp_ndec (fun g => ?_) (fun g => ?_)) <;> (intro u; clear u)) | (refine is_call ?_; (first | refine call_inline Try.func58 rfl rfl ?_ | refine call_inline Try.func59 rfl rfl ?_ | refine call_inline Try.func83 rfl rfl ?_); intro u; clear u))
  all_goals (first | (refine end_no ?_ ?_; (focus (unfold okMv; omega)); (refine con_end ?_ rfl; intro u; clear u; refine ⟨rfl, rfl, EntGoal.mk ?_ ?_⟩ <;> (repeat' (first | exact trivial | (with_reducible rfl) | apply And.intro | rfl))); done) | (refine end_yes ?_ ?_; (focus (unfold okMv; omega)); (refine con_end ?_ rfl; intro u; clear u; refine ⟨rfl, rfl, EntGoal.mk ?_ ?_⟩ <;> (repeat' (first | exact trivial | (with_reducible rfl) | apply And.intro | rfl))); done) | (refine end_iff ?_ ?_; (focus (unfold okMv; omega)); (refine con_end ?_ rfl; intro u; clear u; refine ⟨rfl, rfl, EntGoal.mk ?_ ?_⟩ <;> (repeat' (first | exact trivial | (with_reducible rfl) | apply And.intro | rfl))); done) | (refine end_niff ?_ ?_; (focus (unfold okMv; omega)); (refine con_end ?_ rfl; intro u; clear u; refine ⟨rfl, rfl, EntGoal.mk ?_ ?_⟩ <;> (repeat' (first | exact trivial | (with_reducible rfl) | apply And.intro | rfl))); done))
end Go.Proofs.S19
