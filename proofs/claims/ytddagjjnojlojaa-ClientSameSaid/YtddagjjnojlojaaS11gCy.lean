/- Contracts of functions of the program, or a row of the seat, proved out of them. No condition beyond those that stand in each statement. -/
import Derived.Test.YtddagjjnojlojaaS11gCb
namespace Go.Proofs.S11
open Go Go.SE
set_option maxRecDepth 100000
set_option maxHeartbeats 4000000
attribute [local irreducible] specI

theorem eqCl_self {c : Cl} (h : c.tab.rows.length = 16) : eqCl c c = true := (eqCl_iff h h).2 rfl
theorem eqEnt_self (e : Ent) : eqEnt e e = true := eqEnt_iff.2 rfl
theorem cl_ask (c : Cl) {a i n : Nat} (hi : i < 16) (hn : n = 4 := by exact cells23) (ha : a = 2 := by rfl) : cut (clS c) (a + i * n) n = entS (c.tab.at i) ∧ a + i * n + n ≤ (clS c).length := by
  subst hn ha
  refine ⟨?_, by show _ ≤ 66; omega⟩
  rw [show 2 + i * 4 = (1 + i * 4) + 1 by omega]
  exact tab_cut c.tab i hi
theorem clrows_con (c : Cl) (i : Int) : CallCon Try.prog 12 [clT c, .one (.v (.int .i64 i))] [] (.t (.one (.v (.bool true)))) [] := by
  have hr := clrow_con c i
  have hH := has_con c
  obtain ⟨b, t⟩ := c
  cases b
  · rw [show hasV ⟨false, t⟩ = -1 from rfl] at hH
    rw [decide_eq_false (show ¬ clRowB ⟨false, t⟩ i by unfold clRowB; simp), show clRowE ⟨false, t⟩ i = zeroE by unfold clRowE; simp] at hr
    have hr2 := con_known2 hr
    have hq : (!eqEnt zeroE zeroE) = false := by decide
    refine con_of_call2 rfl ?_
    refine call_inline Try.func12 rfl rfl ?_
    intro _
    repeat' (first | (refine is_split ?_; (first | refine sp_yes (by rfl) ?_ | refine sp_no (by rfl) ?_ | refine sp_dec (fun g => ?_) (fun g => ?_)) <;> (intro u; clear u)) | (refine is_asked ?_; refine asked () (by show heldFree Try.prog _ _ = true; decide +kernel) ?_; intro u; clear u) | (refine is_draw ?_; refine draw_step mixed (by kernel_rfl) ?_; intro u; clear u) | (refine is_call ?_; refine call_auto (hr2) (lets_rfl rfl) (by exact trivial) rfl ?_; intro u; clear u) | (refine is_dcall ?_; (first | refine dcall_auto (clwakes_con) (lets_rfl rfl) (by exact trivial) rfl ?_ | refine dcall_auto (hH) (lets_rfl rfl) (by exact trivial) rfl ?_); intro u; clear u))
    all_goals (refine con_end ?_ rfl; intro u; clear u; refine ⟨rfl, rfl, EntGoal.mk ?_ ?_⟩ <;> (repeat' (first | exact trivial | (with_reducible rfl) | apply And.intro | rfl)))
  · rw [show hasV ⟨true, t⟩ = t.ver from rfl] at hH
    by_cases h : 0 ≤ i ∧ i < 16
    · rw [decide_eq_true (show clRowB ⟨true, t⟩ i by unfold clRowB; simp [h]), show clRowE ⟨true, t⟩ i = t.at i.toNat by unfold clRowE rowE; simp [h]] at hr
      have hr2 := con_known2 hr
      have hq : (!eqEnt (t.at i.toNat) (t.at i.toNat)) = false := by rw [eqEnt_iff.2 rfl]; rfl
      refine con_of_call2 rfl ?_
      refine call_inline Try.func12 rfl rfl ?_
      intro _
      repeat' (first | (refine is_split ?_; (first | (refine sp_yes (show decide (t.ver = t.ver) = true from decide_eq_true rfl) ?_) | (refine sp_no hq ?_) | refine sp_yes (by exact dec_t (by omega)) ?_ | refine sp_ndec (fun g => ?_) (fun g => ?_)) <;> (intro u; clear u)) | (refine is_asked ?_; (first | (refine asked _ (cl_ask ⟨true, t⟩ (i := i.toNat) (by omega)) ?_) | refine asked () ⟨by omega, by omega⟩ ?_ | refine asked () (by show heldFree Try.prog _ _ = true; decide +kernel) ?_); intro u; clear u) | (refine is_draw ?_; refine draw_step mixed (by kernel_rfl) ?_; intro u; clear u) | (refine is_call ?_; refine call_auto (hr2) (lets_rfl rfl) (by exact trivial) rfl ?_; intro u; clear u) | (refine is_dcall ?_; (first | refine dcall_auto (clwakes_con) (lets_rfl rfl) (by exact trivial) rfl ?_ | refine dcall_auto (hH) (lets_rfl rfl) (by exact trivial) rfl ?_); intro u; clear u))
      all_goals (refine con_end ?_ rfl; intro u; clear u; refine ⟨rfl, rfl, EntGoal.mk ?_ ?_⟩ <;> (repeat' (first | exact trivial | (with_reducible rfl) | apply And.intro | rfl)))
      all_goals (rename_i g; first | exact (g (decide_eq_true (by omega)).symm).elim | exact (g (decide_eq_false (by omega)).symm).elim)
    · rw [decide_eq_false (show ¬ clRowB ⟨true, t⟩ i by unfold clRowB; simp; omega), show clRowE ⟨true, t⟩ i = zeroE by unfold clRowE rowE; simp [h]] at hr
      have hr2 := con_known2 hr
      refine con_of_call2 rfl ?_
      refine call_inline Try.func12 rfl rfl ?_
      intro _
      repeat' (first | (refine is_split ?_; (first | (refine sp_yes (show decide (t.ver = t.ver) = true from decide_eq_true rfl) ?_) | refine sp_no (by rfl) ?_ | refine sp_dec (fun g => ?_) (fun g => ?_) | refine sp_ndec (fun g => ?_) (fun g => ?_)) <;> (intro u; clear u)) | (refine is_asked ?_; refine asked () (by show heldFree Try.prog _ _ = true; decide +kernel) ?_; intro u; clear u) | (refine is_draw ?_; refine draw_step mixed (by kernel_rfl) ?_; intro u; clear u) | (refine is_call ?_; refine call_auto (hr2) (lets_rfl rfl) (by exact trivial) rfl ?_; intro u; clear u) | (refine is_dcall ?_; (first | refine dcall_auto (clwakes_con) (lets_rfl rfl) (by exact trivial) rfl ?_ | refine dcall_auto (hH) (lets_rfl rfl) (by exact trivial) rfl ?_); intro u; clear u))
      all_goals (refine con_end ?_ rfl; intro u; clear u; refine ⟨rfl, rfl, EntGoal.mk ?_ ?_⟩ <;> (repeat' (first | exact trivial | (with_reducible rfl) | apply And.intro | rfl)))
      all_goals (rename_i g; first | exact (g (decide_eq_true (by omega)).symm).elim | exact (g (decide_eq_false (by omega)).symm).elim)

theorem clbytes_law {c : Cl} (h : c.tab.rows.length = 16) (s : Sh) {b : List Int} (hb : Bytes b) : CallCon Try.prog 11 [clT c, shT 0 s, .one (.sl 1 0 b.length)] [.row (rowsV s.rows) 5 48 false, .row (ints .u8 b) 1 5 false] (.t (.one (.v (.bool true)))) [] := by
  have g1 := clgreat_con s
  by_cases hg : 40 < s.rows.length ∨ 400 < b.length
  · refine con_of_call2 rfl ?_
    refine call_inline Try.func11 rfl rfl ?_
    intro _
    repeat' (first | (refine is_split ?_; (first | refine sp_yes (by exact dec_t (by omega)) ?_ | refine sp_dec (fun g => ?_) (fun g => ?_)) <;> (intro u; clear u)) | (refine is_call ?_; (first | refine call_auto (clwakes_con) (lets_rfl rfl) (by exact trivial) rfl ?_ | refine call_auto (g1) (lets_rfl rfl) (by exact ⟨⟨_, rfl, rfl, rfl⟩, trivial⟩) rfl ?_); intro u; clear u))
    all_goals (refine con_end ?_ rfl; intro u; clear u; refine ⟨rfl, rfl, EntGoal.mk ?_ ?_⟩ <;> (repeat' (first | exact trivial | (with_reducible rfl) | apply And.intro | rfl)))
  have g1 := con_no g1 (by omega)
  have a1 := refput_con s (by omega)
  have a2 := cltake_con h s (by omega)
  have hPb := putSh_byte s
  have hPl := putSh_le s
  have a3 := clbytes_con h hPb (by omega)
  have b1 := reftake_con hb (by omega)
  have b2 := clbytes_con h hb (by omega)
  have q1 := eqCl_self (mrgK_rows (s := s) h)
  have q3 := eqCl_self h
  -- what is told of the bytes given
  have key : CallCon Try.prog 22 [.one (.sl 0 0 b.length)] [.row (ints .u8 b) 1 5 false] (.tup [shT 0 (tkSh b), .one (.v (.int .i64 (tkE b)))]) [.row (rowsV (tkSh b).rows) 5 48 true] := b1
  by_cases hs : okSh s
  · have hk : tkOk (putSh s) := by
      have := (take_put hs).2
      by_cases hk : tkOk (putSh s)
      · exact hk
      · rcases tkE_no hk with e | e <;> rw [e] at this <;> cases this
    rw [show cbC c (putSh s) = ctC c s by unfold cbC; rw [if_pos hk, (take_put hs).1], show cbE c (putSh s) = ctE c s by unfold cbE; rw [if_pos hk, (take_put hs).1], show decide (cbB c (putSh s)) = decide (ctOk c s) by rw [decide_eq_decide]; unfold cbB; rw [(take_put hs).1]; simp [hk]] at a3
    rw [show putE s = 0 by unfold putE; rw [if_pos hs]] at a1
    by_cases hk2 : tkOk b
    · rw [tkE_ok hk2] at key
      generalize ctC c s = X at *
      generalize ctE c s = E1 at *
      generalize decide (ctOk c s) = B1 at *
      generalize cbC c b = Y at *
      generalize cbE c b = E2 at *
      generalize decide (cbB c b) = B2 at *
      generalize putSh s = Q at *
      refine con_of_call2 rfl ?_
      refine call_inline Try.func11 rfl rfl ?_
      intro _
      repeat' (first | (refine is_split ?_; (first | (refine sp_no (show (!eqCl X X) = false by rw [q1]; rfl) ?_) | (refine sp_no (show (!(B1 == B1)) = false by rw [beq_self_eq_true]; rfl) ?_) | refine sp_yes (by rfl) ?_ | refine sp_no (by (first | exact dec_f (by omega) | exact ndec_f (by omega))) ?_) <;> (intro u; clear u)) | (refine is_asked ?_; refine asked () (by show heldFree Try.prog _ _ = true; decide +kernel) ?_; intro u; clear u) | (refine is_call ?_; (first | refine call_auto (clwakes_con) (lets_rfl rfl) (by exact trivial) rfl ?_ | refine call_auto (g1) (lets_rfl rfl) (by exact ⟨⟨_, rfl, rfl, rfl⟩, trivial⟩) rfl ?_ | refine call_auto (a1) (lets_rfl rfl) (by exact ⟨⟨_, rfl, rfl, rfl⟩, trivial⟩) rfl ?_ | refine call_auto (a2) (lets_rfl rfl) (by exact ⟨⟨_, rfl, rfl, rfl⟩, trivial⟩) rfl ?_ | refine call_auto (a3) (lets_rfl rfl) (by exact ⟨⟨_, rfl, rfl, rfl⟩, trivial⟩) rfl ?_ | refine call_auto (key) (lets_rfl rfl) (by exact ⟨⟨_, rfl, rfl, rfl⟩, trivial⟩) rfl ?_ | refine call_auto (b2) (lets_rfl rfl) (by exact ⟨⟨_, rfl, rfl, rfl⟩, trivial⟩) rfl ?_); intro u; clear u))
      all_goals (refine con_end ?_ rfl; intro u; clear u; refine ⟨rfl, rfl, EntGoal.mk ?_ ?_⟩ <;> (repeat' (first | exact trivial | (with_reducible rfl) | apply And.intro | rfl)))
    · rw [show cbC c b = c by unfold cbC; rw [if_neg hk2], show cbE c b = tkE b by unfold cbE; rw [if_neg hk2], decide_eq_false (show ¬ cbB c b from fun q => hk2 q.1)] at b2
      have hne := tkE_no hk2
      have b3 := con_known3 b2
      generalize ctC c s = X at *
      generalize ctE c s = E1 at *
      generalize decide (ctOk c s) = B1 at *
      generalize putSh s = Q at *
      refine con_of_call2 rfl ?_
      refine call_inline Try.func11 rfl rfl ?_
      intro _
      repeat' (first | (refine is_split ?_; (first | (refine sp_no (show (!eqCl X X) = false by rw [q1]; rfl) ?_) | (refine sp_no (show (!(B1 == B1)) = false by rw [beq_self_eq_true]; rfl) ?_) | (refine sp_yes q3 ?_) | refine sp_yes (by (first | rfl | exact dec_t (by omega))) ?_ | refine sp_no (by (first | exact dec_f (by omega) | exact ndec_f (by omega))) ?_) <;> (intro u; clear u)) | (refine is_asked ?_; refine asked () (by show heldFree Try.prog _ _ = true; decide +kernel) ?_; intro u; clear u) | (refine is_call ?_; (first | refine call_auto (clwakes_con) (lets_rfl rfl) (by exact trivial) rfl ?_ | refine call_auto (g1) (lets_rfl rfl) (by exact ⟨⟨_, rfl, rfl, rfl⟩, trivial⟩) rfl ?_ | refine call_auto (a1) (lets_rfl rfl) (by exact ⟨⟨_, rfl, rfl, rfl⟩, trivial⟩) rfl ?_ | refine call_auto (a2) (lets_rfl rfl) (by exact ⟨⟨_, rfl, rfl, rfl⟩, trivial⟩) rfl ?_ | refine call_auto (a3) (lets_rfl rfl) (by exact ⟨⟨_, rfl, rfl, rfl⟩, trivial⟩) rfl ?_ | refine call_auto (key) (lets_rfl rfl) (by exact ⟨⟨_, rfl, rfl, rfl⟩, trivial⟩) rfl ?_ | refine call_auto (b3) (lets_rfl rfl) (by exact ⟨⟨_, rfl, rfl, rfl⟩, trivial⟩) rfl ?_); intro u; clear u))
      all_goals (refine con_end ?_ rfl; intro u; clear u; refine ⟨rfl, rfl, EntGoal.mk ?_ ?_⟩ <;> (repeat' (first | exact trivial | (with_reducible rfl) | apply And.intro | rfl)))
  · rw [show putE s = 2 by unfold putE; rw [if_neg hs]] at a1
    by_cases hk2 : tkOk b
    · rw [tkE_ok hk2] at key
      generalize cbC c b = Y at *
      generalize cbE c b = E2 at *
      generalize decide (cbB c b) = B2 at *
      refine con_of_call2 rfl ?_
      refine call_inline Try.func11 rfl rfl ?_
      intro _
      repeat' (first | (refine is_split ?_; (first | refine sp_yes (by rfl) ?_ | refine sp_no (by (first | rfl | exact dec_f (by omega))) ?_) <;> (intro u; clear u)) | (refine is_call ?_; (first | refine call_auto (clwakes_con) (lets_rfl rfl) (by exact trivial) rfl ?_ | refine call_auto (g1) (lets_rfl rfl) (by exact ⟨⟨_, rfl, rfl, rfl⟩, trivial⟩) rfl ?_ | refine call_auto (a1) (lets_rfl rfl) (by exact ⟨⟨_, rfl, rfl, rfl⟩, trivial⟩) rfl ?_ | refine call_auto (key) (lets_rfl rfl) (by exact ⟨⟨_, rfl, rfl, rfl⟩, trivial⟩) rfl ?_ | refine call_auto (b2) (lets_rfl rfl) (by exact ⟨⟨_, rfl, rfl, rfl⟩, trivial⟩) rfl ?_); intro u; clear u))
      all_goals (refine con_end ?_ rfl; intro u; clear u; refine ⟨rfl, rfl, EntGoal.mk ?_ ?_⟩ <;> (repeat' (first | exact trivial | (with_reducible rfl) | apply And.intro | rfl)))
    · rw [show cbC c b = c by unfold cbC; rw [if_neg hk2], show cbE c b = tkE b by unfold cbE; rw [if_neg hk2], decide_eq_false (show ¬ cbB c b from fun q => hk2 q.1)] at b2
      have hne := tkE_no hk2
      have b3 := con_known3 b2
      refine con_of_call2 rfl ?_
      refine call_inline Try.func11 rfl rfl ?_
      intro _
      repeat' (first | (refine is_split ?_; (first | (refine sp_yes q3 ?_) | refine sp_yes (by exact dec_t (by omega)) ?_ | refine sp_no (by (first | rfl | exact dec_f (by omega))) ?_) <;> (intro u; clear u)) | (refine is_asked ?_; refine asked () (by show heldFree Try.prog _ _ = true; decide +kernel) ?_; intro u; clear u) | (refine is_call ?_; (first | refine call_auto (clwakes_con) (lets_rfl rfl) (by exact trivial) rfl ?_ | refine call_auto (g1) (lets_rfl rfl) (by exact ⟨⟨_, rfl, rfl, rfl⟩, trivial⟩) rfl ?_ | refine call_auto (a1) (lets_rfl rfl) (by exact ⟨⟨_, rfl, rfl, rfl⟩, trivial⟩) rfl ?_ | refine call_auto (key) (lets_rfl rfl) (by exact ⟨⟨_, rfl, rfl, rfl⟩, trivial⟩) rfl ?_ | refine call_auto (b3) (lets_rfl rfl) (by exact ⟨⟨_, rfl, rfl, rfl⟩, trivial⟩) rfl ?_); intro u; clear u))
      all_goals (refine con_end ?_ rfl; intro u; clear u; refine ⟨rfl, rfl, EntGoal.mk ?_ ?_⟩ <;> (repeat' (first | exact trivial | (with_reducible rfl) | apply And.intro | rfl)))
