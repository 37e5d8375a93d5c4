/- Contracts of functions of the program, or a row of the seat, proved out of them. No condition beyond those that stand in each statement. -/
import Derived.Test.YtddagjjnojlojaaS11gCr
namespace Go.Proofs.S11
open Go Go.SE
set_option maxRecDepth 100000
set_option maxHeartbeats 4000000
attribute [local irreducible] specI

def cbC (c : Cl) (b : List Int) : Cl := if tkOk b then ctC c (tkSh b) else c
def cbB (c : Cl) (b : List Int) : Prop := tkOk b ∧ ctOk c (tkSh b)
instance (c : Cl) (b : List Int) : Decidable (cbB c b) := by unfold cbB; infer_instance
def cbE (c : Cl) (b : List Int) : Int := if tkOk b then ctE c (tkSh b) else tkE b
theorem tkE_ok {b : List Int} (h : tkOk b) : tkE b = 0 := by
  have hsh : ¬ tkShort b := by unfold tkOk at h; unfold tkShort; omega
  unfold tkE; rw [if_neg hsh, if_pos h]
theorem tkE_no {b : List Int} (h : ¬ tkOk b) : tkE b = 61 ∨ tkE b = 60 := by
  unfold tkE
  split
  · exact .inl rfl
  · first | exact .inr rfl | (rw [if_neg h]; exact .inr rfl)
theorem mrgK_rows {c : Cl} {s : Sh} (h : c.tab.rows.length = 16) : (ctC c s).tab.rows.length = 16 := by
  unfold ctC
  split
  · show (mrgK (baseT c) s.rows s.rows.length).rows.length = 16
    rw [mrgK_len]; exact baseT_len h
  · exact h
theorem cbC_rows {c : Cl} {b : List Int} (h : c.tab.rows.length = 16) : (cbC c b).tab.rows.length = 16 := by
  unfold cbC
  split
  · exact mrgK_rows h
  · exact h

theorem clbytes_con {c : Cl} (h : c.tab.rows.length = 16) {b : List Int} (hb : Bytes b) (hl : b.length ≤ 100000) : CallCon Try.prog 35 [clT c, .one (.sl 0 0 b.length)] [.row (ints .u8 b) 1 5 false] (.tup [clT (cbC c b), .one (.b (cbB c b)), .one (.v (.int .i64 (cbE c b)))]) [] := by
  have hT := take_con hb hl
  have hle := tkSh_le hb
  have hC := cltake_con h (tkSh b) (by omega)
  by_cases hk : tkOk b
  · rw [show cbC c b = ctC c (tkSh b) by unfold cbC; rw [if_pos hk], show cbE c b = ctE c (tkSh b) by unfold cbE; rw [if_pos hk], show decide (cbB c b) = decide (ctOk c (tkSh b)) by rw [decide_eq_decide]; unfold cbB; simp [hk]]
    rw [tkE_ok hk] at hT
    refine con_of_call2 rfl ?_
    refine call_inline Try.func35 rfl rfl ?_
    intro _
    repeat' (first | (refine is_split ?_; refine sp_no (by rfl) ?_ <;> (intro u; clear u)) | (refine is_call ?_; (first | refine call_auto (hT) (lets_rfl rfl) (by exact ⟨⟨_, rfl, rfl, rfl⟩, trivial⟩) rfl ?_ | refine call_auto (hC) (lets_rfl rfl) (by exact ⟨⟨_, rfl, rfl, rfl⟩, trivial⟩) rfl ?_); intro u; clear u))
    all_goals (refine con_end ?_ rfl; intro u; clear u; refine ⟨rfl, rfl, EntGoal.mk ?_ ?_⟩ <;> (repeat' (first | exact trivial | (with_reducible rfl) | apply And.intro | rfl)))
  · rw [show cbC c b = c by unfold cbC; rw [if_neg hk], show cbE c b = tkE b by unfold cbE; rw [if_neg hk], decide_eq_false (show ¬ cbB c b from fun q => hk q.1)]
    have hne := tkE_no hk
    refine con_of_call2 rfl ?_
    refine call_inline Try.func35 rfl rfl ?_
    intro _
    repeat' (first | (refine is_split ?_; refine sp_yes (by exact ndec_t (by omega)) ?_ <;> (intro u; clear u)) | (refine is_call ?_; refine call_auto (hT) (lets_rfl rfl) (by exact ⟨⟨_, rfl, rfl, rfl⟩, trivial⟩) rfl ?_; intro u; clear u))
    all_goals (refine con_end ?_ rfl; intro u; clear u; refine ⟨rfl, rfl, EntGoal.mk ?_ ?_⟩ <;> (repeat' (first | exact trivial | (with_reducible rfl) | apply And.intro | rfl)))
theorem refclbytes_con {c : Cl} (h : c.tab.rows.length = 16) {b : List Int} (hb : Bytes b) (hl : b.length ≤ 100000) : CallCon Try.prog 36 [clT c, .one (.sl 0 0 b.length)] [.row (ints .u8 b) 1 5 false] (.tup [clT (cbC c b), .one (.b (cbB c b)), .one (.v (.int .i64 (cbE c b)))]) [] := by
  have hT := reftake_con hb hl
  have hle := tkSh_le hb
  have hC := refcltake_con h (tkSh b) (by omega)
  by_cases hk : tkOk b
  · rw [show cbC c b = ctC c (tkSh b) by unfold cbC; rw [if_pos hk], show cbE c b = ctE c (tkSh b) by unfold cbE; rw [if_pos hk], show decide (cbB c b) = decide (ctOk c (tkSh b)) by rw [decide_eq_decide]; unfold cbB; simp [hk]]
    rw [tkE_ok hk] at hT
    refine con_of_call2 rfl ?_
    refine call_inline Try.func36 rfl rfl ?_
    intro _
    repeat' (first | (refine is_split ?_; refine sp_no (by rfl) ?_ <;> (intro u; clear u)) | (refine is_call ?_; (first | refine call_auto (hT) (lets_rfl rfl) (by exact ⟨⟨_, rfl, rfl, rfl⟩, trivial⟩) rfl ?_ | refine call_auto (hC) (lets_rfl rfl) (by exact ⟨⟨_, rfl, rfl, rfl⟩, trivial⟩) rfl ?_); intro u; clear u))
    all_goals (refine con_end ?_ rfl; intro u; clear u; refine ⟨rfl, rfl, EntGoal.mk ?_ ?_⟩ <;> (repeat' (first | exact trivial | (with_reducible rfl) | apply And.intro | rfl)))
  · rw [show cbC c b = c by unfold cbC; rw [if_neg hk], show cbE c b = tkE b by unfold cbE; rw [if_neg hk], decide_eq_false (show ¬ cbB c b from fun q => hk q.1)]
    have hne := tkE_no hk
    refine con_of_call2 rfl ?_
    refine call_inline Try.func36 rfl rfl ?_
    intro _
    repeat' (first | (refine is_split ?_; refine sp_yes (by exact ndec_t (by omega)) ?_ <;> (intro u; clear u)) | (refine is_call ?_; refine call_auto (hT) (lets_rfl rfl) (by exact ⟨⟨_, rfl, rfl, rfl⟩, trivial⟩) rfl ?_; intro u; clear u))
    all_goals (refine con_end ?_ rfl; intro u; clear u; refine ⟨rfl, rfl, EntGoal.mk ?_ ?_⟩ <;> (repeat' (first | exact trivial | (with_reducible rfl) | apply And.intro | rfl)))

theorem clgreat_con (s : Sh) : CallCon Try.prog 31 [shT 0 s] [.row (rowsV s.rows) 5 48 false] (.t (.one (.b (40 < s.rows.length)))) [] := by
  refine con_of_call2 rfl ?_
  refine call_inline Try.func31 rfl rfl ?_
  intro _
  repeat' fail
  (refine con_end ?_ rfl; intro u; clear u; refine ⟨rfl, rfl, EntGoal.mk ?_ ?_⟩ <;> (repeat' (first | exact trivial | (with_reducible rfl) | apply And.intro | rfl)))
  show decide _ = decide _
  rw [decide_eq_decide]; omega
theorem at_con (v : Int) : CallCon Try.prog 59 [.one (.v (.int .i64 v))] [] (.t (tabT ⟨v, newTab.rows⟩)) [] := by
  refine con_of_call2 rfl ?_
  refine call_inline Try.func59 rfl rfl ?_
  intro _
  repeat' (refine is_call ?_; refine call_auto (refnew_con) (lets_rfl rfl) (by exact trivial) rfl ?_; intro u; clear u)
  (refine con_end ?_ rfl; intro u; clear u; refine ⟨rfl, rfl, EntGoal.mk ?_ ?_⟩ <;> (repeat' (first | exact trivial | (with_reducible rfl) | apply And.intro | rfl)))

def vT (v : Int) : Tab := ⟨v, newTab.rows⟩
def tT : Tab := ⟨3, newTab.rows.set 2 ⟨1, -1, 4, 0⟩⟩
def uT : Tab := ⟨5, newTab.rows.set 2 ⟨0, 1, 5, 0⟩⟩
def aC : Cl := ⟨true, tT⟩
def bC : Cl := ⟨true, uT⟩
def snS : Sh := ofSh tT
def dlS : Sh := ⟨2, 5, [⟨2, ⟨0, 1, 5, 0⟩⟩]⟩
def gpS : Sh := ⟨7, 8, []⟩
theorem v1 : ofSh tT = snS ∧ ofE tT = 0 := ⟨rfl, by decide +kernel⟩
theorem v2 : dlSh (vT 2) uT = dlS ∧ dlE (vT 2) uT = 0 := by decide +kernel
theorem v3 : dlSh (vT 7) (vT 8) = gpS ∧ dlE (vT 7) (vT 8) = 0 := by decide +kernel
theorem v4 : ctC zeroCl dlS = zeroCl ∧ ¬ ctOk zeroCl dlS ∧ ctE zeroCl dlS = 120 := by decide +kernel
theorem v5 : ctC zeroCl snS = aC ∧ ctOk zeroCl snS ∧ ctE zeroCl snS = 0 := by decide +kernel
theorem v6 : ctC aC dlS = bC ∧ ctOk aC dlS ∧ ctE aC dlS = 0 := by decide +kernel
theorem v7 : ctC bC snS = bC ∧ ¬ ctOk bC snS ∧ ctE bC snS = 0 := by decide +kernel
theorem v8 : ctC bC gpS = bC ∧ ¬ ctOk bC gpS ∧ ctE bC gpS = 120 := by decide +kernel
theorem v9 : cbC bC [] = bC ∧ ¬ cbB bC [] ∧ cbE bC [] = 61 := by decide +kernel
theorem v10 : clRowE bC 2 = ⟨0, 1, 5, 0⟩ ∧ clRowB bC 2 ∧ clRowE zeroCl 2 = zeroE ∧ ¬ clRowB zeroCl 2 := by decide +kernel
theorem v11 : hasV aC = 3 ∧ hasV bC = 5 ∧ hasV zeroCl = -1 := by decide +kernel
theorem v12 : okCl bC ∧ ¬ okCl ⟨false, tT⟩ := by decide +kernel
theorem con_known3 {P : Program} {f : FuncId} {args : List T} {pre : List Reg} {post : List Reg} {x y : T} {c : Bool} (h : CallCon P f args pre (.tup [x, .one (.b c), y]) post) : CallCon P f args pre (.tup [x, .one (.v (.bool c)), y]) post := by
  refine ⟨h.ent, fun n ρ w ys hp hys => (h.go n ρ w ys hp hys).mono ?_⟩
  rintro e w' ⟨v, ρ', h1, h2, h3⟩
  obtain ⟨zs, rfl, h4⟩ := h2
  refine ⟨_, ρ', h1, ⟨zs, rfl, ?_⟩, h3⟩
  match zs, h4 with
  | [_, _, _], ⟨h5, h6, h7, h8⟩ => exact ⟨h5, ⟨h6, rfl⟩, h7, h8⟩

theorem clwakes_con : CallCon Try.prog 32 [] [] (.t (.one (.v (.bool true)))) [] := by
  have h1 := refof_con tT
  rw [v1.1, v1.2] at h1
  have h2 := refdelta_con (vT 2) uT
  rw [v2.1, v2.2] at h2
  have h3 := refdelta_con (vT 7) (vT 8)
  rw [v3.1, v3.2] at h3
  have h4 := cltake_con (c := zeroCl) rfl dlS (by decide)
  rw [v4.1, decide_eq_false v4.2.1, v4.2.2] at h4
  have h5 := cltake_con (c := zeroCl) rfl snS (by decide)
  rw [v5.1, decide_eq_true v5.2.1, v5.2.2] at h5
  have h6 := cltake_con (c := aC) rfl dlS (by decide)
  rw [v6.1, decide_eq_true v6.2.1, v6.2.2] at h6
  have h7 := cltake_con (c := bC) rfl snS (by decide)
  rw [v7.1, decide_eq_false v7.2.1, v7.2.2] at h7
  have h8 := cltake_con (c := bC) rfl gpS (by decide)
  rw [v8.1, decide_eq_false v8.2.1, v8.2.2] at h8
  have h9 := clbytes_con (c := bC) rfl (b := []) (by intro x hx; cases hx) (by decide)
  rw [v9.1, decide_eq_false v9.2.1, v9.2.2] at h9
  have h9n := con_nil [clT bC, .one (.v (.slice none 0 0))] [] rfl h9 (by repeat' (first | exact trivial | exact rfl | exact Or.inl rfl | apply And.intro)) rfl
  have h10 := clrow_con bC 2
  rw [v10.1, decide_eq_true v10.2.1] at h10
  have h11 := clrow_con zeroCl 2
  rw [v10.2.2.1, decide_eq_false v10.2.2.2] at h11
  have h12 := has_con aC
  rw [v11.1] at h12
  have h13 := has_con bC
  rw [v11.2.1] at h13
  have h14 := has_con zeroCl
  rw [v11.2.2] at h14
  have h15 := con_yes (clright_con (c := bC) rfl) v12.1
  have h16 := con_no (clright_con (c := ⟨false, tT⟩) rfl) v12.2
  have h17 := at_con 3
  have h18 := at_con 5
  have h19 := at_con 2
  have h20 := at_con 7
  have h21 := at_con 8
  refine con_of_call2 rfl ?_
  refine call_inline Try.func32 rfl rfl ?_
  intro _
  repeat' (first | (refine is_split ?_; (refine sp_yes (show eqCl bC bC = true from (eqCl_iff rfl rfl).2 rfl) ?_) <;> (intro u; clear u)) | (refine is_asked ?_; refine asked () (by show heldFree Try.prog _ _ = true; decide +kernel) ?_; intro u; clear u) | (refine is_draw ?_; refine draw_step mixed (by kernel_rfl) ?_; intro u; clear u) | (refine is_call ?_; (first | refine call_auto (newcl_con) (lets_rfl rfl) (by exact trivial) rfl ?_ | refine call_le (by (repeat' (first | exact trivial | apply And.intro | exact rfl)); (first | done | fail)) (h17) (by exact trivial) rfl ?_ | refine call_le (by (repeat' (first | exact trivial | apply And.intro | exact rfl)); (first | done | fail)) (h18) (by exact trivial) rfl ?_ | refine call_le (by (repeat' (first | exact trivial | apply And.intro | exact rfl)); (first | done | fail)) (h20) (by exact trivial) rfl ?_ | refine call_le (by (repeat' (first | exact trivial | apply And.intro | exact rfl)); (first | done | fail)) (h21) (by exact trivial) rfl ?_ | refine call_le (by (repeat' (first | exact trivial | apply And.intro | exact rfl)); (first | done | fail)) (h1) (by exact trivial) rfl ?_ | refine call_auto (h3) (lets_rfl rfl) (by exact trivial) rfl ?_ | refine call_auto (con_known3 h6) (lets_rfl rfl) (by exact ⟨⟨_, rfl, rfl, rfl⟩, trivial⟩) rfl ?_ | refine call_auto (con_known3 h7) (lets_rfl rfl) (by exact ⟨⟨_, rfl, rfl, rfl⟩, trivial⟩) rfl ?_ | refine call_auto (con_known3 h8) (lets_rfl rfl) (by exact ⟨⟨_, rfl, rfl, rfl⟩, trivial⟩) rfl ?_ | refine call_auto (con_known3 h9n) (lets_rfl rfl) (by exact trivial) rfl ?_ | refine call_le (by (repeat' (first | exact trivial | apply And.intro | exact rfl)); (first | done | fail)) (con_known2 h10) (by exact trivial) rfl ?_ | refine call_le (by (repeat' (first | exact trivial | apply And.intro | exact rfl)); (first | done | fail)) (con_known2 h11) (by exact trivial) rfl ?_ | refine call_auto (h12) (lets_rfl rfl) (by exact trivial) rfl ?_ | refine call_auto (h13) (lets_rfl rfl) (by exact trivial) rfl ?_ | refine call_auto (h14) (lets_rfl rfl) (by exact trivial) rfl ?_ | refine call_auto (h15) (lets_rfl rfl) (by exact trivial) rfl ?_ | refine call_le (by (repeat' (first | exact trivial | apply And.intro | exact rfl)); (first | done | fail)) (h16) (by exact trivial) rfl ?_); intro u; clear u) | (refine is_dcall ?_; (first | refine dcall_auto (newcl_con) (lets_rfl rfl) (by exact trivial) rfl ?_ | refine dcall_le (by (repeat' (first | exact trivial | apply And.intro | exact rfl)); (first | done | fail)) (h19) (by exact trivial) rfl ?_ | refine dcall_le (by (repeat' (first | exact trivial | apply And.intro | exact rfl)); (first | done | fail)) (h2) (by exact trivial) rfl ?_ | refine dcall_auto (con_known3 h4) (lets_rfl rfl) (by exact ⟨⟨_, rfl, rfl, rfl⟩, trivial⟩) rfl ?_ | refine dcall_auto (con_known3 h5) (lets_rfl rfl) (by exact ⟨⟨_, rfl, rfl, rfl⟩, trivial⟩) rfl ?_); intro u; clear u))
  all_goals (refine con_end ?_ rfl; intro u; clear u; refine ⟨rfl, rfl, EntGoal.mk ?_ ?_⟩ <;> (repeat' (first | exact trivial | (with_reducible rfl) | apply And.intro | rfl)))
