/- Contracts of functions of the program, or a row of the seat, proved out of them. No condition beyond those that stand in each statement. -/
import Derived.Test.YtlefpinmgabmfaaGreatSeD
import Derived.KernelRfl
import Derived.Test.YtlefpinmgabmfaaGreatProg
namespace Go.Proofs.S14.O6
open Go Go.SE
set_option maxRecDepth 100000
set_option maxHeartbeats 4000000
attribute [local irreducible] specI
theorem mixed : Tryz.prog.follows .mixedOrders = true := by kernel_rfl

structure Opt where
  kind : Int
  bucket : Int
  cur : Int
  prev : Int
  gen : Int
  tick : Int

def optT (o : Opt) : T := .agg [.v (.int .u8 o.kind), .v (.int .u8 o.bucket), .v (.int .i64 o.cur), .v (.int .i64 o.prev), .v (.int .i64 o.gen), .v (.int .i64 o.tick)]

structure Opt.Wf (o : Opt) : Prop where
  k0 : 0 ≤ o.kind
  k1 : o.kind ≤ 255
  b0 : 0 ≤ o.bucket
  b1 : o.bucket ≤ 255

def okOpt (o : Opt) : Bool :=
  decide (1 ≤ o.kind ∧ o.kind ≤ 5 ∧ 0 ≤ o.bucket ∧ o.bucket ≤ 15 ∧ -1 ≤ o.cur ∧ o.cur ≤ 5 ∧ -1 ≤ o.prev ∧ o.prev ≤ 5 ∧ 0 ≤ o.gen ∧ o.gen ≤ 2147483647 ∧ 0 ≤ o.tick ∧ o.tick ≤ 1099511627776)

theorem right_con {o : Opt} (h : o.Wf) : CallCon Tryz.prog 161 [optT o] [] (.t (.one (.b (okOpt o)))) [] := by
  obtain ⟨k0, k1, b0, b1⟩ := h
  refine con_of_call2 rfl ?_
  refine call_inline Tryz.func161 rfl rfl ?_
  intro _
  repeat' (first | (refine is_split ?_; (first | refine sp_no (by exact dec_f (by omega)) ?_ | refine sp_dec (fun g => ?_) (fun g => ?_)) <;> (intro u; clear u)) | (refine is_asked ?_; (refine is_wrap ?_; refine asked _ (wrap_lohi (by simp only [lo, hi]; omega) (by simp only [lo, hi]; omega)) ?_); intro u; clear u) | (refine is_loop ?_; refine loop_step ?_; intro u; clear u) | (refine is_yield ?_; refine yield_step rfl rfl rfl rfl ?_; intro u; clear u) | (refine is_range ?_; refine range_step rfl rfl ?_; intro u; clear u) | (refine is_scope ?_; refine scope_step ?_; intro u; clear u) | (refine is_call ?_; (first | refine call_inline Tryz.func162 rfl rfl ?_ | refine call_inline Tryz.func185 rfl rfl ?_); intro u; clear u))
  all_goals (refine con_end ?_ rfl; intro u; clear u; refine ⟨rfl, rfl, EntGoal.mk ?_ ?_⟩ <;> (repeat' (first | exact trivial | (with_reducible rfl) | apply And.intro | rfl)))
  all_goals (show _ = okOpt o; simp only [okOpt]; first | exact (decide_eq_true (by omega)).symm | exact (decide_eq_false (by omega)).symm | exact decide_eq_decide.2 (by omega))
theorem refright_con {o : Opt} (h : o.Wf) : CallCon Tryz.prog 76 [optT o] [] (.t (.one (.b (okOpt o)))) [] := by
  obtain ⟨k0, k1, b0, b1⟩ := h
  refine con_of_call2 rfl ?_
  refine call_inline Tryz.func76 rfl rfl ?_
  intro _
  repeat' (refine is_split ?_; refine sp_dec (fun g => ?_) (fun g => ?_) <;> (intro u; clear u))
  all_goals (refine con_end ?_ rfl; intro u; clear u; refine ⟨rfl, rfl, EntGoal.mk ?_ ?_⟩ <;> (repeat' (first | exact trivial | (with_reducible rfl) | apply And.intro | rfl)))
  all_goals (show _ = okOpt o; simp only [okOpt]; first | exact (decide_eq_true (by omega)).symm | exact (decide_eq_false (by omega)).symm | exact decide_eq_decide.2 (by omega))

def putS (o : Opt) : List Int := if okOpt o = true then [158, 16, o.kind, o.bucket, o.cur % 256, o.prev % 256, o.gen / 16777216 % 256, o.gen / 65536 % 256, o.gen / 256 % 256, o.gen % 256,
  o.tick / 1099511627776 % 256, o.tick / 4294967296 % 256, o.tick / 16777216 % 256, o.tick / 65536 % 256, o.tick / 256 % 256, o.tick % 256] else []
def putE (o : Opt) : Int := if okOpt o = true then 0 else 2

theorem put_con {o : Opt} (h : o.Wf) : CallCon Tryz.prog 125 [optT o] [] (.tup [.one (.sl 0 0 (putS o).length), .one (.v (.int .i64 (putE o)))]) [.row (ints .u8 (putS o)) 1 5 true] := by
  have hr := right_con h
  obtain ⟨k0, k1, b0, b1⟩ := h
  refine con_of_call2 rfl ?_
  refine call_inline Tryz.func125 rfl rfl ?_
  intro _
  refine call_use hr [] (lets_rfl rfl) trivial rfl ?_
  intro _
  refine Split.mk (fun g => ?_) (fun g => ?_) <;> intro _
  · have e1 : putS o = [] := by simp at g; simp [putS, g]
    have e2 : putE o = 2 := by simp at g; simp [putE, g]
    rw [e1, e2]
    (refine con_end ?_ rfl; intro u; clear u; refine ⟨rfl, rfl, EntGoal.mk ?_ ?_⟩ <;> (repeat' (first | exact trivial | (with_reducible rfl) | apply And.intro | rfl)))
  · have e1 : putS o = [158, 16, o.kind, o.bucket, o.cur % 256, o.prev % 256, o.gen / 16777216 % 256, o.gen / 65536 % 256, o.gen / 256 % 256, o.gen % 256,
      o.tick / 1099511627776 % 256, o.tick / 4294967296 % 256, o.tick / 16777216 % 256, o.tick / 65536 % 256, o.tick / 256 % 256, o.tick % 256] := by simp at g; simp [putS, g]
    have e2 : putE o = 0 := by simp at g; simp [putE, g]
    rw [e1, e2]
    repeat' (first | (refine is_asked ?_; (first | (refine is_spec ?_; (refine is_op (op := .shr) ?_; (first | refine asked _ (sp_shrL 8 256 (by decide) (by rfl) (by decide)) ?_ | refine asked _ (sp_shrL 16 65536 (by decide) (by rfl) (by decide)) ?_ | refine asked _ (sp_shrL 24 16777216 (by decide) (by rfl) (by decide)) ?_ | refine asked _ (sp_shrL 0 1 (by decide) (by rfl) (by decide)) ?_ | refine asked _ (sp_shrL 32 4294967296 (by decide) (by rfl) (by decide)) ?_ | refine asked _ (sp_shrL 40 1099511627776 (by decide) (by rfl) (by decide)) ?_))) | (refine is_wrap ?_; (first | refine asked _ (wrap_lohi (by simp only [lo, hi]; omega) (by simp only [lo, hi]; omega)) ?_ | refine asked _ (wrap_u8' _) ?_)) | refine asked _ (append_ask rfl rfl (by decide) (by decide)) ?_); intro u; clear u) | (refine is_loop ?_; refine loop_step ?_; intro u; clear u) | (refine is_yield ?_; refine yield_step rfl rfl rfl rfl ?_; intro u; clear u) | (refine is_draw ?_; refine draw_step mixed (by kernel_rfl) ?_; intro u; clear u) | (refine is_range ?_; refine range_step rfl rfl ?_; intro u; clear u) | (refine is_call ?_; (first | refine call_inline Tryz.func162 rfl rfl ?_ | refine call_inline Tryz.func185 rfl rfl ?_); intro u; clear u))
    all_goals (refine con_end ?_ rfl; intro u; clear u; refine ⟨rfl, rfl, EntGoal.mk ?_ ?_⟩ <;> (repeat' (first | exact trivial | (with_reducible rfl) | apply And.intro | rfl)))
    all_goals (simp [ints])


attribute [local irreducible] okOpt
theorem okOpt_bucket {o : Opt} (h : ¬ (0 ≤ o.bucket ∧ o.bucket ≤ 15)) : okOpt o = false := by
  unfold okOpt; exact decide_eq_false (by omega)
def zeroO : Opt := ⟨0, 0, 0, 0, 0, 0⟩
def mayO (o : Opt) : Opt := if okOpt o = true then o else zeroO
def mayE (o : Opt) : Int := if okOpt o = true then 0 else 2

theorem may_con {o : Opt} (h : o.Wf) : CallCon Tryz.prog 124 [optT o] [] (.tup [optT (mayO o), .one (.v (.int .i64 (mayE o)))]) [] := by
  have hr := right_con h
  refine con_of_call2 rfl ?_
  refine call_inline Tryz.func124 rfl rfl ?_
  intro _
  repeat' (first | (refine is_split ?_; refine Split.mk (fun g => ?_) (fun g => ?_) <;> (intro u; clear u)) | (refine is_call ?_; refine call_auto (hr) (lets_rfl rfl) (by exact trivial) rfl ?_; intro u; clear u))
  · have e1 : mayO o = zeroO := by simp at g; simp [mayO, g]
    have e2 : mayE o = 2 := by simp at g; simp [mayE, g]
    rw [e1, e2]
    (refine con_end ?_ rfl; intro u; clear u; refine ⟨rfl, rfl, EntGoal.mk ?_ ?_⟩ <;> (repeat' (first | exact trivial | (with_reducible rfl) | apply And.intro | rfl)))
  · have e1 : mayO o = o := by simp at g; simp [mayO, g]
    have e2 : mayE o = 0 := by simp at g; simp [mayE, g]
    rw [e1, e2]
    (refine con_end ?_ rfl; intro u; clear u; refine ⟨rfl, rfl, EntGoal.mk ?_ ?_⟩ <;> (repeat' (first | exact trivial | (with_reducible rfl) | apply And.intro | rfl)))

theorem of_con {kind bucket cur prev gen tick : Int} (h0 : 0 ≤ kind) (h1 : kind ≤ 255) : CallCon Tryz.prog 61 [.one (.v (.int .u8 kind)), .one (.v (.int .i64 bucket)), .agg [.v (.int .i64 cur), .v (.int .i64 prev), .v (.int .i64 gen), .v (.int .i64 tick)]] []
    (.tup [optT (mayO ⟨kind, bucket, cur, prev, gen, tick⟩), .one (.v (.int .i64 (mayE ⟨kind, bucket, cur, prev, gen, tick⟩)))]) [] := by
  refine con_of_call2 rfl ?_
  refine call_inline Tryz.func61 rfl rfl ?_
  intro _
  repeat' (first | (refine is_split ?_; refine sp_ndec (fun g => ?_) (fun g => ?_) <;> (intro u; clear u)) | (refine is_asked ?_; (refine is_wrap ?_; (first | refine asked _ (wrap_lohi (by simp only [lo, hi]; omega) (by simp only [lo, hi]; omega)) ?_ | refine asked _ (wrap_u8' _) ?_)); intro u; clear u) | (refine is_call ?_; refine call_auto (may_con (o := ⟨_, _, _, _, _, _⟩) ⟨by dsimp only; omega, by dsimp only; omega, by dsimp only; omega, by dsimp only; omega⟩) (lets_rfl rfl) (by exact trivial) rfl ?_; intro u; clear u))
  all_goals (refine con_end ?_ rfl; intro u; clear u; refine ⟨rfl, rfl, EntGoal.mk ?_ ?_⟩ <;> (repeat' (first | exact trivial | (with_reducible rfl) | apply And.intro | rfl)))
  all_goals (first | (simp [mayO, mayE, zeroO, okOpt_bucket (o := ⟨kind, bucket, cur, prev, gen, tick⟩) (by dsimp only; omega)]; done) | rw [Int.emod_eq_of_lt (by omega) (by omega)])
theorem refof_con {kind bucket cur prev gen tick : Int} (h0 : 0 ≤ kind) (h1 : kind ≤ 255) : CallCon Tryz.prog 38 [.one (.v (.int .u8 kind)), .one (.v (.int .i64 bucket)), .agg [.v (.int .i64 cur), .v (.int .i64 prev), .v (.int .i64 gen), .v (.int .i64 tick)]] []
    (.tup [optT (mayO ⟨kind, bucket, cur, prev, gen, tick⟩), .one (.v (.int .i64 (mayE ⟨kind, bucket, cur, prev, gen, tick⟩)))]) [] := by
  refine con_of_call2 rfl ?_
  refine call_inline Tryz.func38 rfl rfl ?_
  intro _
  repeat' (first | (refine is_split ?_; (first | refine sp_dec (fun g => ?_) (fun g => ?_) | refine Split.mk (fun g => ?_) (fun g => ?_)) <;> (intro u; clear u)) | (refine is_asked ?_; (refine is_wrap ?_; refine asked _ (wrap_lohi (by simp only [lo, hi]; omega) (by simp only [lo, hi]; omega)) ?_); intro u; clear u) | (refine is_call ?_; refine call_auto (refright_con (o := ⟨_, _, _, _, _, _⟩) ⟨by dsimp only; omega, by dsimp only; omega, by dsimp only; omega, by dsimp only; omega⟩) (lets_rfl rfl) (by exact trivial) rfl ?_; intro u; clear u))
  all_goals (refine con_end ?_ rfl; intro u; clear u; refine ⟨rfl, rfl, EntGoal.mk ?_ ?_⟩ <;> (repeat' (first | exact trivial | (with_reducible rfl) | apply And.intro | rfl)))
  all_goals (first | (simp at g; simp [mayO, mayE, g, zeroO]; done) | (simp [mayO, mayE, zeroO, okOpt_bucket (o := ⟨kind, bucket, cur, prev, gen, tick⟩) (by dsimp only; omega)]; done) | skip)
end Go.Proofs.S14.O6

namespace Go.Proofs.S14.O6
open Go Go.SE
set_option maxRecDepth 100000
set_option maxHeartbeats 4000000
attribute [local irreducible] specI
attribute [local irreducible] okOpt

def be4 (n : Int) : List Int := [n / 16777216 % 256, n / 65536 % 256, n / 256 % 256, n % 256]
def be6 (n : Int) : List Int := [n / 1099511627776 % 256, n / 4294967296 % 256, n / 16777216 % 256, n / 65536 % 256, n / 256 % 256, n % 256]

theorem bytes4_con {n : Int} : CallCon Tryz.prog 133 [.one (.v (.int .i64 n)), .one (.n .i64 4)] [] (.t (.one (.sl 0 0 4))) [.row (ints .u8 (be4 n)) 1 5 true] := by
  refine con_of_call2 rfl ?_
  refine call_inline Tryz.func133 rfl rfl ?_
  intro _
  repeat' (first | (refine is_asked ?_; (first | (refine is_spec ?_; (first | (refine is_op (op := .shr) ?_; (first | refine asked _ (sp_shrL 8 256 (by decide) (by rfl) (by decide)) ?_ | refine asked _ (sp_shrL 16 65536 (by decide) (by rfl) (by decide)) ?_ | refine asked _ (sp_shrL 24 16777216 (by decide) (by rfl) (by decide)) ?_ | refine asked _ (sp_shrL 0 1 (by decide) (by rfl) (by decide)) ?_)) | (with_reducible refine asked _ (sp_maskL 8 256 (by decide) (by decide) (by decide) (by simp only [lo, hi]; omega)) ?_))) | (refine is_wrap ?_; refine asked _ (wrap_lohi (by simp only [lo, hi]; omega) (by simp only [lo, hi]; omega)) ?_) | refine asked _ (append_ask rfl rfl (by decide) (by decide)) ?_); intro u; clear u) | (refine is_loop ?_; refine loop_step ?_; intro u; clear u))
  all_goals (refine con_end ?_ rfl; intro u; clear u; refine ⟨rfl, rfl, EntGoal.mk ?_ ?_⟩ <;> (repeat' (first | exact trivial | (with_reducible rfl) | apply And.intro | rfl)))
  all_goals (simp [ints, be4]; try omega)
theorem bytes6_con {n : Int} : CallCon Tryz.prog 133 [.one (.v (.int .i64 n)), .one (.n .i64 6)] [] (.t (.one (.sl 0 0 6))) [.row (ints .u8 (be6 n)) 1 5 true] := by
  refine con_of_call2 rfl ?_
  refine call_inline Tryz.func133 rfl rfl ?_
  intro _
  repeat' (first | (refine is_asked ?_; (first | (refine is_spec ?_; (first | (refine is_op (op := .shr) ?_; (first | refine asked _ (sp_shrL 8 256 (by decide) (by rfl) (by decide)) ?_ | refine asked _ (sp_shrL 16 65536 (by decide) (by rfl) (by decide)) ?_ | refine asked _ (sp_shrL 24 16777216 (by decide) (by rfl) (by decide)) ?_ | refine asked _ (sp_shrL 0 1 (by decide) (by rfl) (by decide)) ?_ | refine asked _ (sp_shrL 32 4294967296 (by decide) (by rfl) (by decide)) ?_ | refine asked _ (sp_shrL 40 1099511627776 (by decide) (by rfl) (by decide)) ?_)) | (with_reducible refine asked _ (sp_maskL 8 256 (by decide) (by decide) (by decide) (by simp only [lo, hi]; omega)) ?_))) | (refine is_wrap ?_; refine asked _ (wrap_lohi (by simp only [lo, hi]; omega) (by simp only [lo, hi]; omega)) ?_) | refine asked _ (append_ask rfl rfl (by decide) (by decide)) ?_); intro u; clear u) | (refine is_loop ?_; refine loop_step ?_; intro u; clear u))
  all_goals (refine con_end ?_ rfl; intro u; clear u; refine ⟨rfl, rfl, EntGoal.mk ?_ ?_⟩ <;> (repeat' (first | exact trivial | (with_reducible rfl) | apply And.intro | rfl)))
  all_goals (simp [ints, be6]; try omega)

theorem refput_con {o : Opt} (h : o.Wf) : CallCon Tryz.prog 72 [optT o] [] (.tup [.one (.sl 0 0 (putS o).length), .one (.v (.int .i64 (putE o)))]) [.row (ints .u8 (putS o)) 1 5 true] := by
  have hr := refright_con h
  obtain ⟨k0, k1, b0, b1⟩ := h
  refine con_of_call2 rfl ?_
  refine call_inline Tryz.func72 rfl rfl ?_
  intro _
  repeat' (first | (refine is_split ?_; refine Split.mk (fun g => ?_) (fun g => ?_) <;> (intro u; clear u)) | (refine is_asked ?_; (first | (refine is_spec ?_; (with_reducible refine asked _ (sp_maskL 8 256 (by decide) (by decide) (by decide) (by simp only [lo, hi]; omega)) ?_)) | (refine is_wrap ?_; refine asked _ (wrap_lohi (by simp only [lo, hi]; omega) (by simp only [lo, hi]; omega)) ?_) | refine asked _ (append_ask rfl rfl (by decide) (by decide)) ?_); intro u; clear u) | (refine is_draw ?_; refine draw_step mixed (by kernel_rfl) ?_; intro u; clear u) | (refine is_call ?_; refine call_auto (hr) (lets_rfl rfl) (by exact trivial) rfl ?_; intro u; clear u) | (refine is_dcall ?_; (first | refine dcall_auto (bytes4_con) (lets_rfl rfl) (by exact trivial) rfl ?_ | refine dcall_auto (bytes6_con) (lets_rfl rfl) (by exact trivial) rfl ?_); intro u; clear u))
  · have e1 : putS o = [] := by simp at g; simp [putS, g]
    have e2 : putE o = 2 := by simp at g; simp [putE, g]
    rw [e1, e2]
    (refine con_end ?_ rfl; intro u; clear u; refine ⟨rfl, rfl, EntGoal.mk ?_ ?_⟩ <;> (repeat' (first | exact trivial | (with_reducible rfl) | apply And.intro | rfl)))
  · have e1 : putS o = [158, 16, o.kind, o.bucket, o.cur % 256, o.prev % 256] ++ be4 o.gen ++ be6 o.tick := by simp at g; simp [putS, g, be4, be6]
    have e2 : putE o = 0 := by simp at g; simp [putE, g]
    rw [e1, e2]
    (refine con_end ?_ rfl; intro u; clear u; refine ⟨rfl, rfl, EntGoal.mk ?_ ?_⟩ <;> (repeat' (first | exact trivial | (with_reducible rfl) | apply And.intro | rfl)))
    all_goals (simp [ints, be4, be6])
def nodeS (c : Int) : Int := if c = 255 then -1 else c
theorem node_con {c : Int} (h0 : 0 ≤ c) (h1 : c ≤ 255) : CallCon Tryz.prog 70 [.one (.v (.int .u8 c))] [] (.t (.one (.v (.int .i64 (nodeS c))))) [] := by
  refine con_of_call2 rfl ?_
  refine call_inline Tryz.func70 rfl rfl ?_
  intro _
  repeat' (first | (refine is_split ?_; refine sp_dec (fun g => ?_) (fun g => ?_) <;> (intro u; clear u)) | (refine is_asked ?_; (refine is_wrap ?_; refine asked _ (wrap_lohi (by simp only [lo, hi]; omega) (by simp only [lo, hi]; omega)) ?_); intro u; clear u))
  all_goals (refine con_end ?_ rfl; intro u; clear u; refine ⟨rfl, rfl, EntGoal.mk ?_ ?_⟩ <;> (repeat' (first | exact trivial | (with_reducible rfl) | apply And.intro | rfl)))
  all_goals (simp [nodeS, g])
def num : List Int → Int → Int
  | [], n => n
  | x :: l, n => num l (n * 256 + x)
theorem num4_con {a b c d : Int} (h0 : 0 ≤ a) (h1 : a ≤ 255) (h2 : 0 ≤ b) (h3 : b ≤ 255) (h4 : 0 ≤ c) (h5 : c ≤ 255) (h6 : 0 ≤ d) (h7 : d ≤ 255) :
   CallCon Tryz.prog 71 [.one (.sl 0 0 4)] [.row (ints .u8 [a, b, c, d]) 1 5 false] (.t (.one (.v (.int .i64 (num [a, b, c, d] 0))))) [] := by
  refine con_of_call2 rfl ?_
  refine call_inline Tryz.func71 rfl rfl ?_
  intro _
  repeat' (first | (refine is_split ?_; (first | refine sp_yes (by rfl) ?_ | refine sp_no (by rfl) ?_) <;> (intro u; clear u)) | (refine is_asked ?_; (first | (refine is_spec ?_; (first | (with_reducible refine asked _ (sp_add (by simp only [lo, hi]; omega) (by simp only [lo, hi]; omega)) ?_) | (with_reducible refine asked _ (sp_mul (by simp only [lo, hi]; omega) (by simp only [lo, hi]; omega)) ?_))) | (refine is_wrap ?_; refine asked _ (wrap_lohi (by simp only [lo, hi]; omega) (by simp only [lo, hi]; omega)) ?_) | refine asked () ⟨by omega, by omega⟩ ?_ | refine asked _ rfl ?_); intro u; clear u) | (refine is_loop ?_; refine loop_step ?_; intro u; clear u))
  all_goals (refine con_end ?_ rfl; intro u; clear u; refine ⟨rfl, rfl, EntGoal.mk ?_ ?_⟩ <;> (repeat' (first | exact trivial | (with_reducible rfl) | apply And.intro | rfl)))
  all_goals (simp [num]; omega)
theorem num6_con {a b c d e f : Int} (h0 : 0 ≤ a) (h1 : a ≤ 255) (h2 : 0 ≤ b) (h3 : b ≤ 255) (h4 : 0 ≤ c) (h5 : c ≤ 255) (h6 : 0 ≤ d) (h7 : d ≤ 255) (h8 : 0 ≤ e) (h9 : e ≤ 255) (h10 : 0 ≤ f) (h11 : f ≤ 255) :
   CallCon Tryz.prog 71 [.one (.sl 0 0 6)] [.row (ints .u8 [a, b, c, d, e, f]) 1 5 false] (.t (.one (.v (.int .i64 (num [a, b, c, d, e, f] 0))))) [] := by
  refine con_of_call2 rfl ?_
  refine call_inline Tryz.func71 rfl rfl ?_
  intro _
  repeat' (first | (refine is_split ?_; (first | refine sp_yes (by rfl) ?_ | refine sp_no (by rfl) ?_) <;> (intro u; clear u)) | (refine is_asked ?_; (first | (refine is_spec ?_; (first | (with_reducible refine asked _ (sp_add (by simp only [lo, hi]; omega) (by simp only [lo, hi]; omega)) ?_) | (with_reducible refine asked _ (sp_mul (by simp only [lo, hi]; omega) (by simp only [lo, hi]; omega)) ?_))) | (refine is_wrap ?_; refine asked _ (wrap_lohi (by simp only [lo, hi]; omega) (by simp only [lo, hi]; omega)) ?_) | refine asked () ⟨by omega, by omega⟩ ?_ | refine asked _ rfl ?_); intro u; clear u) | (refine is_loop ?_; refine loop_step ?_; intro u; clear u))
  all_goals (refine con_end ?_ rfl; intro u; clear u; refine ⟨rfl, rfl, EntGoal.mk ?_ ?_⟩ <;> (repeat' (first | exact trivial | (with_reducible rfl) | apply And.intro | rfl)))
  all_goals (simp [num]; omega)

def parseO (k b c p g0 g1 g2 g3 t0 t1 t2 t3 t4 t5 : Int) : Opt := ⟨k, b, nodeS c, nodeS p, num [g0, g1, g2, g3] 0, num [t0, t1, t2, t3, t4, t5] 0⟩
def takeO : List Int → Opt
  | [x, y, k, b, c, p, g0, g1, g2, g3, t0, t1, t2, t3, t4, t5] => if x = 158 ∧ y = 16 ∧ okOpt (parseO k b c p g0 g1 g2 g3 t0 t1 t2 t3 t4 t5) = true then parseO k b c p g0 g1 g2 g3 t0 t1 t2 t3 t4 t5 else zeroO
  | _ => zeroO
def takeE : List Int → Int
  | [x, y, k, b, c, p, g0, g1, g2, g3, t0, t1, t2, t3, t4, t5] => if x = 158 ∧ y = 16 ∧ okOpt (parseO k b c p g0 g1 g2 g3 t0 t1 t2 t3 t4 t5) = true then 0 else 60
  | l => if l.length < 16 then 61 else 60

theorem take_len {l : List Int} (h : l.length ≠ 16) : takeO l = zeroO ∧ takeE l = if l.length < 16 then 61 else 60 := by
  unfold takeO takeE
  constructor
  · split
    · simp at h
    · rfl
  · split
    · simp at h
    · rfl

theorem reftake_other {l : List Int} (h : l.length ≠ 16) (hl : l.length ≤ 100) : CallCon Tryz.prog 35 [.one (.sl 0 0 l.length)] [.row (ints .u8 l) 1 5 false] (.tup [optT (takeO l), .one (.v (.int .i64 (takeE l)))]) [] := by
  obtain ⟨e1, e2⟩ := take_len h
  rw [e1, e2]
  refine con_of_call2 rfl ?_
  refine call_inline Tryz.func35 rfl rfl ?_
  intro _
  repeat' (refine is_split ?_; (first | refine sp_yes (by exact dec_t (by omega)) ?_ | refine sp_dec (fun g => ?_) (fun g => ?_)) <;> (intro u; clear u))
  all_goals (refine con_end ?_ rfl; intro u; clear u; refine ⟨rfl, rfl, EntGoal.mk ?_ ?_⟩ <;> (repeat' (first | exact trivial | (with_reducible rfl) | apply And.intro | rfl)))
  all_goals (first | rw [if_pos (by omega)] | rw [if_neg (by omega)])
end Go.Proofs.S14.O6

namespace Go.Proofs.S14.O6
open Go Go.SE
set_option maxRecDepth 100000
set_option maxHeartbeats 4000000
attribute [local irreducible] specI
attribute [local irreducible] okOpt
end Go.Proofs.S14.O6

namespace Go.Proofs.S14.O6
open Go Go.SE
set_option maxRecDepth 100000
set_option maxHeartbeats 4000000
attribute [local irreducible] specI
attribute [local irreducible] okOpt

theorem num4_at {b0 b1 b2 b3 b4 b5 b6 b7 b8 b9 b10 b11 b12 b13 b14 b15 : Int} (h0 : 0 ≤ b0 ∧ b0 ≤ 255) (h1 : 0 ≤ b1 ∧ b1 ≤ 255) (h2 : 0 ≤ b2 ∧ b2 ≤ 255) (h3 : 0 ≤ b3 ∧ b3 ≤ 255) (h4 : 0 ≤ b4 ∧ b4 ≤ 255) (h5 : 0 ≤ b5 ∧ b5 ≤ 255) (h6 : 0 ≤ b6 ∧ b6 ≤ 255) (h7 : 0 ≤ b7 ∧ b7 ≤ 255) (h8 : 0 ≤ b8 ∧ b8 ≤ 255) (h9 : 0 ≤ b9 ∧ b9 ≤ 255) (h10 : 0 ≤ b10 ∧ b10 ≤ 255) (h11 : 0 ≤ b11 ∧ b11 ≤ 255) (h12 : 0 ≤ b12 ∧ b12 ≤ 255) (h13 : 0 ≤ b13 ∧ b13 ≤ 255) (h14 : 0 ≤ b14 ∧ b14 ≤ 255) (h15 : 0 ≤ b15 ∧ b15 ≤ 255) :
   CallCon Tryz.prog 71 [.one (.sl 0 6 4)] [.row (ints .u8 [b0, b1, b2, b3, b4, b5, b6, b7, b8, b9, b10, b11, b12, b13, b14, b15]) 1 5 false] (.t (.one (.v (.int .i64 (num [b6, b7, b8, b9] 0))))) [] := by
  refine con_of_call2 rfl ?_
  refine call_inline Tryz.func71 rfl rfl ?_
  intro _
  repeat' (first | (refine is_split ?_; (first | refine sp_yes (by rfl) ?_ | refine sp_no (by rfl) ?_) <;> (intro u; clear u)) | (refine is_asked ?_; (first | (refine is_spec ?_; (first | (with_reducible refine asked _ (sp_add (by simp only [lo, hi]; omega) (by simp only [lo, hi]; omega)) ?_) | (with_reducible refine asked _ (sp_mul (by simp only [lo, hi]; omega) (by simp only [lo, hi]; omega)) ?_))) | (refine is_wrap ?_; refine asked _ (wrap_lohi (by simp only [lo, hi]; omega) (by simp only [lo, hi]; omega)) ?_) | refine asked () ⟨by omega, by omega⟩ ?_ | refine asked _ rfl ?_); intro u; clear u) | (refine is_loop ?_; refine loop_step ?_; intro u; clear u))
  all_goals (refine con_end ?_ rfl; intro u; clear u; refine ⟨rfl, rfl, EntGoal.mk ?_ ?_⟩ <;> (repeat' (first | exact trivial | (with_reducible rfl) | apply And.intro | rfl)))
  all_goals (simp [num]; omega)
theorem num6_at {b0 b1 b2 b3 b4 b5 b6 b7 b8 b9 b10 b11 b12 b13 b14 b15 : Int} (h0 : 0 ≤ b0 ∧ b0 ≤ 255) (h1 : 0 ≤ b1 ∧ b1 ≤ 255) (h2 : 0 ≤ b2 ∧ b2 ≤ 255) (h3 : 0 ≤ b3 ∧ b3 ≤ 255) (h4 : 0 ≤ b4 ∧ b4 ≤ 255) (h5 : 0 ≤ b5 ∧ b5 ≤ 255) (h6 : 0 ≤ b6 ∧ b6 ≤ 255) (h7 : 0 ≤ b7 ∧ b7 ≤ 255) (h8 : 0 ≤ b8 ∧ b8 ≤ 255) (h9 : 0 ≤ b9 ∧ b9 ≤ 255) (h10 : 0 ≤ b10 ∧ b10 ≤ 255) (h11 : 0 ≤ b11 ∧ b11 ≤ 255) (h12 : 0 ≤ b12 ∧ b12 ≤ 255) (h13 : 0 ≤ b13 ∧ b13 ≤ 255) (h14 : 0 ≤ b14 ∧ b14 ≤ 255) (h15 : 0 ≤ b15 ∧ b15 ≤ 255) :
   CallCon Tryz.prog 71 [.one (.sl 0 10 6)] [.row (ints .u8 [b0, b1, b2, b3, b4, b5, b6, b7, b8, b9, b10, b11, b12, b13, b14, b15]) 1 5 false] (.t (.one (.v (.int .i64 (num [b10, b11, b12, b13, b14, b15] 0))))) [] := by
  refine con_of_call2 rfl ?_
  refine call_inline Tryz.func71 rfl rfl ?_
  intro _
  repeat' (first | (refine is_split ?_; (first | refine sp_yes (by rfl) ?_ | refine sp_no (by rfl) ?_) <;> (intro u; clear u)) | (refine is_asked ?_; (first | (refine is_spec ?_; (first | (with_reducible refine asked _ (sp_add (by simp only [lo, hi]; omega) (by simp only [lo, hi]; omega)) ?_) | (with_reducible refine asked _ (sp_mul (by simp only [lo, hi]; omega) (by simp only [lo, hi]; omega)) ?_))) | (refine is_wrap ?_; refine asked _ (wrap_lohi (by simp only [lo, hi]; omega) (by simp only [lo, hi]; omega)) ?_) | refine asked () ⟨by omega, by omega⟩ ?_ | refine asked _ rfl ?_); intro u; clear u) | (refine is_loop ?_; refine loop_step ?_; intro u; clear u))
  all_goals (refine con_end ?_ rfl; intro u; clear u; refine ⟨rfl, rfl, EntGoal.mk ?_ ?_⟩ <;> (repeat' (first | exact trivial | (with_reducible rfl) | apply And.intro | rfl)))
  all_goals (simp [num]; omega)

/-- The bytes of what they are parsed to. -/
theorem put_parse {b0 b1 b2 b3 b4 b5 b6 b7 b8 b9 b10 b11 b12 b13 b14 b15 : Int} (h0 : 0 ≤ b0 ∧ b0 ≤ 255) (h1 : 0 ≤ b1 ∧ b1 ≤ 255) (h2 : 0 ≤ b2 ∧ b2 ≤ 255) (h3 : 0 ≤ b3 ∧ b3 ≤ 255) (h4 : 0 ≤ b4 ∧ b4 ≤ 255) (h5 : 0 ≤ b5 ∧ b5 ≤ 255) (h6 : 0 ≤ b6 ∧ b6 ≤ 255) (h7 : 0 ≤ b7 ∧ b7 ≤ 255) (h8 : 0 ≤ b8 ∧ b8 ≤ 255) (h9 : 0 ≤ b9 ∧ b9 ≤ 255) (h10 : 0 ≤ b10 ∧ b10 ≤ 255) (h11 : 0 ≤ b11 ∧ b11 ≤ 255) (h12 : 0 ≤ b12 ∧ b12 ≤ 255) (h13 : 0 ≤ b13 ∧ b13 ≤ 255) (h14 : 0 ≤ b14 ∧ b14 ≤ 255) (h15 : 0 ≤ b15 ∧ b15 ≤ 255) (hok : okOpt (parseO b2 b3 b4 b5 b6 b7 b8 b9 b10 b11 b12 b13 b14 b15) = true) : (putS (parseO b2 b3 b4 b5 b6 b7 b8 b9 b10 b11 b12 b13 b14 b15) = [b0, b1, b2, b3, b4, b5, b6, b7, b8, b9, b10, b11, b12, b13, b14, b15]) ↔ (b0 = 158 ∧ b1 = 16) := by
  have hk := hok
  unfold okOpt at hk
  have hk := of_decide_eq_true hk
  simp only [parseO, num, nodeS] at hk
  have e : putS (parseO b2 b3 b4 b5 b6 b7 b8 b9 b10 b11 b12 b13 b14 b15) = [158, 16] ++ [b2, b3, b4, b5, b6, b7, b8, b9, b10, b11, b12, b13, b14, b15] := by
    unfold putS
    rw [if_pos hok]
    simp only [parseO, num, nodeS, List.cons_append, List.nil_append, List.cons.injEq, and_true, true_and]
    refine ⟨?_, ?_, ?_, ?_, ?_, ?_, ?_, ?_, ?_, ?_, ?_, ?_⟩ <;> (repeat' split) <;> omega
  rw [e]
  simp only [List.cons_append, List.nil_append, List.cons.injEq, and_true]
  omega

theorem put_bytes {o : Opt} (h : o.Wf) : Bytes (putS o) := by
  obtain ⟨k0, k1, b0, b1⟩ := h
  intro x hx
  unfold putS at hx
  split at hx
  · simp at hx; omega
  · simp at hx
theorem putE_zero {o : Opt} : putE o = 0 ↔ okOpt o = true := by
  unfold putE; split <;> simp [*]

theorem reftake16 {b0 b1 b2 b3 b4 b5 b6 b7 b8 b9 b10 b11 b12 b13 b14 b15 : Int} (h0 : 0 ≤ b0 ∧ b0 ≤ 255) (h1 : 0 ≤ b1 ∧ b1 ≤ 255) (h2 : 0 ≤ b2 ∧ b2 ≤ 255) (h3 : 0 ≤ b3 ∧ b3 ≤ 255) (h4 : 0 ≤ b4 ∧ b4 ≤ 255) (h5 : 0 ≤ b5 ∧ b5 ≤ 255) (h6 : 0 ≤ b6 ∧ b6 ≤ 255) (h7 : 0 ≤ b7 ∧ b7 ≤ 255) (h8 : 0 ≤ b8 ∧ b8 ≤ 255) (h9 : 0 ≤ b9 ∧ b9 ≤ 255) (h10 : 0 ≤ b10 ∧ b10 ≤ 255) (h11 : 0 ≤ b11 ∧ b11 ≤ 255) (h12 : 0 ≤ b12 ∧ b12 ≤ 255) (h13 : 0 ≤ b13 ∧ b13 ≤ 255) (h14 : 0 ≤ b14 ∧ b14 ≤ 255) (h15 : 0 ≤ b15 ∧ b15 ≤ 255) :
    CallCon Tryz.prog 35 [.one (.sl 0 0 16)] [.row (ints .u8 [b0, b1, b2, b3, b4, b5, b6, b7, b8, b9, b10, b11, b12, b13, b14, b15]) 1 5 false] (.tup [optT (takeO [b0, b1, b2, b3, b4, b5, b6, b7, b8, b9, b10, b11, b12, b13, b14, b15]), .one (.v (.int .i64 (takeE [b0, b1, b2, b3, b4, b5, b6, b7, b8, b9, b10, b11, b12, b13, b14, b15])))]) [] := by
  have hwf : (parseO b2 b3 b4 b5 b6 b7 b8 b9 b10 b11 b12 b13 b14 b15).Wf := ⟨by simp only [parseO]; omega, by simp only [parseO]; omega, by simp only [parseO]; omega, by simp only [parseO]; omega⟩
  have hb1 := put_bytes hwf
  have hb2 : Bytes [b0, b1, b2, b3, b4, b5, b6, b7, b8, b9, b10, b11, b12, b13, b14, b15] := by intro x hx; simp at hx; omega
  refine con_of_call2 rfl ?_
  refine call_inline Tryz.func35 rfl rfl ?_
  intro _
  repeat' (first | (refine is_split ?_; (first | refine sp_no (by rfl) ?_ | refine sp_ndec (fun g => ?_) (fun g => ?_) | refine sp_nstr (by assumption) (by assumption) (fun g => ?_) (fun g => ?_)) <;> (intro u; clear u)) | (refine is_asked ?_; (first | (refine asked _ (tostr_ask (take_ints .u8 [b0, b1, b2, b3, b4, b5, b6, b7, b8, b9, b10, b11, b12, b13, b14, b15]) rfl) ?_) | refine asked _ (slice_ask (by omega) (by omega) (by omega)) ?_ | refine asked () ⟨by omega, by omega⟩ ?_ | refine asked _ (tostr_ask (take_ints _ _) rfl) ?_ | refine asked _ rfl ?_); intro u; clear u) | (refine is_draw ?_; refine draw_step mixed (by kernel_rfl) ?_; intro u; clear u) | (refine is_call ?_; refine call_auto (refput_con hwf) (lets_rfl rfl) (by exact trivial) rfl ?_; intro u; clear u) | (refine is_dcall ?_; (first | refine dcall_auto (node_con (by omega) (by omega)) (lets_rfl rfl) (by exact trivial) rfl ?_ | refine dcall_auto (num4_at h0 h1 h2 h3 h4 h5 h6 h7 h8 h9 h10 h11 h12 h13 h14 h15) (lets_rfl rfl) (by exact ⟨⟨_, rfl, rfl, rfl⟩, trivial⟩) rfl ?_ | refine dcall_auto (num6_at h0 h1 h2 h3 h4 h5 h6 h7 h8 h9 h10 h11 h12 h13 h14 h15) (lets_rfl rfl) (by exact ⟨⟨_, rfl, rfl, rfl⟩, trivial⟩) rfl ?_); intro u; clear u))
  all_goals (simp only [takeO, takeE])
  · have e : ¬ (b0 = 158 ∧ b1 = 16 ∧ okOpt (parseO b2 b3 b4 b5 b6 b7 b8 b9 b10 b11 b12 b13 b14 b15) = true) := fun hh => g (putE_zero.2 hh.2.2)
    rw [if_neg e, if_neg e]
    (refine con_end ?_ rfl; intro u; clear u; refine ⟨rfl, rfl, EntGoal.mk ?_ ?_⟩ <;> (repeat' (first | exact trivial | (with_reducible rfl) | apply And.intro | rfl)))
  · have e : ¬ (b0 = 158 ∧ b1 = 16 ∧ okOpt (parseO b2 b3 b4 b5 b6 b7 b8 b9 b10 b11 b12 b13 b14 b15) = true) := fun hh => g ((put_parse h0 h1 h2 h3 h4 h5 h6 h7 h8 h9 h10 h11 h12 h13 h14 h15 hh.2.2).2 ⟨hh.1, hh.2.1⟩)
    rw [if_neg e, if_neg e]
    (refine con_end ?_ rfl; intro u; clear u; refine ⟨rfl, rfl, EntGoal.mk ?_ ?_⟩ <;> (repeat' (first | exact trivial | (with_reducible rfl) | apply And.intro | rfl)))
  · rename_i g1
    have hok := putE_zero.1 g1
    have e : b0 = 158 ∧ b1 = 16 ∧ okOpt (parseO b2 b3 b4 b5 b6 b7 b8 b9 b10 b11 b12 b13 b14 b15) = true := ⟨((put_parse h0 h1 h2 h3 h4 h5 h6 h7 h8 h9 h10 h11 h12 h13 h14 h15 hok).1 g).1, ((put_parse h0 h1 h2 h3 h4 h5 h6 h7 h8 h9 h10 h11 h12 h13 h14 h15 hok).1 g).2, hok⟩
    rw [if_pos e, if_pos e]
    (refine con_end ?_ rfl; intro u; clear u; refine ⟨rfl, rfl, EntGoal.mk ?_ ?_⟩ <;> (repeat' (first | exact trivial | (with_reducible rfl) | apply And.intro | rfl)))

theorem len16 {l : List Int} (h : l.length = 16) : ∃ b0 b1 b2 b3 b4 b5 b6 b7 b8 b9 b10 b11 b12 b13 b14 b15, l = [b0, b1, b2, b3, b4, b5, b6, b7, b8, b9, b10, b11, b12, b13, b14, b15] := by
  match l, h with
  | [b0, b1, b2, b3, b4, b5, b6, b7, b8, b9, b10, b11, b12, b13, b14, b15], _ => exact ⟨_, _, _, _, _, _, _, _, _, _, _, _, _, _, _, _, rfl⟩

theorem reftake_con {l : List Int} (hl : l.length ≤ 100) (hb : Bytes l) : CallCon Tryz.prog 35 [.one (.sl 0 0 l.length)] [.row (ints .u8 l) 1 5 false] (.tup [optT (takeO l), .one (.v (.int .i64 (takeE l)))]) [] := by
  by_cases h : l.length = 16
  · obtain ⟨b0, b1, b2, b3, b4, b5, b6, b7, b8, b9, b10, b11, b12, b13, b14, b15, rfl⟩ := len16 h
    simp only [Bytes, List.mem_cons, List.not_mem_nil, or_false, forall_eq_or_imp, forall_eq] at hb
    obtain ⟨h0, h1, h2, h3, h4, h5, h6, h7, h8, h9, h10, h11, h12, h13, h14, h15⟩ := hb
    exact reftake16 h0 h1 h2 h3 h4 h5 h6 h7 h8 h9 h10 h11 h12 h13 h14 h15
  · exact reftake_other h hl
end Go.Proofs.S14.O6

namespace Go.Proofs.S14.O6
open Go Go.SE
set_option maxRecDepth 100000
set_option maxHeartbeats 4000000
attribute [local irreducible] specI
attribute [local irreducible] okOpt

theorem take_put {o : Opt} (h : o.Wf) (hok : okOpt o = true) : takeO (putS o) = o ∧ takeE (putS o) = 0 ∧ (putS o).length = 16 := by
  have hk := hok
  unfold okOpt at hk
  replace hk := of_decide_eq_true hk
  have e : putS o = [158, 16, o.kind, o.bucket, o.cur % 256, o.prev % 256, o.gen / 16777216 % 256, o.gen / 65536 % 256, o.gen / 256 % 256, o.gen % 256,
    o.tick / 1099511627776 % 256, o.tick / 4294967296 % 256, o.tick / 16777216 % 256, o.tick / 65536 % 256, o.tick / 256 % 256, o.tick % 256] := by simp [putS, hok]
  have e2 : parseO o.kind o.bucket (o.cur % 256) (o.prev % 256) (o.gen / 16777216 % 256) (o.gen / 65536 % 256) (o.gen / 256 % 256) (o.gen % 256)
    (o.tick / 1099511627776 % 256) (o.tick / 4294967296 % 256) (o.tick / 16777216 % 256) (o.tick / 65536 % 256) (o.tick / 256 % 256) (o.tick % 256) = o := by
    obtain ⟨kind, bucket, cur, prev, gen, tick⟩ := o
    simp only at hk
    simp only [parseO, num, nodeS, Opt.mk.injEq, true_and]
    refine ⟨?_, ?_, ?_, ?_⟩ <;> (repeat' split) <;> omega
  rw [e]
  refine ⟨?_, ?_, rfl⟩ <;> simp [takeO, takeE, e2, hok]

theorem take_cases {l : List Int} (hb : Bytes l) : (takeE l = 0 ∧ okOpt (takeO l) = true ∧ putS (takeO l) = l ∧ (takeO l).Wf ∧ l.length = 16) ∨ (takeE l = 60 ∧ takeO l = zeroO ∧ 16 ≤ l.length) ∨ (takeE l = 61 ∧ takeO l = zeroO ∧ l.length < 16) := by
  by_cases h : l.length = 16
  · obtain ⟨b0, b1, b2, b3, b4, b5, b6, b7, b8, b9, b10, b11, b12, b13, b14, b15, rfl⟩ := len16 h
    simp only [Bytes, List.mem_cons, List.not_mem_nil, or_false, forall_eq_or_imp, forall_eq] at hb
    obtain ⟨h0, h1, h2, h3, h4, h5, h6, h7, h8, h9, h10, h11, h12, h13, h14, h15⟩ := hb
    simp only [takeO, takeE]
    by_cases hc : b0 = 158 ∧ b1 = 16 ∧ okOpt (parseO b2 b3 b4 b5 b6 b7 b8 b9 b10 b11 b12 b13 b14 b15) = true
    · rw [if_pos hc, if_pos hc]
      exact .inl ⟨rfl, hc.2.2, (put_parse h0 h1 h2 h3 h4 h5 h6 h7 h8 h9 h10 h11 h12 h13 h14 h15 hc.2.2).2 ⟨hc.1, hc.2.1⟩, ⟨h2.1, h2.2, h3.1, h3.2⟩, rfl⟩
    · rw [if_neg hc, if_neg hc]
      exact .inr (.inl ⟨rfl, rfl, Nat.le_refl _⟩)
  · obtain ⟨e1, e2⟩ := take_len h
    rw [e1, e2]
    by_cases h2 : l.length < 16
    · rw [if_pos h2]; exact .inr (.inr ⟨rfl, rfl, h2⟩)
    · rw [if_neg h2]; exact .inr (.inl ⟨rfl, rfl, by omega⟩)

/-- What Put tells of an option that may be, and of one that may not. -/
theorem put_yes {o : Opt} (h : o.Wf) (hok : okOpt o = true) : CallCon Tryz.prog 125 [optT o] [] (.tup [.one (.sl 0 0 16), .one (.v (.int .i64 0))]) [.row (ints .u8 (putS o)) 1 5 true] := by
  have := put_con h
  rwa [(take_put h hok).2.2, putE_zero.2 hok] at this
theorem put_as {o : Opt} {l : List Int} (h : o.Wf) (hok : okOpt o = true) (e : putS o = l) : CallCon Tryz.prog 125 [optT o] [] (.tup [.one (.sl 0 0 l.length), .one (.v (.int .i64 0))]) [.row (ints .u8 l) 1 5 true] := by
  subst e
  have := put_con h
  rwa [putE_zero.2 hok] at this
theorem put_no {o : Opt} (h : o.Wf) (hok : okOpt o = false) : CallCon Tryz.prog 125 [optT o] [] (.tup [.one (.sl 0 0 0), .one (.v (.int .i64 2))]) [.row (ints .u8 []) 1 5 true] := by
  have := put_con h
  rwa [show putS o = [] by simp [putS, hok], show putE o = 2 by simp [putE, hok]] at this
theorem right_yes {o : Opt} {b : Bool} (h : o.Wf) (hok : okOpt o = b) : CallCon Tryz.prog 161 [optT o] [] (.t (.one (.b b))) [] := by
  have := right_con h
  rwa [hok] at this
end Go.Proofs.S14.O6
