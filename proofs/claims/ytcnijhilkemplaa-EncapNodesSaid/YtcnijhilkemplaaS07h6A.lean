/- Contracts of functions of the program, or a row of the seat, proved out of them. No condition beyond those that stand in each statement. -/
import Derived.Test.YtcnijhilkemplaaSeD
import Derived.KernelRfl
import Derived.Test.YtcnijhilkemplaaProg
namespace Go.Proofs.S07.O6
open Go Go.SE
set_option maxRecDepth 100000
set_option maxHeartbeats 4000000
attribute [local irreducible] specI
theorem mixed : Try.prog.follows .mixedOrders = true := by kernel_rfl

structure Opt where
  kind : Int
  bucket : Int
  cur : Int
  prev : Int
  gen : Int
  tick : Int

def optT (o : Opt) : T := .agg [.v (.int .u8 o.kind), .v (.int .u8 o.bucket), .v (.int .i64 o.cur), .v (.int .i64 o.prev), .v (.int .i64 o.gen), .v (.int .i64 o.tick)]

structure Opt.Wf (o : Opt) : Prop where
  k0 : 0 ≤ o.kind
  k1 : o.kind ≤ 255
  b0 : 0 ≤ o.bucket
  b1 : o.bucket ≤ 255

def okOpt (o : Opt) : Bool :=
  decide (1 ≤ o.kind ∧ o.kind ≤ 5 ∧ 0 ≤ o.bucket ∧ o.bucket ≤ 15 ∧ -1 ≤ o.cur ∧ o.cur ≤ 5 ∧ -1 ≤ o.prev ∧ o.prev ≤ 5 ∧ 0 ≤ o.gen ∧ o.gen ≤ 2147483647 ∧ 0 ≤ o.tick ∧ o.tick ≤ 1099511627776)

theorem right_con {o : Opt} (h : o.Wf) : CallCon Try.prog 42 [optT o] [] (.t (.one (.b (okOpt o)))) [] := by
  obtain ⟨k0, k1, b0, b1⟩ := h
  refine con_of_call2 rfl ?_
  refine call_inline Try.func42 rfl rfl ?_
  intro _
  repeat' (first | (refine is_split ?_; (first | refine sp_no (by exact dec_f (by omega)) ?_ | refine sp_dec (fun g => ?_) (fun g => ?_)) <;> (intro u; clear u)) | (refine is_asked ?_; (refine is_wrap ?_; refine asked _ (wrap_lohi (by simp only [lo, hi]; omega) (by simp only [lo, hi]; omega)) ?_); intro u; clear u) | (refine is_loop ?_; refine loop_step ?_; intro u; clear u) | (refine is_yield ?_; refine yield_step rfl rfl rfl rfl ?_; intro u; clear u) | (refine is_range ?_; refine range_step rfl rfl ?_; intro u; clear u) | (refine is_scope ?_; refine scope_step ?_; intro u; clear u) | (refine is_call ?_; (first | refine call_inline Try.func43 rfl rfl ?_ | refine call_inline Try.func61 rfl rfl ?_); intro u; clear u))
  all_goals (refine con_end ?_ rfl; intro u; clear u; refine ⟨rfl, rfl, EntGoal.mk ?_ ?_⟩ <;> (repeat' (first | exact trivial | (with_reducible rfl) | apply And.intro | rfl)))
  all_goals (show _ = okOpt o; simp only [okOpt]; first | exact (decide_eq_true (by omega)).symm | exact (decide_eq_false (by omega)).symm | exact decide_eq_decide.2 (by omega))
theorem refright_con {o : Opt} (h : o.Wf) : CallCon Try.prog 24 [optT o] [] (.t (.one (.b (okOpt o)))) [] := by
  obtain ⟨k0, k1, b0, b1⟩ := h
  refine con_of_call2 rfl ?_
  refine call_inline Try.func24 rfl rfl ?_
  intro _
  repeat' (refine is_split ?_; refine sp_dec (fun g => ?_) (fun g => ?_) <;> (intro u; clear u))
  all_goals (refine con_end ?_ rfl; intro u; clear u; refine ⟨rfl, rfl, EntGoal.mk ?_ ?_⟩ <;> (repeat' (first | exact trivial | (with_reducible rfl) | apply And.intro | rfl)))
  all_goals (show _ = okOpt o; simp only [okOpt]; first | exact (decide_eq_true (by omega)).symm | exact (decide_eq_false (by omega)).symm | exact decide_eq_decide.2 (by omega))

def putS (o : Opt) : List Int := if okOpt o = true then [158, 16, o.kind, o.bucket, o.cur % 256, o.prev % 256, o.gen / 16777216 % 256, o.gen / 65536 % 256, o.gen / 256 % 256, o.gen % 256,
  o.tick / 1099511627776 % 256, o.tick / 4294967296 % 256, o.tick / 16777216 % 256, o.tick / 65536 % 256, o.tick / 256 % 256, o.tick % 256] else []
def putE (o : Opt) : Int := if okOpt o = true then 0 else 2

theorem put_con {o : Opt} (h : o.Wf) : CallCon Try.prog 29 [optT o] [] (.tup [.one (.sl 0 0 (putS o).length), .one (.v (.int .i64 (putE o)))]) [.row (ints .u8 (putS o)) 1 5 true] := by
  have hr := right_con h
  obtain ⟨k0, k1, b0, b1⟩ := h
  refine con_of_call2 rfl ?_
  refine call_inline Try.func29 rfl rfl ?_
  intro _
  refine call_use hr [] (lets_rfl rfl) trivial rfl ?_
  intro _
  refine Split.mk (fun g => ?_) (fun g => ?_) <;> intro _
  · have e1 : putS o = [] := by simp at g; simp [putS, g]
    have e2 : putE o = 2 := by simp at g; simp [putE, g]
    rw [e1, e2]
    (refine con_end ?_ rfl; intro u; clear u; refine ⟨rfl, rfl, EntGoal.mk ?_ ?_⟩ <;> (repeat' (first | exact trivial | (with_reducible rfl) | apply And.intro | rfl)))
  · have e1 : putS o = [158, 16, o.kind, o.bucket, o.cur % 256, o.prev % 256, o.gen / 16777216 % 256, o.gen / 65536 % 256, o.gen / 256 % 256, o.gen % 256,
      o.tick / 1099511627776 % 256, o.tick / 4294967296 % 256, o.tick / 16777216 % 256, o.tick / 65536 % 256, o.tick / 256 % 256, o.tick % 256] := by simp at g; simp [putS, g]
    have e2 : putE o = 0 := by simp at g; simp [putE, g]
    rw [e1, e2]
    repeat' (first | (refine is_asked ?_; (first | (refine is_spec ?_; (refine is_op (op := .shr) ?_; (first | refine asked _ (sp_shrL 8 256 (by decide) (by rfl) (by decide)) ?_ | refine asked _ (sp_shrL 16 65536 (by decide) (by rfl) (by decide)) ?_ | refine asked _ (sp_shrL 24 16777216 (by decide) (by rfl) (by decide)) ?_ | refine asked _ (sp_shrL 0 1 (by decide) (by rfl) (by decide)) ?_ | refine asked _ (sp_shrL 32 4294967296 (by decide) (by rfl) (by decide)) ?_ | refine asked _ (sp_shrL 40 1099511627776 (by decide) (by rfl) (by decide)) ?_))) | (refine is_wrap ?_; (first | refine asked _ (wrap_lohi (by simp only [lo, hi]; omega) (by simp only [lo, hi]; omega)) ?_ | refine asked _ (wrap_u8' _) ?_)) | refine asked _ (append_ask rfl rfl (by decide) (by decide)) ?_); intro u; clear u) | (refine is_loop ?_; refine loop_step ?_; intro u; clear u) | (refine is_yield ?_; refine yield_step rfl rfl rfl rfl ?_; intro u; clear u) | (refine is_draw ?_; refine draw_step mixed (by kernel_rfl) ?_; intro u; clear u) | (refine is_range ?_; refine range_step rfl rfl ?_; intro u; clear u) | (refine is_call ?_; (first | refine call_inline Try.func43 rfl rfl ?_ | refine call_inline Try.func61 rfl rfl ?_); intro u; clear u))
    all_goals (refine con_end ?_ rfl; intro u; clear u; refine ⟨rfl, rfl, EntGoal.mk ?_ ?_⟩ <;> (repeat' (first | exact trivial | (with_reducible rfl) | apply And.intro | rfl)))
    all_goals (simp [ints])


attribute [local irreducible] okOpt
theorem okOpt_bucket {o : Opt} (h : ¬ (0 ≤ o.bucket ∧ o.bucket ≤ 15)) : okOpt o = false := by
  unfold okOpt; exact decide_eq_false (by omega)
def zeroO : Opt := ⟨0, 0, 0, 0, 0, 0⟩
def mayO (o : Opt) : Opt := if okOpt o = true then o else zeroO
def mayE (o : Opt) : Int := if okOpt o = true then 0 else 2

