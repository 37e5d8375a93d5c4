/- Contracts of functions of the program, or a row of the seat, proved out of them. No condition beyond those that stand in each statement. -/
import Derived.Test.YtcnijhilkemplaaS07h6A
namespace Go.Proofs.S07.O6
open Go Go.SE
set_option maxRecDepth 100000
set_option maxHeartbeats 4000000
attribute [local irreducible] specI
attribute [local irreducible] okOpt

def be4 (n : Int) : List Int := [n / 16777216 % 256, n / 65536 % 256, n / 256 % 256, n % 256]
def be6 (n : Int) : List Int := [n / 1099511627776 % 256, n / 4294967296 % 256, n / 16777216 % 256, n / 65536 % 256, n / 256 % 256, n % 256]

theorem bytes4_con {n : Int} : CallCon Try.prog 49 [.one (.v (.int .i64 n)), .one (.n .i64 4)] [] (.t (.one (.sl 0 0 4))) [.row (ints .u8 (be4 n)) 1 5 true] := by
  refine con_of_call2 rfl ?_
  refine call_inline Try.func49 rfl rfl ?_
  intro _
  repeat' (first | (refine is_asked ?_; (first | (refine is_spec ?_; (first | (refine is_op (op := .shr) ?_; (first | refine asked _ (sp_shrL 8 256 (by decide) (by rfl) (by decide)) ?_ | refine asked _ (sp_shrL 16 65536 (by decide) (by rfl) (by decide)) ?_ | refine asked _ (sp_shrL 24 16777216 (by decide) (by rfl) (by decide)) ?_ | refine asked _ (sp_shrL 0 1 (by decide) (by rfl) (by decide)) ?_)) | (with_reducible refine asked _ (sp_maskL 8 256 (by decide) (by decide) (by decide) (by simp only [lo, hi]; omega)) ?_))) | (refine is_wrap ?_; refine asked _ (wrap_lohi (by simp only [lo, hi]; omega) (by simp only [lo, hi]; omega)) ?_) | refine asked _ (append_ask rfl rfl (by decide) (by decide)) ?_); intro u; clear u) | (refine is_loop ?_; refine loop_step ?_; intro u; clear u))
  all_goals (refine con_end ?_ rfl; intro u; clear u; refine ⟨rfl, rfl, EntGoal.mk ?_ ?_⟩ <;> (repeat' (first | exact trivial | (with_reducible rfl) | apply And.intro | rfl)))
  all_goals (simp [ints, be4]; try omega)
theorem bytes6_con {n : Int} : CallCon Try.prog 49 [.one (.v (.int .i64 n)), .one (.n .i64 6)] [] (.t (.one (.sl 0 0 6))) [.row (ints .u8 (be6 n)) 1 5 true] := by
  refine con_of_call2 rfl ?_
  refine call_inline Try.func49 rfl rfl ?_
  intro _
  repeat' (first | (refine is_asked ?_; (first | (refine is_spec ?_; (first | (refine is_op (op := .shr) ?_; (first | refine asked _ (sp_shrL 8 256 (by decide) (by rfl) (by decide)) ?_ | refine asked _ (sp_shrL 16 65536 (by decide) (by rfl) (by decide)) ?_ | refine asked _ (sp_shrL 24 16777216 (by decide) (by rfl) (by decide)) ?_ | refine asked _ (sp_shrL 0 1 (by decide) (by rfl) (by decide)) ?_ | refine asked _ (sp_shrL 32 4294967296 (by decide) (by rfl) (by decide)) ?_ | refine asked _ (sp_shrL 40 1099511627776 (by decide) (by rfl) (by decide)) ?_)) | (with_reducible refine asked _ (sp_maskL 8 256 (by decide) (by decide) (by decide) (by simp only [lo, hi]; omega)) ?_))) | (refine is_wrap ?_; refine asked _ (wrap_lohi (by simp only [lo, hi]; omega) (by simp only [lo, hi]; omega)) ?_) | refine asked _ (append_ask rfl rfl (by decide) (by decide)) ?_); intro u; clear u) | (refine is_loop ?_; refine loop_step ?_; intro u; clear u))
  all_goals (refine con_end ?_ rfl; intro u; clear u; refine ⟨rfl, rfl, EntGoal.mk ?_ ?_⟩ <;> (repeat' (first | exact trivial | (with_reducible rfl) | apply And.intro | rfl)))
  all_goals (simp [ints, be6]; try omega)

theorem refput_con {o : Opt} (h : o.Wf) : CallCon Try.prog 31 [optT o] [] (.tup [.one (.sl 0 0 (putS o).length), .one (.v (.int .i64 (putE o)))]) [.row (ints .u8 (putS o)) 1 5 true] := by
  have hr := refright_con h
  obtain ⟨k0, k1, b0, b1⟩ := h
  refine con_of_call2 rfl ?_
  refine call_inline Try.func31 rfl rfl ?_
  intro _
  repeat' (first | (refine is_split ?_; refine Split.mk (fun g => ?_) (fun g => ?_) <;> (intro u; clear u)) | (refine is_asked ?_; (first | (refine is_spec ?_; (with_reducible refine asked _ (sp_maskL 8 256 (by decide) (by decide) (by decide) (by simp only [lo, hi]; omega)) ?_)) | (refine is_wrap ?_; refine asked _ (wrap_lohi (by simp only [lo, hi]; omega) (by simp only [lo, hi]; omega)) ?_) | refine asked _ (append_ask rfl rfl (by decide) (by decide)) ?_); intro u; clear u) | (refine is_draw ?_; refine draw_step mixed (by kernel_rfl) ?_; intro u; clear u) | (refine is_call ?_; refine call_auto (hr) (lets_rfl rfl) (by exact trivial) rfl ?_; intro u; clear u) | (refine is_dcall ?_; (first | refine dcall_auto (bytes4_con) (lets_rfl rfl) (by exact trivial) rfl ?_ | refine dcall_auto (bytes6_con) (lets_rfl rfl) (by exact trivial) rfl ?_); intro u; clear u))
  · have e1 : putS o = [] := by simp at g; simp [putS, g]
    have e2 : putE o = 2 := by simp at g; simp [putE, g]
    rw [e1, e2]
    (refine con_end ?_ rfl; intro u; clear u; refine ⟨rfl, rfl, EntGoal.mk ?_ ?_⟩ <;> (repeat' (first | exact trivial | (with_reducible rfl) | apply And.intro | rfl)))
  · have e1 : putS o = [158, 16, o.kind, o.bucket, o.cur % 256, o.prev % 256] ++ be4 o.gen ++ be6 o.tick := by simp at g; simp [putS, g, be4, be6]
    have e2 : putE o = 0 := by simp at g; simp [putE, g]
    rw [e1, e2]
    (refine con_end ?_ rfl; intro u; clear u; refine ⟨rfl, rfl, EntGoal.mk ?_ ?_⟩ <;> (repeat' (first | exact trivial | (with_reducible rfl) | apply And.intro | rfl)))
    all_goals (simp [ints, be4, be6])
def nodeS (c : Int) : Int := if c = 255 then -1 else c
theorem node_con {c : Int} (h0 : 0 ≤ c) (h1 : c ≤ 255) : CallCon Try.prog 57 [.one (.v (.int .u8 c))] [] (.t (.one (.v (.int .i64 (nodeS c))))) [] := by
  refine con_of_call2 rfl ?_
  refine call_inline Try.func57 rfl rfl ?_
  intro _
  repeat' (first | (refine is_split ?_; refine sp_dec (fun g => ?_) (fun g => ?_) <;> (intro u; clear u)) | (refine is_asked ?_; (refine is_wrap ?_; refine asked _ (wrap_lohi (by simp only [lo, hi]; omega) (by simp only [lo, hi]; omega)) ?_); intro u; clear u))
  all_goals (refine con_end ?_ rfl; intro u; clear u; refine ⟨rfl, rfl, EntGoal.mk ?_ ?_⟩ <;> (repeat' (first | exact trivial | (with_reducible rfl) | apply And.intro | rfl)))
  all_goals (simp [nodeS, g])
def num : List Int → Int → Int
  | [], n => n
  | x :: l, n => num l (n * 256 + x)
theorem num4_con {a b c d : Int} (h0 : 0 ≤ a) (h1 : a ≤ 255) (h2 : 0 ≤ b) (h3 : b ≤ 255) (h4 : 0 ≤ c) (h5 : c ≤ 255) (h6 : 0 ≤ d) (h7 : d ≤ 255) :
   CallCon Try.prog 58 [.one (.sl 0 0 4)] [.row (ints .u8 [a, b, c, d]) 1 5 false] (.t (.one (.v (.int .i64 (num [a, b, c, d] 0))))) [] := by
  refine con_of_call2 rfl ?_
  refine call_inline Try.func58 rfl rfl ?_
  intro _
  repeat' (first | (refine is_split ?_; (first | refine sp_yes (by rfl) ?_ | refine sp_no (by rfl) ?_) <;> (intro u; clear u)) | (refine is_asked ?_; (first | (refine is_spec ?_; (first | (with_reducible refine asked _ (sp_add (by simp only [lo, hi]; omega) (by simp only [lo, hi]; omega)) ?_) | (with_reducible refine asked _ (sp_mul (by simp only [lo, hi]; omega) (by simp only [lo, hi]; omega)) ?_))) | (refine is_wrap ?_; refine asked _ (wrap_lohi (by simp only [lo, hi]; omega) (by simp only [lo, hi]; omega)) ?_) | refine asked () ⟨by omega, by omega⟩ ?_ | refine asked _ rfl ?_); intro u; clear u) | (refine is_loop ?_; refine loop_step ?_; intro u; clear u))
  all_goals (refine con_end ?_ rfl; intro u; clear u; refine ⟨rfl, rfl, EntGoal.mk ?_ ?_⟩ <;> (repeat' (first | exact trivial | (with_reducible rfl) | apply And.intro | rfl)))
  all_goals (simp [num]; omega)
theorem num6_con {a b c d e f : Int} (h0 : 0 ≤ a) (h1 : a ≤ 255) (h2 : 0 ≤ b) (h3 : b ≤ 255) (h4 : 0 ≤ c) (h5 : c ≤ 255) (h6 : 0 ≤ d) (h7 : d ≤ 255) (h8 : 0 ≤ e) (h9 : e ≤ 255) (h10 : 0 ≤ f) (h11 : f ≤ 255) :
   CallCon Try.prog 58 [.one (.sl 0 0 6)] [.row (ints .u8 [a, b, c, d, e, f]) 1 5 false] (.t (.one (.v (.int .i64 (num [a, b, c, d, e, f] 0))))) [] := by
  refine con_of_call2 rfl ?_
  refine call_inline Try.func58 rfl rfl ?_
  intro _
  repeat' (first | (refine is_split ?_; (first | refine sp_yes (by rfl) ?_ | refine sp_no (by rfl) ?_) <;> (intro u; clear u)) | (refine is_asked ?_; (first | (refine is_spec ?_; (first | (with_reducible refine asked _ (sp_add (by simp only [lo, hi]; omega) (by simp only [lo, hi]; omega)) ?_) | (with_reducible refine asked _ (sp_mul (by simp only [lo, hi]; omega) (by simp only [lo, hi]; omega)) ?_))) | (refine is_wrap ?_; refine asked _ (wrap_lohi (by simp only [lo, hi]; omega) (by simp only [lo, hi]; omega)) ?_) | refine asked () ⟨by omega, by omega⟩ ?_ | refine asked _ rfl ?_); intro u; clear u) | (refine is_loop ?_; refine loop_step ?_; intro u; clear u))
  all_goals (refine con_end ?_ rfl; intro u; clear u; refine ⟨rfl, rfl, EntGoal.mk ?_ ?_⟩ <;> (repeat' (first | exact trivial | (with_reducible rfl) | apply And.intro | rfl)))
  all_goals (simp [num]; omega)

def parseO (k b c p g0 g1 g2 g3 t0 t1 t2 t3 t4 t5 : Int) : Opt := ⟨k, b, nodeS c, nodeS p, num [g0, g1, g2, g3] 0, num [t0, t1, t2, t3, t4, t5] 0⟩
def takeO : List Int → Opt
  | [x, y, k, b, c, p, g0, g1, g2, g3, t0, t1, t2, t3, t4, t5] => if x = 158 ∧ y = 16 ∧ okOpt (parseO k b c p g0 g1 g2 g3 t0 t1 t2 t3 t4 t5) = true then parseO k b c p g0 g1 g2 g3 t0 t1 t2 t3 t4 t5 else zeroO
  | _ => zeroO
def takeE : List Int → Int
  | [x, y, k, b, c, p, g0, g1, g2, g3, t0, t1, t2, t3, t4, t5] => if x = 158 ∧ y = 16 ∧ okOpt (parseO k b c p g0 g1 g2 g3 t0 t1 t2 t3 t4 t5) = true then 0 else 60
  | l => if l.length < 16 then 61 else 60

theorem take_len {l : List Int} (h : l.length ≠ 16) : takeO l = zeroO ∧ takeE l = if l.length < 16 then 61 else 60 := by
  unfold takeO takeE
  constructor
  · split
    · simp at h
    · rfl
  · split
    · simp at h
    · rfl

theorem take_other {l : List Int} (h : l.length ≠ 16) (hl : l.length ≤ 100) : CallCon Try.prog 34 [.one (.sl 0 0 l.length)] [.row (ints .u8 l) 1 5 false] (.tup [optT (takeO l), .one (.v (.int .i64 (takeE l)))]) [] := by
  obtain ⟨e1, e2⟩ := take_len h
  rw [e1, e2]
  refine con_of_call2 rfl ?_
  refine call_inline Try.func34 rfl rfl ?_
  intro _
  repeat' (first | (refine is_split ?_; (first | refine sp_yes (by exact dec_t (by omega)) ?_ | refine sp_dec (fun g => ?_) (fun g => ?_)) <;> (intro u; clear u)) | (refine is_scope ?_; refine scope_step ?_; intro u; clear u))
  all_goals (refine con_end ?_ rfl; intro u; clear u; refine ⟨rfl, rfl, EntGoal.mk ?_ ?_⟩ <;> (repeat' (first | exact trivial | (with_reducible rfl) | apply And.intro | rfl)))
  all_goals (first | rw [if_pos (by omega)] | rw [if_neg (by omega)])
theorem reftake_other {l : List Int} (h : l.length ≠ 16) (hl : l.length ≤ 100) : CallCon Try.prog 36 [.one (.sl 0 0 l.length)] [.row (ints .u8 l) 1 5 false] (.tup [optT (takeO l), .one (.v (.int .i64 (takeE l)))]) [] := by
  obtain ⟨e1, e2⟩ := take_len h
  rw [e1, e2]
  refine con_of_call2 rfl ?_
  refine call_inline Try.func36 rfl rfl ?_
  intro _
  repeat' (refine is_split ?_; (first | refine sp_yes (by exact dec_t (by omega)) ?_ | refine sp_dec (fun g => ?_) (fun g => ?_)) <;> (intro u; clear u))
  all_goals (refine con_end ?_ rfl; intro u; clear u; refine ⟨rfl, rfl, EntGoal.mk ?_ ?_⟩ <;> (repeat' (first | exact trivial | (with_reducible rfl) | apply And.intro | rfl)))
  all_goals (first | rw [if_pos (by omega)] | rw [if_neg (by omega)])
