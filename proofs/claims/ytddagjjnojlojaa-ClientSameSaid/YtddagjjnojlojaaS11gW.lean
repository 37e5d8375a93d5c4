/- Contracts of functions of the program, or a row of the seat, proved out of them. No condition beyond those that stand in each statement. -/
import Derived.Test.YtddagjjnojlojaaS11gK
namespace Go.Proofs.S11
open Go Go.SE
set_option maxRecDepth 100000
set_option maxHeartbeats 4000000
attribute [local irreducible] specI

def aT : Tab := ⟨4, [⟨0, -1, 1, 0⟩, ⟨1, -1, 1, 0⟩, ⟨2, -1, 1, 0⟩, ⟨0, -1, 1, 0⟩, ⟨1, -1, 1, 0⟩, ⟨2, -1, 1, 0⟩, ⟨0, -1, 1, 0⟩, ⟨1, -1, 1, 0⟩, ⟨2, -1, 1, 0⟩, ⟨0, -1, 1, 0⟩, ⟨1, -1, 1, 0⟩, ⟨2, -1, 1, 0⟩, ⟨0, -1, 1, 0⟩, ⟨1, -1, 1, 0⟩, ⟨2, -1, 1, 0⟩, ⟨0, -1, 1, 0⟩]⟩
def bT : Tab := ⟨7, [⟨0, -1, 1, 0⟩, ⟨1, -1, 1, 0⟩, ⟨2, -1, 1, 0⟩, ⟨1, 0, 2, 9⟩, ⟨1, -1, 1, 0⟩, ⟨2, -1, 1, 0⟩, ⟨0, -1, 1, 0⟩, ⟨1, -1, 1, 0⟩, ⟨2, -1, 1, 0⟩, ⟨0, -1, 1, 0⟩, ⟨1, -1, 1, 0⟩, ⟨2, -1, 1, 0⟩, ⟨0, -1, 1, 0⟩, ⟨1, -1, 1, 0⟩, ⟨2, -1, 1, 0⟩, ⟨0, -1, 1, 0⟩]⟩
theorem tables_con : CallCon Try.prog 47 [] [] (.tup [tabT aT, tabT bT]) [] := by
  refine con_of_call2 rfl ?_
  refine call_inline Try.func47 rfl rfl ?_
  intro _
  repeat' (first | (refine is_loop ?_; refine loop_step ?_; intro u; clear u) | (refine is_draw ?_; refine draw_step mixed (by kernel_rfl) ?_; intro u; clear u))
  (refine con_end ?_ rfl; intro u; clear u; refine ⟨rfl, rfl, EntGoal.mk ?_ ?_⟩ <;> (repeat' (first | exact trivial | (with_reducible rfl) | apply And.intro | rfl)))
def dSh : Sh := ⟨4, 7, [⟨3, ⟨1, 0, 2, 9⟩⟩]⟩
def dP : List Int := [0, 0, 0, 0, 0, 5, 0, 0, 0, 0, 0, 7, 1, 3, 2, 1, 0, 0, 0, 2, 0, 0, 0, 0, 0, 9]
def uSh : Sh := ⟨-1, 7, [⟨0, ⟨0, -1, 1, 0⟩⟩, ⟨1, ⟨1, -1, 1, 0⟩⟩, ⟨2, ⟨2, -1, 1, 0⟩⟩, ⟨3, ⟨1, 0, 2, 9⟩⟩, ⟨4, ⟨1, -1, 1, 0⟩⟩, ⟨5, ⟨2, -1, 1, 0⟩⟩, ⟨6, ⟨0, -1, 1, 0⟩⟩, ⟨7, ⟨1, -1, 1, 0⟩⟩, ⟨8, ⟨2, -1, 1, 0⟩⟩, ⟨9, ⟨0, -1, 1, 0⟩⟩, ⟨10, ⟨1, -1, 1, 0⟩⟩, ⟨11, ⟨2, -1, 1, 0⟩⟩, ⟨12, ⟨0, -1, 1, 0⟩⟩, ⟨13, ⟨1, -1, 1, 0⟩⟩, ⟨14, ⟨2, -1, 1, 0⟩⟩, ⟨15, ⟨0, -1, 1, 0⟩⟩]⟩
theorem w1 : dlSh aT bT = dSh ∧ dlE aT bT = 0 := by decide +kernel
theorem w2 : putSh dSh = dP ∧ putE dSh = 0 := by decide +kernel
theorem w3 : tkSh dP = dSh ∧ tkE dP = 0 := by decide +kernel
theorem w4 : ofSh bT = uSh ∧ ofE bT = 0 := by decide +kernel
theorem w5 : dlSh bT aT = zeroSh ∧ dlE bT aT = 2 := by decide +kernel
theorem w6 : putSh zeroSh = [] ∧ putE zeroSh = 2 := by decide +kernel
theorem w7 : tkSh (dP.take 25) = zeroSh ∧ tkE (dP.take 25) = 61 := by decide +kernel
theorem w8 : tkSh (dP ++ [0]) = zeroSh ∧ tkE (dP ++ [0]) = 60 := by decide +kernel
theorem w9 : okSh dSh ∧ ¬ okSh zeroSh ∧ ¬ dSh = uSh := by decide +kernel
theorem bytes_of {l : List Int} (h : (l.all fun x => decide (0 ≤ x ∧ x ≤ 255)) = true) : Bytes l := by
  intro x hx
  have := List.all_eq_true.1 h x hx
  simpa using this

theorem wakes_con : CallCon Try.prog 14 [] [] (.t (.one (.v (.bool true)))) [] := by
  have h1 := delta_con aT bT
  rw [w1.1, w1.2] at h1
  have h2 := put_con dSh (by decide)
  rw [w2.1, w2.2] at h2
  have h3 := take_con (b := dP) (bytes_of (by decide +kernel)) (by decide)
  rw [w3.1, w3.2] at h3
  have h4 := of_con bT
  rw [w4.1, w4.2] at h4
  have h5 := delta_con bT aT
  rw [w5.1, w5.2] at h5
  have h6 := put_con zeroSh (by decide)
  rw [w6.1, w6.2] at h6
  have h6n := con_nil [.agg [.n .i64 0, .n .i64 0, .v (.slice none 0 0)]] [] rfl h6 (by repeat' (first | exact trivial | exact rfl | exact Or.inl rfl | apply And.intro)) rfl
  have h7 := take_con (b := dP.take 25) (bytes_of (by decide +kernel)) (by decide)
  rw [w7.1, w7.2] at h7
  have h7' := con_take (xs := ints .u8 dP) 25 h7
  have h8 := take_con (b := dP ++ [0]) (bytes_of (by decide +kernel)) (by decide)
  rw [w8.1, w8.2] at h8
  have h9 := con_yes (shrefsame_con (s := dSh) (o := dSh) (by decide) (by decide)) rfl
  have h10 := con_yes (shright_con dSh (by decide)) w9.1
  have h11 := con_no (shright_con zeroSh (by decide)) w9.2.1
  have h11n := con_nil [.agg [.n .i64 0, .n .i64 0, .v (.slice none 0 0)]] [] rfl h11 (by repeat' (first | exact trivial | exact rfl | exact Or.inl rfl | apply And.intro)) rfl
  have h12 := shown_con (s := dSh) (by decide)
  have h13 := con_yes (shsame_con (s := dSh) (o := dSh) (by decide) (by decide)) rfl
  have h14 := con_no (shsame_con (s := dSh) (o := uSh) (by decide) (by decide)) w9.2.2
  refine con_of_call2 rfl ?_
  refine call_inline Try.func14 rfl rfl ?_
  intro _
  repeat' (first | (refine is_split ?_; (first | refine sp_yes (by rfl) ?_ | refine sp_no (by rfl) ?_) <;> (intro u; clear u)) | (refine is_asked ?_; (first | (refine asked _ (slice_at 0 25 (by rfl) (by rfl) (by decide) (by decide)) ?_) | (refine asked () ⟨by decide, by decide⟩ ?_) | (refine asked _ (row_ask dSh.rows 0 (by rfl) (by decide)) ?_) | refine asked _ (append_ask rfl rfl (by decide) (by decide)) ?_ | refine asked () (by show heldFree Try.prog _ _ = true; decide +kernel) ?_); intro u; clear u) | (refine is_draw ?_; refine draw_step mixed (by kernel_rfl) ?_; intro u; clear u) | (refine is_call ?_; (first | refine call_auto (tables_con) (lets_rfl rfl) (by exact trivial) rfl ?_ | refine call_auto (h1) (lets_rfl rfl) (by exact trivial) rfl ?_ | refine call_auto (h2) (lets_rfl rfl) (by exact ⟨⟨_, rfl, rfl, rfl⟩, trivial⟩) rfl ?_ | refine call_auto (h3) (lets_rfl rfl) (by exact ⟨⟨_, rfl, rfl, rfl⟩, trivial⟩) rfl ?_ | refine call_auto (h4) (lets_rfl rfl) (by exact trivial) rfl ?_ | refine call_auto (h5) (lets_rfl rfl) (by exact trivial) rfl ?_ | refine call_auto (h6n) (lets_rfl rfl) (by exact trivial) rfl ?_ | refine call_auto (h7') (lets_rfl rfl) (by exact ⟨⟨_, rfl, rfl, rfl⟩, trivial⟩) rfl ?_ | refine call_auto (h8) (lets_rfl rfl) (by exact ⟨⟨_, rfl, rfl, rfl⟩, trivial⟩) rfl ?_); intro u; clear u) | (refine is_dcall ?_; (first | refine dcall_auto (h9) (lets_rfl rfl) (by exact ⟨⟨_, rfl, rfl, rfl⟩, ⟨_, rfl, rfl, rfl⟩, trivial⟩) rfl ?_ | refine dcall_auto (h10) (lets_rfl rfl) (by exact ⟨⟨_, rfl, rfl, rfl⟩, trivial⟩) rfl ?_ | refine dcall_auto (h11n) (lets_rfl rfl) (by exact trivial) rfl ?_ | refine dcall_auto (h12) (lets_rfl rfl) (by exact ⟨⟨_, rfl, rfl, rfl⟩, trivial⟩) rfl ?_ | refine dcall_auto (h13) (lets_rfl rfl) (by exact ⟨⟨_, rfl, rfl, rfl⟩, ⟨_, rfl, rfl, rfl⟩, trivial⟩) rfl ?_ | refine dcall_auto (h14) (lets_rfl rfl) (by exact ⟨⟨_, rfl, rfl, rfl⟩, ⟨_, rfl, rfl, rfl⟩, trivial⟩) rfl ?_); intro u; clear u))
  (refine con_end ?_ rfl; intro u; clear u; refine ⟨rfl, rfl, EntGoal.mk ?_ ?_⟩ <;> (repeat' (first | exact trivial | (with_reducible rfl) | apply And.intro | rfl)))
