/- Contracts of functions of the program, or a row of the seat, proved out of them. No condition beyond those that stand in each statement. -/
import Derived.Test.YtooempepoejmhaaP5C
namespace Go.Proofs.P5
open Go Go.SE
set_option maxRecDepth 100000
set_option maxHeartbeats 4000000
attribute [local irreducible] specI

def one : Tu := ⟨167772161, 167772162, 1000, 80⟩
def W : List Int := makeL one 2 []
def wP : Pk := ⟨167772161, 167772162, 1000, 80, 2, W⟩
theorem one_wf : one.Wf := ⟨by decide, by decide, by decide, by decide⟩
theorem W_bd : ∀ x ∈ W, 0 ≤ x ∧ x ≤ 255 := make_bytes one_wf (by decide) (by simp) (by decide)
theorem W_len : W.length = 40 := make_len
theorem parse_W : pkE W = 0 ∧ pkS W = wP := by decide +kernel
theorem parse_W2 : pkE (W.take 39) = 4 ∧ pkS (W.take 39) = zeroPk := by decide +kernel
theorem parse_W3 : pkE [] = 1 ∧ pkS [] = zeroPk := by decide +kernel
theorem zero_wf : zeroPk.Wf := ⟨by decide, by simp [zeroPk]⟩
theorem wP_wf : wP.Wf := ⟨by decide, W_bd⟩
def fP : Pk := ⟨0, 0, 0, 0, 6, []⟩
theorem fP_wf : fP.Wf := ⟨by decide, by simp [fP]⟩
def pkN (p : Pk) : T := .agg [.v (.int .u32 p.src), .v (.int .u32 p.dst), .v (.int .u16 p.sport), .v (.int .u16 p.dport), .v (.int .u8 p.flags), .v (.slice none 0 0)]

theorem one_con : CallCon Try.prog 22 [] [] (.t (tuT one)) [] := by
  refine con_of_call2 rfl ?_
  refine call_inline Try.func22 rfl rfl ?_
  intro _
  repeat' fail
  (refine con_end ?_ rfl; intro u; clear u; refine ⟨rfl, rfl, EntGoal.mk ?_ ?_⟩ <;> (repeat' (first | exact trivial | (with_reducible rfl) | apply And.intro | rfl)))
theorem make1_con : CallCon Try.prog 10 [tuT one, .one (.v (.int .u8 2)), .one (.v (.slice none 0 0))] [] (.tup [.one (.sl 0 0 40), .one (.v (.bool true))]) [.row (ints .u8 W) 1 5 true] := by
  have h := make_con (f := 2) (d := []) one_wf (by decide) (by simp) (by decide)
  rw [make_len] at h
  exact con_nil _ [] rfl h (by repeat' (first | exact trivial | exact rfl | exact Or.inl rfl | apply And.intro)) rfl
theorem parse1_con : CallCon Try.prog 8 [.one (.sl 0 0 40)] [.row (ints .u8 W) 1 5 false] (.tup [pkT wP 0, .one (.v (.int .u8 0))]) [.row (ints .u8 W) 1 5 true] := by
  have h := parse_con W_bd (by rw [W_len]; decide)
  rw [parse_W.1, parse_W.2, W_len] at h
  exact h
theorem parse2_con : CallCon Try.prog 8 [.one (.sl 0 0 39)] [.row (ints .u8 W) 1 5 false] (.tup [pkT zeroPk 0, .one (.v (.int .u8 4))]) [.row (ints .u8 []) 1 5 true] := by
  have hl : (W.take 39).length = 39 := by rw [List.length_take, W_len]; rfl
  have h := parse_con (l := W.take 39) (fun x hx => W_bd x (List.mem_of_mem_take hx)) (by rw [hl]; decide)
  rw [parse_W2.1, parse_W2.2, hl] at h
  refine con_take 39 ?_
  rw [P2.ints_take]
  exact h
theorem parse3_con : CallCon Try.prog 8 [.one (.v (.slice none 0 0))] [] (.tup [pkT zeroPk 0, .one (.v (.int .u8 1))]) [.row (ints .u8 []) 1 5 true] := by
  have h := parse_con (l := []) (by simp) (by decide)
  rw [parse_W3.1, parse_W3.2] at h
  exact con_nil _ [] rfl h (by repeat' (first | exact trivial | exact rfl | exact Or.inl rfl | apply And.intro)) rfl
theorem synf_con : CallCon Try.prog 14 [pkN fP] [] (.t (.one (.v (.bool false)))) [] := by
  have h := con_no (syn_con fP_wf) (by decide)
  exact con_nil _ [] rfl h (by repeat' (first | exact trivial | exact rfl | exact Or.inl rfl | apply And.intro)) rfl
theorem closesf_con : CallCon Try.prog 16 [pkN fP] [] (.t (.one (.v (.bool true)))) [] := by
  have h := con_yes (closes_con fP_wf) (by decide)
  exact con_nil _ [] rfl h (by repeat' (first | exact trivial | exact rfl | exact Or.inl rfl | apply And.intro)) rfl
/-- The document's own comparison with a packet that is all 0. -/
theorem refsame0_con : CallCon Try.prog 12 [pkT zeroPk 0, pkN zeroPk] [.row (ints .u8 zeroPk.bytes) 1 5 false] (.t (.one (.v (.bool true)))) [] := by
  have h := con_yes (refsame_con zero_wf zero_wf) rfl
  exact con_nil _ [.row (ints .u8 zeroPk.bytes) 1 5 false] rfl h (by repeat' (first | exact trivial | exact rfl | exact Or.inl rfl | apply And.intro)) rfl

theorem wakes_con : CallCon Try.prog 7 [] [] (.t (.one (.v (.bool true)))) [] := by
  have hs := con_yes (P3.same_con W_bd (by rw [W_len]; decide) W_bd (by rw [W_len]; decide)) rfl
  have h1 := con_yes (syn_con wP_wf) (by decide)
  have h2 := con_no (closes_con wP_wf) (by decide)
  have h3 := con_yes (same_con wP_wf wP_wf) rfl
  have h4 := con_no (same_con wP_wf zero_wf) (by decide)
  have h5 := own_con (p := wP) (by show W.length ≤ 100000; rw [W_len]; decide)
  rw [W_len] at hs
  simp only [pkT, show wP.bytes.length = 40 from W_len] at h1 h2 h3 h4 h5
  have h6 := parse1_con
  simp only [pkT, show wP.bytes.length = 40 from W_len] at h6
  refine con_of_call2 rfl ?_
  refine call_inline Try.func7 rfl rfl ?_
  intro _
  repeat' (first | (refine is_split ?_; refine sp_yes (by rfl) ?_ <;> (intro u; clear u)) | (refine is_asked ?_; (first | (refine asked (0, 39) ⟨rfl, by show minMax false 40 39 = 39; decide, by decide, by decide⟩ ?_) | refine asked () (by show heldFree Try.prog _ _ = true; decide +kernel) ?_); intro u; clear u) | (refine is_draw ?_; refine draw_step mixed (by kernel_rfl) ?_; intro u; clear u) | (refine is_call ?_; (first | refine call_auto (one_con) (lets_rfl rfl) (by exact trivial) rfl ?_ | refine call_le (by (repeat' (first | exact trivial | apply And.intro | exact rfl)); (first | done | fail)) (make1_con) (by exact trivial) rfl ?_ | refine call_auto (h6) (lets_rfl rfl) (by exact ⟨⟨_, rfl, rfl, rfl⟩, trivial⟩) rfl ?_ | refine call_auto (parse2_con) (lets_rfl rfl) (by exact ⟨⟨_, rfl, rfl, rfl⟩, trivial⟩) rfl ?_ | refine call_auto (parse3_con) (lets_rfl rfl) (by exact trivial) rfl ?_); intro u; clear u) | (refine is_dcall ?_; (first | refine dcall_auto (one_con) (lets_rfl rfl) (by exact trivial) rfl ?_ | refine dcall_auto (hs) (lets_rfl rfl) (by exact ⟨⟨_, rfl, rfl, rfl⟩, ⟨_, rfl, rfl, rfl⟩, trivial⟩) rfl ?_ | refine dcall_auto (h1) (lets_rfl rfl) (by exact ⟨⟨_, rfl, rfl, rfl⟩, trivial⟩) rfl ?_ | refine dcall_auto (h2) (lets_rfl rfl) (by exact ⟨⟨_, rfl, rfl, rfl⟩, trivial⟩) rfl ?_ | refine dcall_auto (h3) (lets_rfl rfl) (by exact ⟨⟨_, rfl, rfl, rfl⟩, ⟨_, rfl, rfl, rfl⟩, trivial⟩) rfl ?_ | refine dcall_auto (h4) (lets_rfl rfl) (by exact ⟨⟨_, rfl, rfl, rfl⟩, ⟨_, rfl, rfl, rfl⟩, trivial⟩) rfl ?_ | refine dcall_auto (h5) (lets_rfl rfl) (by exact ⟨⟨_, rfl, rfl, rfl⟩, trivial⟩) rfl ?_ | refine dcall_le (by (repeat' (first | exact trivial | apply And.intro | exact rfl)); (first | done | fail)) (synf_con) (by exact trivial) rfl ?_ | refine dcall_le (by (repeat' (first | exact trivial | apply And.intro | exact rfl)); (first | done | fail)) (closesf_con) (by exact trivial) rfl ?_); intro u; clear u))
  all_goals (refine con_end ?_ rfl; intro u; clear u; refine ⟨rfl, rfl, EntGoal.mk ?_ ?_⟩ <;> (repeat' (first | exact trivial | (with_reducible rfl) | apply And.intro | rfl)))
