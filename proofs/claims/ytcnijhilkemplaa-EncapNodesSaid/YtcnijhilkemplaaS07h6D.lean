/- Contracts of functions of the program, or a row of the seat, proved out of them. No condition beyond those that stand in each statement. -/
import Derived.Test.YtcnijhilkemplaaS07h6C
namespace Go.Proofs.S07.O6
open Go Go.SE
set_option maxRecDepth 100000
set_option maxHeartbeats 4000000
attribute [local irreducible] specI
attribute [local irreducible] okOpt

theorem num4_at {b0 b1 b2 b3 b4 b5 b6 b7 b8 b9 b10 b11 b12 b13 b14 b15 : Int} (h0 : 0 ≤ b0 ∧ b0 ≤ 255) (h1 : 0 ≤ b1 ∧ b1 ≤ 255) (h2 : 0 ≤ b2 ∧ b2 ≤ 255) (h3 : 0 ≤ b3 ∧ b3 ≤ 255) (h4 : 0 ≤ b4 ∧ b4 ≤ 255) (h5 : 0 ≤ b5 ∧ b5 ≤ 255) (h6 : 0 ≤ b6 ∧ b6 ≤ 255) (h7 : 0 ≤ b7 ∧ b7 ≤ 255) (h8 : 0 ≤ b8 ∧ b8 ≤ 255) (h9 : 0 ≤ b9 ∧ b9 ≤ 255) (h10 : 0 ≤ b10 ∧ b10 ≤ 255) (h11 : 0 ≤ b11 ∧ b11 ≤ 255) (h12 : 0 ≤ b12 ∧ b12 ≤ 255) (h13 : 0 ≤ b13 ∧ b13 ≤ 255) (h14 : 0 ≤ b14 ∧ b14 ≤ 255) (h15 : 0 ≤ b15 ∧ b15 ≤ 255) :
   CallCon Try.prog 58 [.one (.sl 0 6 4)] [.row (ints .u8 [b0, b1, b2, b3, b4, b5, b6, b7, b8, b9, b10, b11, b12, b13, b14, b15]) 1 5 false] (.t (.one (.v (.int .i64 (num [b6, b7, b8, b9] 0))))) [] := by
  refine con_of_call2 rfl ?_
  refine call_inline Try.func58 rfl rfl ?_
  intro _
  repeat' (first | (refine is_split ?_; (first | refine sp_yes (by rfl) ?_ | refine sp_no (by rfl) ?_) <;> (intro u; clear u)) | (refine is_asked ?_; (first | (refine is_spec ?_; (first | (with_reducible refine asked _ (sp_add (by simp only [lo, hi]; omega) (by simp only [lo, hi]; omega)) ?_) | (with_reducible refine asked _ (sp_mul (by simp only [lo, hi]; omega) (by simp only [lo, hi]; omega)) ?_))) | (refine is_wrap ?_; refine asked _ (wrap_lohi (by simp only [lo, hi]; omega) (by simp only [lo, hi]; omega)) ?_) | refine asked () ⟨by omega, by omega⟩ ?_ | refine asked _ rfl ?_); intro u; clear u) | (refine is_loop ?_; refine loop_step ?_; intro u; clear u))
  all_goals (refine con_end ?_ rfl; intro u; clear u; refine ⟨rfl, rfl, EntGoal.mk ?_ ?_⟩ <;> (repeat' (first | exact trivial | (with_reducible rfl) | apply And.intro | rfl)))
  all_goals (simp [num]; omega)
theorem num6_at {b0 b1 b2 b3 b4 b5 b6 b7 b8 b9 b10 b11 b12 b13 b14 b15 : Int} (h0 : 0 ≤ b0 ∧ b0 ≤ 255) (h1 : 0 ≤ b1 ∧ b1 ≤ 255) (h2 : 0 ≤ b2 ∧ b2 ≤ 255) (h3 : 0 ≤ b3 ∧ b3 ≤ 255) (h4 : 0 ≤ b4 ∧ b4 ≤ 255) (h5 : 0 ≤ b5 ∧ b5 ≤ 255) (h6 : 0 ≤ b6 ∧ b6 ≤ 255) (h7 : 0 ≤ b7 ∧ b7 ≤ 255) (h8 : 0 ≤ b8 ∧ b8 ≤ 255) (h9 : 0 ≤ b9 ∧ b9 ≤ 255) (h10 : 0 ≤ b10 ∧ b10 ≤ 255) (h11 : 0 ≤ b11 ∧ b11 ≤ 255) (h12 : 0 ≤ b12 ∧ b12 ≤ 255) (h13 : 0 ≤ b13 ∧ b13 ≤ 255) (h14 : 0 ≤ b14 ∧ b14 ≤ 255) (h15 : 0 ≤ b15 ∧ b15 ≤ 255) :
   CallCon Try.prog 58 [.one (.sl 0 10 6)] [.row (ints .u8 [b0, b1, b2, b3, b4, b5, b6, b7, b8, b9, b10, b11, b12, b13, b14, b15]) 1 5 false] (.t (.one (.v (.int .i64 (num [b10, b11, b12, b13, b14, b15] 0))))) [] := by
  refine con_of_call2 rfl ?_
  refine call_inline Try.func58 rfl rfl ?_
  intro _
  repeat' (first | (refine is_split ?_; (first | refine sp_yes (by rfl) ?_ | refine sp_no (by rfl) ?_) <;> (intro u; clear u)) | (refine is_asked ?_; (first | (refine is_spec ?_; (first | (with_reducible refine asked _ (sp_add (by simp only [lo, hi]; omega) (by simp only [lo, hi]; omega)) ?_) | (with_reducible refine asked _ (sp_mul (by simp only [lo, hi]; omega) (by simp only [lo, hi]; omega)) ?_))) | (refine is_wrap ?_; refine asked _ (wrap_lohi (by simp only [lo, hi]; omega) (by simp only [lo, hi]; omega)) ?_) | refine asked () ⟨by omega, by omega⟩ ?_ | refine asked _ rfl ?_); intro u; clear u) | (refine is_loop ?_; refine loop_step ?_; intro u; clear u))
  all_goals (refine con_end ?_ rfl; intro u; clear u; refine ⟨rfl, rfl, EntGoal.mk ?_ ?_⟩ <;> (repeat' (first | exact trivial | (with_reducible rfl) | apply And.intro | rfl)))
  all_goals (simp [num]; omega)

/-- The bytes of what they are parsed to. -/
theorem put_parse {b0 b1 b2 b3 b4 b5 b6 b7 b8 b9 b10 b11 b12 b13 b14 b15 : Int} (h0 : 0 ≤ b0 ∧ b0 ≤ 255) (h1 : 0 ≤ b1 ∧ b1 ≤ 255) (h2 : 0 ≤ b2 ∧ b2 ≤ 255) (h3 : 0 ≤ b3 ∧ b3 ≤ 255) (h4 : 0 ≤ b4 ∧ b4 ≤ 255) (h5 : 0 ≤ b5 ∧ b5 ≤ 255) (h6 : 0 ≤ b6 ∧ b6 ≤ 255) (h7 : 0 ≤ b7 ∧ b7 ≤ 255) (h8 : 0 ≤ b8 ∧ b8 ≤ 255) (h9 : 0 ≤ b9 ∧ b9 ≤ 255) (h10 : 0 ≤ b10 ∧ b10 ≤ 255) (h11 : 0 ≤ b11 ∧ b11 ≤ 255) (h12 : 0 ≤ b12 ∧ b12 ≤ 255) (h13 : 0 ≤ b13 ∧ b13 ≤ 255) (h14 : 0 ≤ b14 ∧ b14 ≤ 255) (h15 : 0 ≤ b15 ∧ b15 ≤ 255) (hok : okOpt (parseO b2 b3 b4 b5 b6 b7 b8 b9 b10 b11 b12 b13 b14 b15) = true) : (putS (parseO b2 b3 b4 b5 b6 b7 b8 b9 b10 b11 b12 b13 b14 b15) = [b0, b1, b2, b3, b4, b5, b6, b7, b8, b9, b10, b11, b12, b13, b14, b15]) ↔ (b0 = 158 ∧ b1 = 16) := by
  have hk := hok
  unfold okOpt at hk
  have hk := of_decide_eq_true hk
  simp only [parseO, num, nodeS] at hk
  have e : putS (parseO b2 b3 b4 b5 b6 b7 b8 b9 b10 b11 b12 b13 b14 b15) = [158, 16] ++ [b2, b3, b4, b5, b6, b7, b8, b9, b10, b11, b12, b13, b14, b15] := by
    unfold putS
    rw [if_pos hok]
    simp only [parseO, num, nodeS, List.cons_append, List.nil_append, List.cons.injEq, and_true, true_and]
    refine ⟨?_, ?_, ?_, ?_, ?_, ?_, ?_, ?_, ?_, ?_, ?_, ?_⟩ <;> (repeat' split) <;> omega
  rw [e]
  simp only [List.cons_append, List.nil_append, List.cons.injEq, and_true]
  omega

theorem put_bytes {o : Opt} (h : o.Wf) : Bytes (putS o) := by
  obtain ⟨k0, k1, b0, b1⟩ := h
  intro x hx
  unfold putS at hx
  split at hx
  · simp at hx; omega
  · simp at hx
theorem putE_zero {o : Opt} : putE o = 0 ↔ okOpt o = true := by
  unfold putE; split <;> simp [*]

theorem reftake16 {b0 b1 b2 b3 b4 b5 b6 b7 b8 b9 b10 b11 b12 b13 b14 b15 : Int} (h0 : 0 ≤ b0 ∧ b0 ≤ 255) (h1 : 0 ≤ b1 ∧ b1 ≤ 255) (h2 : 0 ≤ b2 ∧ b2 ≤ 255) (h3 : 0 ≤ b3 ∧ b3 ≤ 255) (h4 : 0 ≤ b4 ∧ b4 ≤ 255) (h5 : 0 ≤ b5 ∧ b5 ≤ 255) (h6 : 0 ≤ b6 ∧ b6 ≤ 255) (h7 : 0 ≤ b7 ∧ b7 ≤ 255) (h8 : 0 ≤ b8 ∧ b8 ≤ 255) (h9 : 0 ≤ b9 ∧ b9 ≤ 255) (h10 : 0 ≤ b10 ∧ b10 ≤ 255) (h11 : 0 ≤ b11 ∧ b11 ≤ 255) (h12 : 0 ≤ b12 ∧ b12 ≤ 255) (h13 : 0 ≤ b13 ∧ b13 ≤ 255) (h14 : 0 ≤ b14 ∧ b14 ≤ 255) (h15 : 0 ≤ b15 ∧ b15 ≤ 255) :
    CallCon Try.prog 36 [.one (.sl 0 0 16)] [.row (ints .u8 [b0, b1, b2, b3, b4, b5, b6, b7, b8, b9, b10, b11, b12, b13, b14, b15]) 1 5 false] (.tup [optT (takeO [b0, b1, b2, b3, b4, b5, b6, b7, b8, b9, b10, b11, b12, b13, b14, b15]), .one (.v (.int .i64 (takeE [b0, b1, b2, b3, b4, b5, b6, b7, b8, b9, b10, b11, b12, b13, b14, b15])))]) [] := by
  have hwf : (parseO b2 b3 b4 b5 b6 b7 b8 b9 b10 b11 b12 b13 b14 b15).Wf := ⟨by simp only [parseO]; omega, by simp only [parseO]; omega, by simp only [parseO]; omega, by simp only [parseO]; omega⟩
  have hb1 := put_bytes hwf
  have hb2 : Bytes [b0, b1, b2, b3, b4, b5, b6, b7, b8, b9, b10, b11, b12, b13, b14, b15] := by intro x hx; simp at hx; omega
  refine con_of_call2 rfl ?_
  refine call_inline Try.func36 rfl rfl ?_
  intro _
  repeat' (first | (refine is_split ?_; (first | refine sp_no (by rfl) ?_ | refine sp_ndec (fun g => ?_) (fun g => ?_) | refine sp_nstr (by assumption) (by assumption) (fun g => ?_) (fun g => ?_)) <;> (intro u; clear u)) | (refine is_asked ?_; (first | (refine asked _ (tostr_ask (take_ints .u8 [b0, b1, b2, b3, b4, b5, b6, b7, b8, b9, b10, b11, b12, b13, b14, b15]) rfl) ?_) | refine asked _ (slice_ask (by omega) (by omega) (by omega)) ?_ | refine asked () ⟨by omega, by omega⟩ ?_ | refine asked _ (tostr_ask (take_ints _ _) rfl) ?_ | refine asked _ rfl ?_); intro u; clear u) | (refine is_draw ?_; refine draw_step mixed (by kernel_rfl) ?_; intro u; clear u) | (refine is_call ?_; refine call_auto (refput_con hwf) (lets_rfl rfl) (by exact trivial) rfl ?_; intro u; clear u) | (refine is_dcall ?_; (first | refine dcall_auto (node_con (by omega) (by omega)) (lets_rfl rfl) (by exact trivial) rfl ?_ | refine dcall_auto (num4_at h0 h1 h2 h3 h4 h5 h6 h7 h8 h9 h10 h11 h12 h13 h14 h15) (lets_rfl rfl) (by exact ⟨⟨_, rfl, rfl, rfl⟩, trivial⟩) rfl ?_ | refine dcall_auto (num6_at h0 h1 h2 h3 h4 h5 h6 h7 h8 h9 h10 h11 h12 h13 h14 h15) (lets_rfl rfl) (by exact ⟨⟨_, rfl, rfl, rfl⟩, trivial⟩) rfl ?_); intro u; clear u))
  all_goals (simp only [takeO, takeE])
  · have e : ¬ (b0 = 158 ∧ b1 = 16 ∧ okOpt (parseO b2 b3 b4 b5 b6 b7 b8 b9 b10 b11 b12 b13 b14 b15) = true) := fun hh => g (putE_zero.2 hh.2.2)
    rw [if_neg e, if_neg e]
    (refine con_end ?_ rfl; intro u; clear u; refine ⟨rfl, rfl, EntGoal.mk ?_ ?_⟩ <;> (repeat' (first | exact trivial | (with_reducible rfl) | apply And.intro | rfl)))
  · have e : ¬ (b0 = 158 ∧ b1 = 16 ∧ okOpt (parseO b2 b3 b4 b5 b6 b7 b8 b9 b10 b11 b12 b13 b14 b15) = true) := fun hh => g ((put_parse h0 h1 h2 h3 h4 h5 h6 h7 h8 h9 h10 h11 h12 h13 h14 h15 hh.2.2).2 ⟨hh.1, hh.2.1⟩)
    rw [if_neg e, if_neg e]
    (refine con_end ?_ rfl; intro u; clear u; refine ⟨rfl, rfl, EntGoal.mk ?_ ?_⟩ <;> (repeat' (first | exact trivial | (with_reducible rfl) | apply And.intro | rfl)))
  · rename_i g1
    have hok := putE_zero.1 g1
    have e : b0 = 158 ∧ b1 = 16 ∧ okOpt (parseO b2 b3 b4 b5 b6 b7 b8 b9 b10 b11 b12 b13 b14 b15) = true := ⟨((put_parse h0 h1 h2 h3 h4 h5 h6 h7 h8 h9 h10 h11 h12 h13 h14 h15 hok).1 g).1, ((put_parse h0 h1 h2 h3 h4 h5 h6 h7 h8 h9 h10 h11 h12 h13 h14 h15 hok).1 g).2, hok⟩
    rw [if_pos e, if_pos e]
    (refine con_end ?_ rfl; intro u; clear u; refine ⟨rfl, rfl, EntGoal.mk ?_ ?_⟩ <;> (repeat' (first | exact trivial | (with_reducible rfl) | apply And.intro | rfl)))

theorem len16 {l : List Int} (h : l.length = 16) : ∃ b0 b1 b2 b3 b4 b5 b6 b7 b8 b9 b10 b11 b12 b13 b14 b15, l = [b0, b1, b2, b3, b4, b5, b6, b7, b8, b9, b10, b11, b12, b13, b14, b15] := by
  match l, h with
  | [b0, b1, b2, b3, b4, b5, b6, b7, b8, b9, b10, b11, b12, b13, b14, b15], _ => exact ⟨_, _, _, _, _, _, _, _, _, _, _, _, _, _, _, _, rfl⟩

theorem take_con {l : List Int} (hl : l.length ≤ 100) (hb : Bytes l) : CallCon Try.prog 34 [.one (.sl 0 0 l.length)] [.row (ints .u8 l) 1 5 false] (.tup [optT (takeO l), .one (.v (.int .i64 (takeE l)))]) [] := by
  by_cases h : l.length = 16
  · obtain ⟨b0, b1, b2, b3, b4, b5, b6, b7, b8, b9, b10, b11, b12, b13, b14, b15, rfl⟩ := len16 h
    simp only [Bytes, List.mem_cons, List.not_mem_nil, or_false, forall_eq_or_imp, forall_eq] at hb
    obtain ⟨h0, h1, h2, h3, h4, h5, h6, h7, h8, h9, h10, h11, h12, h13, h14, h15⟩ := hb
    exact take16 h0 h1 h2 h3 h4 h5 h6 h7 h8 h9 h10 h11 h12 h13 h14 h15
  · exact take_other h hl
theorem reftake_con {l : List Int} (hl : l.length ≤ 100) (hb : Bytes l) : CallCon Try.prog 36 [.one (.sl 0 0 l.length)] [.row (ints .u8 l) 1 5 false] (.tup [optT (takeO l), .one (.v (.int .i64 (takeE l)))]) [] := by
  by_cases h : l.length = 16
  · obtain ⟨b0, b1, b2, b3, b4, b5, b6, b7, b8, b9, b10, b11, b12, b13, b14, b15, rfl⟩ := len16 h
    simp only [Bytes, List.mem_cons, List.not_mem_nil, or_false, forall_eq_or_imp, forall_eq] at hb
    obtain ⟨h0, h1, h2, h3, h4, h5, h6, h7, h8, h9, h10, h11, h12, h13, h14, h15⟩ := hb
    exact reftake16 h0 h1 h2 h3 h4 h5 h6 h7 h8 h9 h10 h11 h12 h13 h14 h15
  · exact reftake_other h hl
