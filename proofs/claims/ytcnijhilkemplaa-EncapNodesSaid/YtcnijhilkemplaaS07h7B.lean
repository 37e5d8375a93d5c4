/- Contracts of functions of the program, or a row of the seat, proved out of them. No condition beyond those that stand in each statement. -/
import Derived.Test.YtcnijhilkemplaaS07h7A
namespace Go.Proofs.S07.E7
open Go Go.SE
set_option maxRecDepth 100000
set_option maxHeartbeats 4000000
attribute [local irreducible] specI

theorem refad_con {n : Nd} (h : okNd n) : CallCon Try.prog 28 [ndT n] [] (.t (.one (.v (.int .u32 (adr n))))) [] := by
  have h' := h
  unfold okNd at h'
  refine con_of_call2 rfl ?_
  refine call_inline Try.func28 rfl rfl ?_
  intro _
  repeat' (refine is_asked ?_; (first | (refine is_spec ?_; (first | (with_reducible refine asked _ (sp_add (by simp only [lo, hi]; omega) (by simp only [lo, hi]; omega)) ?_) | (refine is_op (op := .shl) ?_; refine asked _ (sp_shlL 8 256 (by decide) (by rfl) (by decide) (by simp only [lo, hi]; omega) (by simp only [lo, hi]; omega)) ?_))) | (refine is_wrap ?_; refine asked _ (wrap_lohi (by simp only [lo, hi]; omega) (by simp only [lo, hi]; omega)) ?_)); intro u; clear u)
  all_goals (refine con_end ?_ rfl; intro u; clear u; refine ⟨rfl, rfl, EntGoal.mk ?_ ?_⟩ <;> (repeat' (first | exact trivial | (with_reducible rfl) | apply And.intro | rfl)))
  all_goals (simp only [adr, if_pos h])
  all_goals omega
theorem refaddr_con {n : Nd} (h : n.Wf) : CallCon Try.prog 10 [ndT n] [] (.tup [.one (.v (.int .u32 (adr n))), .one (.b (okNd n))]) [] := by
  have h1 := h.kind
  have h2 := h.id
  by_cases hok : okNd n
  · have ha := refad_con hok
    rw [decide_eq_true hok]
    unfold okNd at hok
    refine con_of_call2 rfl ?_
    refine call_inline Try.func10 rfl rfl ?_
    intro _
    repeat' (first | (refine is_draw (id := 5) ?_; refine mask_start mixed rfl ?_) | (refine is_mask ?_; (first | (refine mask_take 0 (by rfl) (by show still Try.prog _ = true; decide +kernel) (by decide +kernel) ?_; intro u; clear u) | (refine mask_take 1 (by rfl) (by show still Try.prog _ = true; decide +kernel) (by decide +kernel) ?_; intro u; clear u) | (refine held_start [4] ?_; refine is_held ?_))) | (refine is_held ?_; (first | (refine held_end (by decide +kernel) ?_; intro u; clear u) | (refine held_load [4] 4 _ (by rfl) (.head _) rfl (by decide +kernel) ?_; intro u; clear u) | (refine held_step [4] 2 (by rfl) rfl (by decide +kernel) ?_; intro u; clear u) | (refine held_step [4] 3 (by rfl) rfl (by decide +kernel) ?_; intro u; clear u) | (refine held_step [4] 5 (by rfl) rfl (by decide +kernel) ?_; intro u; clear u))) | (refine is_kept ?_; refine Kept.mk ?_ ?_; focus (repeat' (first | exact trivial | apply And.intro | exact rfl))) | (refine is_split ?_; (first | refine sp_yes (by rfl) ?_ | refine sp_no (by rfl) ?_ | refine Split.mk (fun g => ?_) (fun g => ?_)) <;> (intro u; clear u)) | (refine is_asked ?_; (first | (refine asked [.int .u8 1, .int .i64 0] ⟨by rfl, by decide +kernel⟩ ?_) | (refine asked [.int .u8 1, .int .i64 1] ⟨by rfl, by decide +kernel⟩ ?_) | (refine asked [.int .u8 1, .int .i64 2] ⟨by rfl, by decide +kernel⟩ ?_) | (refine asked [.int .u8 2, .int .i64 0] ⟨by rfl, by decide +kernel⟩ ?_) | (refine asked [.int .u8 2, .int .i64 1] ⟨by rfl, by decide +kernel⟩ ?_) | (refine asked [.int .u8 2, .int .i64 2] ⟨by rfl, by decide +kernel⟩ ?_) | (refine asked [.int .u8 2, .int .i64 3] ⟨by rfl, by decide +kernel⟩ ?_) | (refine asked [.int .u8 2, .int .i64 4] ⟨by rfl, by decide +kernel⟩ ?_) | (refine asked [.int .u8 2, .int .i64 5] ⟨by rfl, by decide +kernel⟩ ?_) | (refine asked [.int .u8 3, .int .i64 0] ⟨by rfl, by decide +kernel⟩ ?_) | refine asked () ⟨by omega, by omega⟩ ?_ | refine asked () (by show heldFree Try.prog _ _ = true; decide +kernel) ?_); intro u; clear u) | (refine is_loop ?_; refine loop_step ?_; intro u; clear u) | (refine is_call ?_; (first | refine call_auto (refnodes_con) (lets_rfl rfl) (by exact trivial) rfl ?_ | refine call_auto (ha) (lets_rfl rfl) (by exact trivial) rfl ?_); intro u; clear u))
    all_goals first
      | ((refine con_end ?_ rfl; intro u; clear u; refine ⟨rfl, rfl, EntGoal.mk ?_ ?_⟩ <;> (repeat' (first | exact trivial | (with_reducible rfl) | apply And.intro | rfl))); done)
      | (exfalso; simp [okNd] at *; omega)
  · rw [decide_eq_false hok, show adr n = 0 by simp [adr, hok]]
    refine con_of_call2 rfl ?_
    refine call_inline Try.func10 rfl rfl ?_
    intro _
    repeat' (first | (refine is_draw (id := 5) ?_; refine mask_start mixed rfl ?_) | (refine is_mask ?_; (first | (refine mask_take 0 (by rfl) (by show still Try.prog _ = true; decide +kernel) (by decide +kernel) ?_; intro u; clear u) | (refine mask_take 1 (by rfl) (by show still Try.prog _ = true; decide +kernel) (by decide +kernel) ?_; intro u; clear u) | (refine held_start [4] ?_; refine is_held ?_))) | (refine is_held ?_; (first | (refine held_end (by decide +kernel) ?_; intro u; clear u) | (refine held_load [4] 4 _ (by rfl) (.head _) rfl (by decide +kernel) ?_; intro u; clear u) | (refine held_step [4] 2 (by rfl) rfl (by decide +kernel) ?_; intro u; clear u) | (refine held_step [4] 3 (by rfl) rfl (by decide +kernel) ?_; intro u; clear u) | (refine held_step [4] 5 (by rfl) rfl (by decide +kernel) ?_; intro u; clear u))) | (refine is_kept ?_; refine Kept.mk ?_ ?_; focus (repeat' (first | exact trivial | apply And.intro | exact rfl))) | (refine is_split ?_; (first | refine sp_yes (by rfl) ?_ | refine sp_no (by rfl) ?_ | refine Split.mk (fun g => ?_) (fun g => ?_)) <;> (intro u; clear u)) | (refine is_asked ?_; (first | (refine asked [.int .u8 1, .int .i64 0] ⟨by rfl, by decide +kernel⟩ ?_) | (refine asked [.int .u8 1, .int .i64 1] ⟨by rfl, by decide +kernel⟩ ?_) | (refine asked [.int .u8 1, .int .i64 2] ⟨by rfl, by decide +kernel⟩ ?_) | (refine asked [.int .u8 2, .int .i64 0] ⟨by rfl, by decide +kernel⟩ ?_) | (refine asked [.int .u8 2, .int .i64 1] ⟨by rfl, by decide +kernel⟩ ?_) | (refine asked [.int .u8 2, .int .i64 2] ⟨by rfl, by decide +kernel⟩ ?_) | (refine asked [.int .u8 2, .int .i64 3] ⟨by rfl, by decide +kernel⟩ ?_) | (refine asked [.int .u8 2, .int .i64 4] ⟨by rfl, by decide +kernel⟩ ?_) | (refine asked [.int .u8 2, .int .i64 5] ⟨by rfl, by decide +kernel⟩ ?_) | (refine asked [.int .u8 3, .int .i64 0] ⟨by rfl, by decide +kernel⟩ ?_) | refine asked () ⟨by omega, by omega⟩ ?_ | refine asked () (by show heldFree Try.prog _ _ = true; decide +kernel) ?_); intro u; clear u) | (refine is_loop ?_; refine loop_step ?_; intro u; clear u) | (refine is_call ?_; refine call_auto (refnodes_con) (lets_rfl rfl) (by exact trivial) rfl ?_; intro u; clear u))
    all_goals first
      | ((refine con_end ?_ rfl; intro u; clear u; refine ⟨rfl, rfl, EntGoal.mk ?_ ?_⟩ <;> (repeat' (first | exact trivial | (with_reducible rfl) | apply And.intro | rfl))); done)
      | (exfalso; simp [okNd] at *; omega)
theorem refnode_con {a : Int} (h : 0 ≤ a ∧ a ≤ 4294967295) : CallCon Try.prog 12 [.one (.v (.int .u32 a))] [] (.tup [ndT (ndOf a), .one (.b (okAd a))]) [] := by
  refine con_of_call2 rfl ?_
  refine call_inline Try.func12 rfl rfl ?_
  intro _
  repeat' (first | (refine is_split ?_; (first | refine sp_yes (by rfl) ?_ | refine sp_no (by rfl) ?_ | refine sp_dec (fun g => ?_) (fun g => ?_)) <;> (intro u; clear u)) | (refine is_asked ?_; (first | (refine is_spec ?_; (first | (with_reducible refine asked _ (sp_add (by simp only [lo, hi]; omega) (by simp only [lo, hi]; omega)) ?_) | (refine is_op (op := .shl) ?_; refine asked _ (sp_shlL 8 256 (by decide) (by rfl) (by decide) (by simp only [lo, hi]; omega) (by simp only [lo, hi]; omega)) ?_))) | (refine is_wrap ?_; refine asked _ (wrap_lohi (by simp only [lo, hi]; omega) (by simp only [lo, hi]; omega)) ?_) | (refine asked [.int .u8 1, .int .i64 0] ⟨by rfl, by decide +kernel⟩ ?_) | (refine asked [.int .u8 1, .int .i64 1] ⟨by rfl, by decide +kernel⟩ ?_) | (refine asked [.int .u8 1, .int .i64 2] ⟨by rfl, by decide +kernel⟩ ?_) | (refine asked [.int .u8 2, .int .i64 0] ⟨by rfl, by decide +kernel⟩ ?_) | (refine asked [.int .u8 2, .int .i64 1] ⟨by rfl, by decide +kernel⟩ ?_) | (refine asked [.int .u8 2, .int .i64 2] ⟨by rfl, by decide +kernel⟩ ?_) | (refine asked [.int .u8 2, .int .i64 3] ⟨by rfl, by decide +kernel⟩ ?_) | (refine asked [.int .u8 2, .int .i64 4] ⟨by rfl, by decide +kernel⟩ ?_) | (refine asked [.int .u8 2, .int .i64 5] ⟨by rfl, by decide +kernel⟩ ?_) | (refine asked [.int .u8 3, .int .i64 0] ⟨by rfl, by decide +kernel⟩ ?_) | refine asked () ⟨by omega, by omega⟩ ?_); intro u; clear u) | (refine is_loop ?_; refine loop_step ?_; intro u; clear u) | (refine is_call ?_; (first | refine call_auto (refnodes_con) (lets_rfl rfl) (by exact trivial) rfl ?_ | refine call_inline Try.func28 rfl rfl ?_); intro u; clear u))
  all_goals (refine con_end ?_ rfl; intro u; clear u; refine ⟨rfl, rfl, EntGoal.mk ?_ ?_⟩ <;> (repeat' (first | exact trivial | (with_reducible rfl) | apply And.intro | rfl)))
  all_goals first
    | (simp only [ndOf]; rw [if_pos (by unfold okAd; omega)]; simp only; omega)
    | (simp only [ndOf]; rw [if_neg (by unfold okAd; omega)]; rfl)
    | exact (decide_eq_true (by unfold okAd; omega)).symm
    | exact (decide_eq_false (by unfold okAd; omega)).symm
    | exact decide_eq_true (by unfold okAd; omega)
    | exact decide_eq_false (by unfold okAd; omega)
