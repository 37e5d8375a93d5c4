/- Contracts of functions of the program, or a row of the seat, proved out of them. No condition beyond those that stand in each statement. -/
import Derived.Test.YtcnijhilkemplaaS07h2H
namespace Go.Proofs.S07.I2
open Go Go.SE
set_option maxRecDepth 100000
set_option maxHeartbeats 4000000
attribute [local irreducible] specI

theorem refput_con {t : Hd} (h : t.Wf) : CallCon Try.prog 32 [hdT t 0 1] [.row (ints .u8 t.opts) 1 5 false, .row (ints .u8 t.pay) 1 5 false] (.tup [.one (.sl 0 0 (putL t).length), .one (.b (okHd t))]) [.row (ints .u8 (putL t)) 1 5 true] := by
  have hr := hrefright_con h
  by_cases hok : okHd t
  · have hr2 := con_yes hr hok
    have hsz := refsize_con h
    rw [show sizeN t = 20 + t.opts.length + t.pay.length by simp [sizeN, hok]] at hsz
    have hk := putK_bd h hok
    have hb0 := head_bytes (k := 0) h hok (by omega)
    have hC := refcheck_con hb0 (by rw [head_len]; have := h.olen; omega)
    rw [head_len] at hC
    change CallCon _ _ _ _ (.t (.one (.v (.int .u16 (putK t))))) _ at hC
    have hlen : (putL t).length = 20 + t.opts.length + t.pay.length := by simp [putL, hok, head_len]
    have e1 : putL t = headL t (putK t) ++ t.pay := by simp [putL, hok]
    rw [hlen, e1, decide_eq_true hok]
    obtain ⟨⟨h1, h2, h3, h4, h5, h6, h7, h8, h9⟩, h10, h11⟩ := h
    unfold okHd at hok
    generalize putK t = k at *
    have hl0 : (headL t 0).length = 20 + t.opts.length := head_len
    refine con_of_call2 rfl ?_
    refine call_inline Try.func32 rfl rfl ?_
    intro _
    repeat' (first | (refine is_asked ?_; (first | (refine is_spec ?_; (first | (refine asked _ (sp_quo (by omega) (by omega) (by simp only [lo, hi]; omega)) ?_) | (with_reducible refine asked _ (sp_add (by simp only [lo, hi]; omega) (by simp only [lo, hi]; omega)) ?_))) | (refine is_wrap ?_; refine asked _ (wrap_lohi (by simp only [lo, hi]; omega) (by simp only [lo, hi]; omega)) ?_) | (refine asked (ints .u8 (headL t 0)) ⟨by rw [ints_all, headL, ints_append]; rfl, rfl, by rw [ints_all, ints_length]; show _ = _ * 1; omega, by unfold maxLen; omega, by show _ * 1 ≤ _; omega⟩ ?_) | (refine asked _ (append_ask rfl rfl (of_decide_eq_true rfl) (of_decide_eq_true rfl)) ?_) | (refine asked (.int .u8 (k / 256)) rfl ?_) | (refine asked (.int .u8 (k % 256)) rfl ?_) | (refine asked (ints .u8 (headL t (k / 256 * 256))) ⟨by unfold headL baseL; rw [show k / 256 * 256 / 256 = k / 256 by omega, show k / 256 * 256 % 256 = 0 by omega]; rfl, by rw [ints_length, hl0]; show 11 ≤ _; omega⟩ ?_) | (refine asked (ints .u8 (headL t k)) ⟨by unfold headL baseL; rw [show k / 256 * 256 / 256 = k / 256 by omega]; rfl, by rw [ints_length, head_len]; show 12 ≤ _; omega⟩ ?_) | (refine asked (ints .u8 (headL t k ++ t.pay)) ⟨by rw [ints_all, ints_append], by rw [ints_length, head_len]; show _ = _ * 1; omega, by rw [ints_all, ints_length]; show _ = _ * 1; omega, by unfold maxLen; omega, by show _ * 1 ≤ _; omega⟩ ?_) | refine asked () ⟨by omega, by omega⟩ ?_); intro u; clear u) | (refine is_draw ?_; refine draw_step mixed (by kernel_rfl) ?_; intro u; clear u) | (refine is_call ?_; (first | refine call_auto (hr2) (lets_rfl rfl) (by exact ⟨⟨_, rfl, rfl, rfl⟩, ⟨_, rfl, rfl, rfl⟩, trivial⟩) rfl ?_ | refine call_auto (hsz) (lets_rfl rfl) (by exact ⟨⟨_, rfl, rfl, rfl⟩, ⟨_, rfl, rfl, rfl⟩, trivial⟩) rfl ?_ | refine call_auto (hC) (lets_rfl rfl) (by exact ⟨⟨_, rfl, rfl, rfl⟩, trivial⟩) rfl ?_ | refine call_auto (two_con (n := (20 + t.opts.length + t.pay.length : Int)) (by omega)) (lets_rfl rfl) (by exact trivial) rfl ?_ | refine call_auto (two_con (n := t.number) (by omega)) (lets_rfl rfl) (by exact trivial) rfl ?_ | refine call_auto (two_con (n := t.flags) (by omega)) (lets_rfl rfl) (by exact trivial) rfl ?_ | refine call_auto (two_con (n := k) (by omega)) (lets_rfl rfl) (by exact trivial) rfl ?_); intro u; clear u) | (refine is_dcall ?_; (first | refine dcall_auto (four_con h6) (lets_rfl rfl) (by exact trivial) rfl ?_ | refine dcall_auto (four_con h7) (lets_rfl rfl) (by exact trivial) rfl ?_); intro u; clear u))
    all_goals (refine con_end ?_ rfl; intro u; clear u; refine ⟨rfl, rfl, EntGoal.mk ?_ ?_⟩ <;> (repeat' (first | exact trivial | (with_reducible rfl) | apply And.intro | rfl)))
  · rw [decide_eq_false hok, show putL t = [] by simp [putL, hok]]
    have hr2 := con_no hr hok
    refine con_of_call2 rfl ?_
    refine call_inline Try.func32 rfl rfl ?_
    intro _
    repeat' (refine is_call ?_; refine call_auto (hr2) (lets_rfl rfl) (by exact ⟨⟨_, rfl, rfl, rfl⟩, ⟨_, rfl, rfl, rfl⟩, trivial⟩) rfl ?_; intro u; clear u)
    all_goals (refine con_end ?_ rfl; intro u; clear u; refine ⟨rfl, rfl, EntGoal.mk ?_ ?_⟩ <;> (repeat' (first | exact trivial | (with_reducible rfl) | apply And.intro | rfl)))
