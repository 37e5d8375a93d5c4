/- Contracts of functions of the program, or a row of the seat, proved out of them. No condition beyond those that stand in each statement. -/
import Derived.Test.YtcnijhilkemplaaS07h2G
namespace Go.Proofs.S07.I2
open Go Go.SE
set_option maxRecDepth 100000
set_option maxHeartbeats 4000000
attribute [local irreducible] specI

def baseL (t : Hd) (k : Int) : List Int := [69 + (t.opts.length : Int) / 4, t.service, (20 + t.opts.length + t.pay.length : Int) / 256, (20 + t.opts.length + t.pay.length : Int) % 256, t.number / 256, t.number % 256, t.flags / 256, t.flags % 256, t.hops, t.protocol, k / 256, k % 256,
  t.src / 65536 / 256, t.src / 65536 % 256, t.src % 65536 / 256, t.src % 65536 % 256, t.dst / 65536 / 256, t.dst / 65536 % 256, t.dst % 65536 / 256, t.dst % 65536 % 256]
def headL (t : Hd) (k : Int) : List Int := baseL t k ++ t.opts
def putK (t : Hd) : Int := 65535 - sumW (headL t 0)
def putL (t : Hd) : List Int := if okHd t then headL t (putK t) ++ t.pay else []

theorem head_len {t : Hd} {k : Int} : (headL t k).length = 20 + t.opts.length := by simp [headL, baseL]; omega
theorem head_bytes {t : Hd} {k : Int} (h : t.Wf) (hok : okHd t) (hk : 0 ≤ k ∧ k ≤ 65535) : ∀ x ∈ headL t k, 0 ≤ x ∧ x ≤ 255 := by
  obtain ⟨⟨h1, h2, h3, h4, h5, h6, h7, h8, h9⟩, h10, h11⟩ := h
  unfold okHd at hok
  intro x hx
  rcases List.mem_append.mp hx with hx | hx
  · simp only [baseL, List.mem_cons, List.not_mem_nil, or_false] at hx
    omega
  · exact h8 x hx
theorem putK_bd {t : Hd} (h : t.Wf) (hok : okHd t) : 0 ≤ putK t ∧ putK t ≤ 65535 := by
  have := sumW_bd (head_bytes (k := 0) h hok (by omega))
  unfold putK; omega

theorem put_con {t : Hd} (h : t.Wf) : CallCon Try.prog 30 [hdT t 0 1] [.row (ints .u8 t.opts) 1 5 false, .row (ints .u8 t.pay) 1 5 false] (.tup [.one (.sl 0 0 (putL t).length), .one (.b (okHd t))]) [.row (ints .u8 (putL t)) 1 5 true] := by
  have hr := hright_con h
  by_cases hok : okHd t
  · have hr2 := con_yes hr hok
    have hsz := size_con h
    rw [show sizeN t = 20 + t.opts.length + t.pay.length by simp [sizeN, hok]] at hsz
    have hk := putK_bd h hok
    have hb0 := head_bytes (k := 0) h hok (by omega)
    have hC := check_con hb0 (by rw [head_len]; have := h.olen; omega)
    rw [head_len] at hC
    change CallCon _ _ _ _ (.t (.one (.v (.int .u16 (putK t))))) _ at hC
    have hlen : (putL t).length = 20 + t.opts.length + t.pay.length := by simp [putL, hok, head_len]
    have e1 : putL t = headL t (putK t) ++ t.pay := by simp [putL, hok]
    rw [hlen, e1, decide_eq_true hok]
    obtain ⟨⟨h1, h2, h3, h4, h5, h6, h7, h8, h9⟩, h10, h11⟩ := h
    unfold okHd at hok
    generalize putK t = k at *
    refine con_of_call2 rfl ?_
    refine call_inline Try.func30 rfl rfl ?_
    intro _
    have hl0 : (headL t 0).length = 20 + t.opts.length := head_len
    repeat' (first | (refine is_draw (id := 8) ?_; refine bar_start mixed ?_; refine rest_bar 4 (by kernel_rfl) rfl (by rfl) (by kernel_rfl) ?_; intro u; clear u) | (refine is_asked ?_; (first | (refine is_spec ?_; (first | (refine asked _ (sp_quo (by omega) (by omega) (by simp only [lo, hi]; omega)) ?_) | (refine asked _ (sp_or 4 (by omega) (by simp only [lo, hi]; omega) (by omega) (by omega) (by omega) (by simp only [lo, hi]; omega)) ?_) | (with_reducible refine asked _ (sp_add (by simp only [lo, hi]; omega) (by simp only [lo, hi]; omega)) ?_) | (refine is_op (op := .shr) ?_; (first | refine asked _ (sp_shrL 8 256 (by decide) (by rfl) (by decide)) ?_ | refine asked _ (sp_shrL 16 65536 (by decide) (by rfl) (by decide)) ?_)) | (refine is_op (op := .shl) ?_; refine asked _ (sp_shlL 8 256 (by decide) (by rfl) (by decide) (by simp only [lo, hi]; omega) (by simp only [lo, hi]; omega)) ?_) | (with_reducible refine asked _ (sp_or 8 (by omega) (by simp only [lo, hi]; omega) (by omega) (by omega) (by omega) (by simp only [lo, hi]; omega)) ?_))) | (refine is_wrap ?_; (first | refine asked _ (wrap_lohi (by simp only [lo, hi]; omega) (by simp only [lo, hi]; omega)) ?_ | refine asked _ (wrap_u8' _) ?_ | refine asked _ (wrap_u16' _) ?_)) | (refine asked (0, (20 + t.opts.length + t.pay.length : Nat), []) ⟨rfl, by simp only; omega, by simp only; omega, by show (20 + t.opts.length + t.pay.length) * 1 ≤ _; omega, by unfold maxLen; simp only; omega, rfl⟩ ?_) | (refine asked _ (append_ask rfl rfl (of_decide_eq_true rfl) (of_decide_eq_true rfl)) ?_) | (refine asked (ints .u8 (headL t 0)) ⟨by rw [ints_all, headL, ints_append]; congr 1; simp [ints, baseL]; omega, rfl, by rw [ints_all, ints_length]; show _ = _ * 1; omega, by unfold maxLen; simp only; omega, by show _ * 1 ≤ _; simp only; omega⟩ ?_) | (refine asked (ints .u8 (headL t (k / 256 * 256))) ⟨by unfold headL baseL; rw [show k / 256 * 256 / 256 = k / 256 by omega, show k / 256 * 256 % 256 = 0 by omega]; rfl, by rw [ints_length, hl0]; show 11 ≤ _; omega⟩ ?_) | (refine asked (ints .u8 (headL t k)) ⟨by unfold headL baseL; rw [show k / 256 * 256 / 256 = k / 256 by omega]; rfl, by rw [ints_length, head_len]; show 12 ≤ _; omega⟩ ?_) | (refine asked (ints .u8 (headL t k ++ t.pay)) ⟨by rw [ints_all, ints_append], by rw [ints_length, head_len]; show _ = _ * 1; simp only; omega, by rw [ints_all, ints_length]; show _ = _ * 1; omega, by unfold maxLen; simp only; omega, by show _ * 1 ≤ _; simp only; omega⟩ ?_) | refine asked _ (slice_ask (by omega) (by omega) (by omega)) ?_ | refine asked () ⟨by omega, by omega⟩ ?_); intro u; clear u) | (refine is_loop ?_; refine loop_step ?_; intro u; clear u) | (refine is_yield ?_; refine yield_step rfl rfl rfl rfl ?_; intro u; clear u) | (refine is_draw ?_; refine draw_step mixed (by kernel_rfl) ?_; intro u; clear u) | (refine is_rest ?_; refine rest_dr (by kernel_rfl) (by rfl) ?_; intro u; clear u) | (refine is_range ?_; refine range_step rfl rfl ?_; intro u; clear u) | (refine is_call ?_; (first | refine call_auto (hr2) (lets_rfl rfl) (by exact ⟨⟨_, rfl, rfl, rfl⟩, ⟨_, rfl, rfl, rfl⟩, trivial⟩) rfl ?_ | refine call_auto (hsz) (lets_rfl rfl) (by exact ⟨⟨_, rfl, rfl, rfl⟩, ⟨_, rfl, rfl, rfl⟩, trivial⟩) rfl ?_ | refine call_inline Try.func46 rfl rfl ?_ | refine call_inline Try.func62 rfl rfl ?_ | refine call_inline Try.func47 rfl rfl ?_); intro u; clear u) | (refine is_dcall ?_; (first | refine dcall_auto (hsz) (lets_rfl rfl) (by exact ⟨⟨_, rfl, rfl, rfl⟩, ⟨_, rfl, rfl, rfl⟩, trivial⟩) rfl ?_ | refine dcall_auto (hC) (lets_rfl rfl) (by exact ⟨⟨_, rfl, rfl, rfl⟩, trivial⟩) rfl ?_); intro u; clear u))
    all_goals (refine con_end ?_ rfl; intro u; clear u; refine ⟨rfl, rfl, EntGoal.mk ?_ ?_⟩ <;> (repeat' (first | exact trivial | (with_reducible rfl) | apply And.intro | rfl)))
  · rw [decide_eq_false hok, show putL t = [] by simp [putL, hok]]
    have hr2 := con_no hr hok
    refine con_of_call2 rfl ?_
    refine call_inline Try.func30 rfl rfl ?_
    intro _
    repeat' (refine is_call ?_; refine call_auto (hr2) (lets_rfl rfl) (by exact ⟨⟨_, rfl, rfl, rfl⟩, ⟨_, rfl, rfl, rfl⟩, trivial⟩) rfl ?_; intro u; clear u)
    all_goals (refine con_end ?_ rfl; intro u; clear u; refine ⟨rfl, rfl, EntGoal.mk ?_ ?_⟩ <;> (repeat' (first | exact trivial | (with_reducible rfl) | apply And.intro | rfl)))
