/- Contracts of functions of the program, or a row of the seat, proved out of them. No condition beyond those that stand in each statement. -/
import Derived.Test.YtcnijhilkemplaaS07h2F
namespace Go.Proofs.S07.I2
open Go Go.SE
set_option maxRecDepth 100000
set_option maxHeartbeats 4000000
attribute [local irreducible] specI

theorem check_view {l : List Int} {n : Nat} (h : n ≤ l.length) (h2 : 12 ≤ n) : (((l.drop 0).take n).set 10 0).set 11 0 = zeroK (l.take n) := by simp [zeroK]
theorem ipcheck_con {l : List Int} {n : Nat} (h : n ≤ l.length) (h2 : 12 ≤ n) (hl : l.length ≤ 100000) (hb : ∀ x ∈ l, 0 ≤ x ∧ x ≤ 255) : CallCon Try.prog 56 [.one (.sl 0 0 n)] [.row (ints .u8 l) 1 5 false] (.t (.one (.v (.int .u16 (65535 - sumW (zeroK (l.take n))))))) [] := by
  have hc := clone_con (l := l) (off := 0) (n := n) (by omega) (by intro e; subst e; simp at h; omega) hl
  have hln : ((l.drop 0).take n).length = n := by simp; omega
  have hb2 : ∀ x ∈ l.take n, 0 ≤ x ∧ x ≤ 255 := fun x hx => hb x (List.mem_of_mem_take hx)
  have hk := check_con (zeroK_bd hb2) (by rw [zeroK_len, List.length_take]; omega)
  have hl2 : (zeroK (l.take n)).length = n := by rw [zeroK_len, List.length_take]; omega
  rw [hl2] at hk
  refine con_of_call2 rfl ?_
  refine call_inline Try.func56 rfl rfl ?_
  intro _
  repeat' (first | (refine is_asked ?_; (first | (refine asked (ints .u8 (((l.drop 0).take n).set 10 0)) ⟨setVals_set .u8 _ 10 0 (by omega), by rw [ints_length, hln]; show 11 ≤ _; omega⟩ ?_) | (refine asked (ints .u8 (zeroK (l.take n))) ⟨by rw [show l.take n = (l.drop 0).take n by simp]; exact setVals_set .u8 _ 11 0 (by rw [List.length_set]; omega), by rw [ints_length, List.length_set, hln]; show 12 ≤ _; omega⟩ ?_) | refine asked _ (slice_ask (by omega) (by omega) (by omega)) ?_ | refine asked () ⟨by omega, by omega⟩ ?_); intro u; clear u) | (refine is_call ?_; (first | refine call_auto (hc) (lets_rfl rfl) (by exact ⟨⟨_, rfl, rfl, rfl⟩, trivial⟩) rfl ?_ | refine call_inline Try.func47 rfl rfl ?_ | refine call_auto (hk) (lets_rfl rfl) (by exact ⟨⟨_, rfl, rfl, rfl⟩, trivial⟩) rfl ?_); intro u; clear u))
  all_goals (refine con_end ?_ rfl; intro u; clear u; refine ⟨rfl, rfl, EntGoal.mk ?_ ?_⟩ <;> (repeat' (first | exact trivial | (with_reducible rfl) | apply And.intro | rfl)))
theorem refipcheck_con {l : List Int} {n : Nat} (h : n ≤ l.length) (h2 : 12 ≤ n) (hl : l.length ≤ 100000) (hb : ∀ x ∈ l, 0 ≤ x ∧ x ≤ 255) : CallCon Try.prog 41 [.one (.sl 0 0 n)] [.row (ints .u8 l) 1 5 false] (.t (.one (.v (.int .i64 (65535 - sumW (zeroK (l.take n))))))) [] := by
  have hln : ((l.drop 0).take n).length = n := by simp; omega
  have hb2 : ∀ x ∈ l.take n, 0 ≤ x ∧ x ≤ 255 := fun x hx => hb x (List.mem_of_mem_take hx)
  have hk := refcheck_con (zeroK_bd hb2) (by rw [zeroK_len, List.length_take]; omega)
  have hl2 : (zeroK (l.take n)).length = n := by rw [zeroK_len, List.length_take]; omega
  rw [hl2] at hk
  replace hk : CallCon Try.prog 54 [.one (.sl 0 0 (0 + n))] [.row (ints .u8 (zeroK (l.take n))) 1 5 false] (.t (.one (.v (.int .u16 (65535 - sumW (zeroK (l.take n))))))) [] := by rw [Nat.zero_add]; exact hk
  have hs := sumW_bd (zeroK_bd hb2)
  refine con_of_call2 rfl ?_
  refine call_inline Try.func41 rfl rfl ?_
  intro _
  repeat' (first | (refine is_asked ?_; (first | (refine is_wrap ?_; refine asked _ (wrap_lohi (by simp only [lo, hi]; omega) (by simp only [lo, hi]; omega)) ?_) | (refine asked (ints .u8 ((l.drop 0).take n)) ⟨by rw [ints_view]; rfl, rfl, by rw [ints_view, ints_length, hln]; show _ = _ * 1; omega, by unfold maxLen; omega, by show _ * 1 ≤ _; omega⟩ ?_) | (refine asked (ints .u8 (((l.drop 0).take n).set 10 0)) ⟨setVals_set .u8 _ 10 0 (by omega), by rw [ints_length, hln]; show 11 ≤ _; omega⟩ ?_) | (refine asked (ints .u8 (zeroK (l.take n))) ⟨by rw [show l.take n = (l.drop 0).take n by simp]; exact setVals_set .u8 _ 11 0 (by rw [List.length_set]; omega), by rw [ints_length, List.length_set, hln]; show 12 ≤ _; omega⟩ ?_) | refine asked () ⟨by omega, by omega⟩ ?_); intro u; clear u) | (refine is_call ?_; refine call_auto (hk) (lets_rfl rfl) (by exact ⟨⟨_, rfl, rfl, rfl⟩, trivial⟩) rfl ?_; intro u; clear u))
  all_goals (refine con_end ?_ rfl; intro u; clear u; refine ⟨rfl, rfl, EntGoal.mk ?_ ?_⟩ <;> (repeat' (first | exact trivial | (with_reducible rfl) | apply And.intro | rfl)))
