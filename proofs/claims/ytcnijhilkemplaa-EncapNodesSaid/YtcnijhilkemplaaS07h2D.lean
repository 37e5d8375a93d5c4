/- Contracts of functions of the program, or a row of the seat, proved out of them. No condition beyond those that stand in each statement. -/
import Derived.Test.YtcnijhilkemplaaS07h2C
namespace Go.Proofs.S07.I2
open Go Go.SE
set_option maxRecDepth 100000
set_option maxHeartbeats 4000000
attribute [local irreducible] specI

def sumW (l : List Int) : Int := fold (total (words l))
theorem sumW_bd {l : List Int} (hb : ∀ x ∈ l, 0 ≤ x ∧ x ≤ 255) : 0 ≤ sumW l ∧ sumW l ≤ 65535 :=
  fold_bd (total_bd (words_bd hb).1)

theorem refsum_con {l : List Int} (hb : ∀ x ∈ l, 0 ≤ x ∧ x ≤ 255) (hl : l.length ≤ 1000000) : CallCon Try.prog 64 [.one (.sl 0 0 l.length)] [.row (ints .u8 l) 1 5 false] (.t (.one (.v (.int .u16 (sumW l))))) [] := by
  refine con_of_call2 rfl ?_
  refine call_inline Try.func64 rfl rfl ?_
  intro _
  repeat' (refine is_call ?_; (first | refine call_auto (words_con hb hl) (lets_rfl rfl) (by exact ⟨⟨_, rfl, rfl, rfl⟩, trivial⟩) rfl ?_ | refine call_auto (fold_con (words_bd hb).1 (Nat.le_trans (words_len_le l) hl)) (lets_rfl rfl) (by exact ⟨⟨_, rfl, rfl, rfl⟩, trivial⟩) rfl ?_); intro u; clear u)
  all_goals (refine con_end ?_ rfl; intro u; clear u; refine ⟨rfl, rfl, EntGoal.mk ?_ ?_⟩ <;> (repeat' (first | exact trivial | (with_reducible rfl) | apply And.intro | rfl)))
theorem refcheck_con {l : List Int} (hb : ∀ x ∈ l, 0 ≤ x ∧ x ≤ 255) (hl : l.length ≤ 1000000) : CallCon Try.prog 54 [.one (.sl 0 0 l.length)] [.row (ints .u8 l) 1 5 false] (.t (.one (.v (.int .u16 (65535 - sumW l))))) [] := by
  have hs := sumW_bd hb
  refine con_of_call2 rfl ?_
  refine call_inline Try.func54 rfl rfl ?_
  intro _
  repeat' (first | (refine is_asked ?_; (refine is_spec ?_; (with_reducible refine asked _ (sp_sub (by simp only [lo, hi]; omega) (by simp only [lo, hi]; omega)) ?_)); intro u; clear u) | (refine is_call ?_; refine call_auto (refsum_con hb hl) (lets_rfl rfl) (by exact ⟨⟨_, rfl, rfl, rfl⟩, trivial⟩) rfl ?_; intro u; clear u))
  all_goals (refine con_end ?_ rfl; intro u; clear u; refine ⟨rfl, rfl, EntGoal.mk ?_ ?_⟩ <;> (repeat' (first | exact trivial | (with_reducible rfl) | apply And.intro | rfl)))
theorem xor_all {x : Int} (h0 : 0 ≤ x) (h1 : x ≤ 65535) : ((BitVec.ofInt IntKind.u16.bits (if IntKind.u16.signed = true then -1 else IntKind.u16.max) ^^^ BitVec.ofInt IntKind.u16.bits x).toNat : Int) % 65536 = 65535 - x := by
  have e : (BitVec.ofInt IntKind.u16.bits (if IntKind.u16.signed = true then -1 else IntKind.u16.max)) = BitVec.allOnes 16 := by rfl
  rw [e]
  have e2 : (BitVec.allOnes 16 ^^^ BitVec.ofInt 16 x) = ~~~ (BitVec.ofInt 16 x) := by
    rw [BitVec.allOnes_xor]
  show (((BitVec.allOnes 16 ^^^ BitVec.ofInt 16 x)).toNat : Int) % 65536 = _
  rw [e2, BitVec.toNat_not, BitVec.toNat_ofInt]
  omega
theorem check_con {l : List Int} (hb : ∀ x ∈ l, 0 ≤ x ∧ x ≤ 255) (hl : l.length ≤ 1000000) : CallCon Try.prog 48 [.one (.sl 0 0 l.length)] [.row (ints .u8 l) 1 5 false] (.t (.one (.v (.int .u16 (65535 - sumW l))))) [] := by
  have hs := sumW_bd hb
  have hc : CallCon Try.prog 63 [.one (.sl 0 0 l.length)] [.row (ints .u8 l) 1 5 false] (.t (.one (.v (.int .u16 (sumW l))))) [] := sum_con hb hl
  refine con_of_call2 rfl ?_
  refine call_inline Try.func48 rfl rfl ?_
  intro _
  repeat' (first | (refine is_asked ?_; (refine is_wrap ?_; refine asked _ (wrap_u16' _) ?_); intro u; clear u) | (refine is_call ?_; refine call_auto (hc) (lets_rfl rfl) (by exact ⟨⟨_, rfl, rfl, rfl⟩, trivial⟩) rfl ?_; intro u; clear u))
  all_goals (refine con_end ?_ rfl; intro u; clear u; refine ⟨rfl, rfl, EntGoal.mk ?_ ?_⟩ <;> (repeat' (first | exact trivial | (with_reducible rfl) | apply And.intro | rfl)))
  all_goals exact xor_all hs.1 hs.2
