/- Contracts of functions of the program, or a row of the seat, proved out of them. No condition beyond those that stand in each statement. -/
import Derived.Test.YtcnijhilkemplaaS07h7J
namespace Go.Proofs.S07.E7
open Go Go.SE
open Go.Proofs.S07.O6 (Opt optT okOpt putS putE takeO takeE zeroO)
open Go.Proofs.S07.I2 (Hd hdT okHd putL parseE parseS zeroHd)
set_option maxRecDepth 100000
set_option maxHeartbeats 4000000
attribute [local irreducible] specI okOpt putL parseE parseS takeE takeO putS




attribute [local irreducible] wrB okTake takeW takeD




def ndAt (k : Nat) : Nd := allNd.getD k zeroNd
def isK (n : Nd) (k : Nat) : Bool := (allNd.take k).any fun m => decide (m.kind = n.kind) && decide (m.id = n.id)
def hasK (a : Int) (k : Nat) : Bool := (allNd.take k).any fun m => decide (adr m = a)
theorem ten {k : Nat} (h : k < 10) : k = 0 ∨ k = 1 ∨ k = 2 ∨ k = 3 ∨ k = 4 ∨ k = 5 ∨ k = 6 ∨ k = 7 ∨ k = 8 ∨ k = 9 := by omega
theorem take_succ {k : Nat} (h : k < 10) : allNd.take (k + 1) = allNd.take k ++ [ndAt k] := by
  rcases ten h with rfl | rfl | rfl | rfl | rfl | rfl | rfl | rfl | rfl | rfl <;> rfl
theorem isK_succ (n : Nd) {k : Nat} (h : k < 10) : isK n (k + 1) = (isK n k || (decide ((ndAt k).kind = n.kind) && decide ((ndAt k).id = n.id))) := by
  unfold isK; rw [take_succ h, List.any_append]; simp
theorem hasK_succ (a : Int) {k : Nat} (h : k < 10) : hasK a (k + 1) = (hasK a k || decide (adr (ndAt k) = a)) := by
  unfold hasK; rw [take_succ h, List.any_append]; simp
theorem at_ok {k : Nat} (h : k < 10) : okNd (ndAt k) := by
  rcases ten h with rfl | rfl | rfl | rfl | rfl | rfl | rfl | rfl | rfl | rfl <;> decide
theorem isK_all (n : Nd) : isK n 10 = decide (okNd n) := by
  rw [Bool.eq_iff_iff]
  unfold isK
  rw [show allNd.take 10 = allNd from rfl]
  simp only [allNd, List.any_cons, List.any_nil, Bool.or_eq_true, Bool.and_eq_true, decide_eq_true_eq, Bool.false_eq_true, or_false]
  unfold okNd
  constructor <;> intro h <;> omega
theorem hasK_all (a : Int) : hasK a 10 = decide (okAd a) := by
  rw [Bool.eq_iff_iff]
  have e : ∀ n : Nd, okNd n → adr n = 167772160 + 256 * n.kind + n.id := fun n h => if_pos h
  unfold hasK
  rw [show allNd.take 10 = allNd from rfl]
  simp only [allNd, List.any_cons, List.any_nil, Bool.or_eq_true, decide_eq_true_eq, Bool.false_eq_true, or_false]
  rw [e ⟨1, 0⟩ (by decide), e ⟨1, 1⟩ (by decide), e ⟨1, 2⟩ (by decide), e ⟨2, 0⟩ (by decide), e ⟨2, 1⟩ (by decide), e ⟨2, 2⟩ (by decide), e ⟨2, 3⟩ (by decide), e ⟨2, 4⟩ (by decide), e ⟨2, 5⟩ (by decide), e ⟨3, 0⟩ (by decide)]
  unfold okAd
  simp only
  omega
theorem row_at {k : Nat} (h : k < 10) : List.take (Try.prog.cellsOf 23) (List.drop ((0 + Int.toNat (k : Int)) * 2) (ndsV allNd)) = ndV (ndAt k) ∧ (0 + Int.toNat (k : Int)) * 2 + Try.prog.cellsOf 23 ≤ (ndsV allNd).length := by
  have e : Try.prog.cellsOf 23 = 2 := by kernel_rfl
  rw [e]
  rcases ten h with rfl | rfl | rfl | rfl | rfl | rfl | rfl | rfl | rfl | rfl <;> exact ⟨rfl, by decide⟩
theorem kind_at {k : Nat} (h : k < 10) : (ndsV allNd)[(0 + Int.toNat (k : Int)) * 2 + 0]? = some (.int .u8 (ndAt k).kind) := by
  rcases ten h with rfl | rfl | rfl | rfl | rfl | rfl | rfl | rfl | rfl | rfl <;> rfl
theorem id_at {k : Nat} (h : k < 10) : (ndsV allNd)[(0 + Int.toNat (k : Int)) * 2 + 1]? = some (.int .i64 (ndAt k).id) := by
  rcases ten h with rfl | rfl | rfl | rfl | rfl | rfl | rfl | rfl | rfl | rfl <;> rfl
theorem isK_zero (n : Nd) : isK n 0 = false := rfl
theorem hasK_zero (a : Int) : hasK a 0 = false := rfl
attribute [local irreducible] isK hasK ndAt adr okAd ndOf

theorem nodes_law_con {n : Nd} {a : Int} (hn : n.Wf) (ha : 0 ≤ a ∧ a ≤ 4294967295) :
    CallCon Try.prog 6 [ndT n, .one (.v (.int .u32 a))] [] (.t (.one (.v (.bool true)))) [] := by
  refine con_of_call2 rfl ?_
  refine call_inline Try.func6 rfl rfl ?_
  intro _
  repeat' (refine is_call ?_; refine call_auto (nodes_con) (lets_rfl rfl) (by exact trivial) rfl ?_; intro u; clear u)
  refine loop_keep (fun k : Nat => 10 - k) (fun k => k ≤ 10) [1, 2, 5] (fun k => [(6, .t (.one (.b (isK n k)))), (7, .t (.one (.b (hasK a k)))), (8, .t (.one (.v (.int .i64 k))))]) (fun _ => []) (fun _ => []) [] 0 0 (by omega) ?_ ?_
  · (intro u; clear u; refine ⟨rfl, rfl, EntGoal.mk ?_ ?_⟩ <;> (repeat' (first | exact trivial | (with_reducible rfl) | apply And.intro | rfl)))
    · exact (isK_zero n).symm
    · exact (hasK_zero a).symm
  intro k hk u; clear u
  by_cases hc : k < 10
  · have hok := at_ok hc
    have A1 := addr_con (ndAt k)
    rw [decide_eq_true hok] at A1
    replace A1 := con_known2 A1
    have hbd := adr_bd (ndAt k)
    have N1 := node_con hbd
    rw [(ndOf_adr hok).2, decide_eq_true (ndOf_adr hok).1] at N1
    replace N1 := con_known2 N1
    have e : adr (ndAt k) = 167772160 + 256 * (ndAt k).kind + (ndAt k).id := by unfold adr; rw [if_pos hok]
    have hok' := hok
    unfold okNd at hok'
    have hr := row_at hc
    have hkd := kind_at hc
    have hid := id_at hc
    have hI := isK_succ n hc
    have hH := hasK_succ a hc
    generalize ndAt k = m at *
    generalize adr m = z at *
    repeat' (first | (refine is_split ?_; (first | refine sp_yes (by exact dec_t (by omega)) ?_ | refine sp_no (by exact ndec_f (by omega)) ?_ | (refine sp_no ?_ ?_; focus (first | (simp; done) | (simp; omega))) | refine Split.mk (fun g => ?_) (fun g => ?_)) <;> (intro u; clear u)) | (refine is_asked ?_; (first | (refine is_spec ?_; (first | (with_reducible refine asked _ (sp_add (by simp only [lo, hi]; omega) (by simp only [lo, hi]; omega)) ?_) | (refine is_op (op := .shr) ?_; (first | refine asked _ (sp_shrL 8 256 (by decide) (by rfl) (by decide)) ?_ | refine asked _ (sp_shrL 16 65536 (by decide) (by rfl) (by decide)) ?_ | refine asked _ (sp_shrL 24 16777216 (by decide) (by rfl) (by decide)) ?_)) | (with_reducible refine asked _ (sp_maskL 8 256 (by decide) (by decide) (by decide) (by simp only [lo, hi]; omega)) ?_))) | (refine is_wrap ?_; refine asked _ (wrap_lohi (by simp only [lo, hi]; omega) (by simp only [lo, hi]; omega)) ?_) | (refine asked (ndV m) hr ?_) | (refine asked _ hkd ?_) | (refine asked _ hid ?_) | refine asked () ⟨by omega, by omega⟩ ?_ | refine asked () (by show heldFree Try.prog _ _ = true; decide +kernel) ?_); intro u; clear u) | (refine is_draw ?_; refine draw_step mixed (by kernel_rfl) ?_; intro u; clear u) | (refine is_call ?_; (first | refine call_auto (A1) (lets_rfl rfl) (by exact trivial) rfl ?_ | refine call_auto (N1) (lets_rfl rfl) (by exact trivial) rfl ?_); intro u; clear u))
    all_goals (refine again (k + 1) (by omega) (by omega) ?_; (intro u; clear u; refine ⟨rfl, rfl, EntGoal.mk ?_ ?_⟩ <;> (repeat' (first | exact trivial | (with_reducible rfl) | apply And.intro | rfl))))
    all_goals first
      | (show true = isK n (k + 1); rw [hI, ‹isK n k = true›]; rfl)
      | (show (m.kind == n.kind && (m.id == n.id && true)) = isK n (k + 1); rw [hI, ‹isK n k = false›, Bool.and_true, Bool.false_or]; rfl)
      | (show true = hasK a (k + 1); rw [hH, ‹hasK a k = true›]; rfl)
      | (show decide (z = a) = hasK a (k + 1); rw [hH, ‹hasK a k = false›, Bool.false_or])
  · obtain rfl : k = 10 := by omega
    rw [isK_all, hasK_all]
    have A2 := addr_con n
    have N2 := node_con ha
    have e1 : okNd n ∨ adr n = 0 := by
      by_cases q : okNd n
      · exact .inl q
      · exact .inr (by unfold adr; rw [if_neg q])
    have e2 : okAd a ∨ (ndOf a).kind = 0 ∧ (ndOf a).id = 0 := by
      by_cases q : okAd a
      · exact .inl q
      · exact .inr (by unfold ndOf; rw [if_neg q]; exact ⟨rfl, rfl⟩)
    repeat' (first | (refine is_split ?_; (first | refine sp_yes (by rfl) ?_ | refine sp_no (by rfl) ?_ | (refine sp_yes ?_ ?_; focus (simp only [beq_self_eq_true, Bool.and_self, Bool.and_true, Bool.true_and, Bool.not_false, Bool.not_true]; done)) | refine sp_dec (fun g => ?_) (fun g => ?_) | refine Split.mk (fun g => ?_) (fun g => ?_)) <;> (intro u; clear u)) | (refine is_asked ?_; refine asked () (by show heldFree Try.prog _ _ = true; decide +kernel) ?_; intro u; clear u) | (refine is_call ?_; (first | refine call_auto (A2) (lets_rfl rfl) (by exact trivial) rfl ?_ | refine call_auto (N2) (lets_rfl rfl) (by exact trivial) rfl ?_ | refine call_auto (wakes_con) (lets_rfl rfl) (by exact trivial) rfl ?_); intro u; clear u))
    all_goals first
      | ((refine con_end ?_ rfl; intro u; clear u; refine ⟨rfl, rfl, EntGoal.mk ?_ ?_⟩ <;> (repeat' (first | exact trivial | (with_reducible rfl) | apply And.intro | rfl))); done)
      | (exfalso; simp at *; omega)
      | (exfalso; simp_all; done)
