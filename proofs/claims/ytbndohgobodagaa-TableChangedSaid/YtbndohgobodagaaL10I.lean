/- Contracts of functions of the program, or a row of the seat, proved out of them. No condition beyond those that stand in each statement. -/
import Derived.Test.YtbndohgobodagaaL10H
namespace Go.Proofs.L10
open Go Go.SE
set_option maxRecDepth 100000
set_option maxHeartbeats 4000000
attribute [local irreducible] specI

theorem take_eq {l r : List Int} {k : Nat} (h : l.take k = r.take k) (h1 : k < l.length) (h2 : k < r.length) (e : l.getD k 0 = r.getD k 0) : l.take (k + 1) = r.take (k + 1) := by
  rw [List.take_succ_eq_append_getElem h1, List.take_succ_eq_append_getElem h2, h]
  simp only [List.getD_eq_getElem?_getD, List.getElem?_eq_getElem h1, List.getElem?_eq_getElem h2, Option.getD_some] at e
  rw [e]
theorem ints_con {l r : List Int} (hl : l.length ≤ 1000000) (hr : r.length ≤ 1000000) : CallCon Try.prog 18 [.one (.sl 0 0 l.length), .one (.sl 1 0 r.length)] [.row (ints .i64 l) 1 3 false, .row (ints .i64 r) 1 3 false] (.t (.one (.b (l = r)))) [] := by
  by_cases hlen : l.length = r.length
  rotate_left
  · rw [decide_eq_false (fun h => hlen (by rw [h]))]
    refine con_of_call2 rfl ?_
    refine call_inline Try.func18 rfl rfl ?_
    intro _
    repeat' (refine is_split ?_; refine sp_yes (by exact ndec_t (by omega)) ?_ <;> (intro u; clear u))
    all_goals (refine con_end ?_ rfl; intro u; clear u; refine ⟨rfl, rfl, EntGoal.mk ?_ ?_⟩ <;> (repeat' (first | exact trivial | (with_reducible rfl) | apply And.intro | rfl)))
  refine con_of_call2 rfl ?_
  refine call_inline Try.func18 rfl rfl ?_
  intro _
  repeat' (refine is_split ?_; refine sp_no (by exact ndec_f (by omega)) ?_ <;> (intro u; clear u))
  refine loop_ind (fun k : Nat => l.length - k) (fun k => k ≤ l.length ∧ l.take k = r.take k) (fun k => [(5, .t (.one (.v (.int .i64 k))))]) (fun _ => []) (fun _ => []) [] 0 0 ⟨by omega, rfl⟩ ?_ ?_
  · (intro u; clear u; refine ⟨rfl, rfl, EntGoal.mk ?_ ?_⟩ <;> (repeat' (first | exact trivial | (with_reducible rfl) | apply And.intro | rfl)))
  intro k hk u
  clear u
  repeat' (first | (refine is_split ?_; (first | refine sp_dec (fun g => ?_) (fun g => ?_) | refine sp_ndec (fun g => ?_) (fun g => ?_)) <;> (intro u; clear u)) | (refine is_asked ?_; (first | (refine is_spec ?_; (with_reducible refine asked _ (sp_add (by simp only [lo, hi]; omega) (by simp only [lo, hi]; omega)) ?_)) | (refine asked _ (ix_eq (l := l) k (by show (0 + Int.toNat (k : Int)) * 1 = _; omega) (by omega)) ?_) | (refine asked _ (ix_eq (l := r) k (by show (0 + Int.toNat (k : Int)) * 1 = _; omega) (by omega)) ?_) | refine asked () (by constructor <;> omega) ?_); intro u; clear u) | (refine is_draw ?_; refine draw_step mixed (by kernel_rfl) ?_; intro u; clear u))
  · rename_i g
    rw [decide_eq_false (fun h => g (by rw [h]))]
    (refine con_end ?_ rfl; intro u; clear u; refine ⟨rfl, rfl, EntGoal.mk ?_ ?_⟩ <;> (repeat' (first | exact trivial | (with_reducible rfl) | apply And.intro | rfl)))
  · refine again (k + 1) ⟨by omega, take_eq hk.2 (by omega) (by omega) (by assumption)⟩ (by omega) ?_
    (intro u; clear u; refine ⟨rfl, rfl, EntGoal.mk ?_ ?_⟩ <;> (repeat' (first | exact trivial | (with_reducible rfl) | apply And.intro | rfl)))
  · rw [decide_eq_true (show l = r by
      have h2 := hk.2
      rwa [List.take_of_length_le (by omega), List.take_of_length_le (by omega)] at h2)]
    (refine con_end ?_ rfl; intro u; clear u; refine ⟨rfl, rfl, EntGoal.mk ?_ ?_⟩ <;> (repeat' (first | exact trivial | (with_reducible rfl) | apply And.intro | rfl)))

def oneE : Ent := ⟨1, -1, 1, 0⟩
def oneTab : Tab := ⟨1, (List.replicate 16 noneE).set 3 oneE⟩
theorem wf_of {t : Tab} (h1 : isI t.ver) (h2 : t.rows.length = 16) (h3 : ∀ e ∈ t.rows, e.cur = -1 ∧ e.prev = -1 ∧ e.gen = 0 ∧ e.tick = 0 ∨ e.cur = 1 ∧ e.prev = -1 ∧ e.gen = 1 ∧ e.tick = 0 ∨ e.cur = 0 ∧ e.prev = 0 ∧ e.gen = 0 ∧ e.tick = 0) : t.Wf :=
  ⟨h1, h2, fun e he => by rcases h3 e he with h | h | h <;> exact ⟨by unfold isI; omega, by unfold isI; omega, by unfold isI; omega, by unfold isI; omega⟩⟩
theorem new_wf : newTab.Wf := wf_of (by unfold isI; decide) rfl (by decide)
theorem one_wf : oneTab.Wf := wf_of (by unfold isI; decide) rfl (by decide)
theorem w1 : setT newTab 3 oneE = oneTab ∧ setE newTab 3 oneE = 0 := by decide +kernel
theorem w2 : setT oneTab 3 ⟨2, -1, 1, 0⟩ = zeroTab ∧ setE oneTab 3 ⟨2, -1, 1, 0⟩ = 2 := by decide +kernel
theorem w3 : setT oneTab 16 ⟨2, -1, 9, 0⟩ = zeroTab ∧ setE oneTab 16 ⟨2, -1, 9, 0⟩ = 2 := by decide +kernel
theorem w4 : rowE oneTab 3 = oneE ∧ rowE oneTab (-1) = zeroE := by decide +kernel
theorem w5 : okTab newTab := by decide +kernel
theorem w6 : loadsT oneTab = [0, 1, 0, 0, 0, 0] := by decide +kernel
theorem w7 : spreadN oneTab 3 = 1 ∧ spreadN oneTab 2 = 0 ∧ spreadN oneTab 0 = 0 := by decide +kernel
theorem w8 : ofL oneTab 1 = [3] ∧ changedL newTab oneTab = [3] := by decide +kernel
theorem w9 : mergeT newTab oneTab = oneTab ∧ mergeT oneTab newTab = oneTab := by decide +kernel
theorem w10 : ¬ okTab ⟨-1, List.replicate 16 zeroE⟩ := by decide +kernel

theorem wakes_con : CallCon Try.prog 10 [] [] (.t (.one (.v (.bool true)))) [] := by
  have h1 := set_con new_wf 3 oneE
  rw [w1.1, w1.2] at h1
  have h2 := set_con one_wf 3 ⟨2, -1, 1, 0⟩
  rw [w2.1, w2.2] at h2
  have h3 := set_con one_wf 16 ⟨2, -1, 9, 0⟩
  rw [w3.1, w3.2] at h3
  have h4 := row_con oneTab 3
  rw [w4.1, show decide ((0 : Int) ≤ 3 ∧ (3 : Int) < 16) = true by decide] at h4
  have h5 := row_con oneTab (-1)
  rw [w4.2, show decide ((0 : Int) ≤ -1 ∧ (-1 : Int) < 16) = false by decide] at h5
  have h6 := con_yes (tabright_con newTab) w5
  have h7 := loads_con oneTab
  rw [w6] at h7
  have h8 := spread_con oneTab (b := 3) (by decide)
  rw [w7.1] at h8
  have h9 := spread_con oneTab (b := 2) (by decide)
  rw [w7.2.1] at h9
  have h10 := spread_con oneTab (b := 0) (by decide)
  rw [w7.2.2] at h10
  have h11 := of_con oneTab 1
  rw [w8.1] at h11
  have h12 := changed_con newTab oneTab
  rw [w8.2] at h12
  have h13 := con_yes (ints_con (l := [3]) (r := [3]) (by decide) (by decide)) rfl
  have h14 := merge_con (b := oneTab) new_wf
  rw [w9.1] at h14
  have h15 := merge_con (b := newTab) one_wf
  rw [w9.2] at h15
  have h16 := con_no (tabright_con ⟨-1, List.replicate 16 zeroE⟩) w10
  refine con_of_call2 rfl ?_
  refine call_inline Try.func10 rfl rfl ?_
  intro _
  repeat' (first | (refine is_split ?_; (first | refine sp_yes (by rfl) ?_ | refine sp_no (by rfl) ?_) <;> (intro u; clear u)) | (refine is_asked ?_; refine asked () (by show heldFree Try.prog _ _ = true; decide +kernel) ?_; intro u; clear u) | (refine is_draw ?_; refine draw_step mixed (by kernel_rfl) ?_; intro u; clear u) | (refine is_call ?_; (first | refine call_auto (new_con) (lets_rfl rfl) (by exact trivial) rfl ?_ | refine call_le (by (repeat' (first | exact trivial | apply And.intro | exact rfl)); (first | done | fail)) (h1) (by exact trivial) rfl ?_ | refine call_le (by (repeat' (first | exact trivial | apply And.intro | exact rfl)); (first | done | fail)) (h2) (by exact trivial) rfl ?_ | refine call_le (by (repeat' (first | exact trivial | apply And.intro | exact rfl)); (first | done | fail)) (h3) (by exact trivial) rfl ?_ | refine call_le (by (repeat' (first | exact trivial | apply And.intro | exact rfl)); (first | done | fail)) (h4) (by exact trivial) rfl ?_ | refine call_le (by (repeat' (first | exact trivial | apply And.intro | exact rfl)); (first | done | fail)) (h5) (by exact trivial) rfl ?_); intro u; clear u) | (refine is_dcall ?_; (first | refine dcall_auto (h6) (lets_rfl rfl) (by exact trivial) rfl ?_ | refine dcall_auto (h7) (lets_rfl rfl) (by exact trivial) rfl ?_ | refine dcall_le (by (repeat' (first | exact trivial | apply And.intro | exact rfl)); (first | done | fail)) (h8) (by exact trivial) rfl ?_ | refine dcall_le (by (repeat' (first | exact trivial | apply And.intro | exact rfl)); (first | done | fail)) (h9) (by exact trivial) rfl ?_ | refine dcall_le (by (repeat' (first | exact trivial | apply And.intro | exact rfl)); (first | done | fail)) (h10) (by exact trivial) rfl ?_ | refine dcall_le (by (repeat' (first | exact trivial | apply And.intro | exact rfl)); (first | done | fail)) (h11) (by exact trivial) rfl ?_ | refine dcall_auto (h12) (lets_rfl rfl) (by exact trivial) rfl ?_ | refine dcall_auto (h13) (lets_rfl rfl) (by exact ⟨⟨_, rfl, rfl, rfl⟩, ⟨_, rfl, rfl, rfl⟩, trivial⟩) rfl ?_ | refine dcall_auto (h14) (lets_rfl rfl) (by exact trivial) rfl ?_ | refine dcall_auto (h15) (lets_rfl rfl) (by exact trivial) rfl ?_ | refine dcall_le (by (repeat' (first | exact trivial | apply And.intro | exact rfl)); (first | done | fail)) (h16) (by exact trivial) rfl ?_); intro u; clear u))
  (refine con_end ?_ rfl; intro u; clear u; refine ⟨rfl, rfl, EntGoal.mk ?_ ?_⟩ <;> (repeat' (first | exact trivial | (with_reducible rfl) | apply And.intro | rfl)))
