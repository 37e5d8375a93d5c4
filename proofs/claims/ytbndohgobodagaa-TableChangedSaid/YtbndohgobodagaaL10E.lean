/- Contracts of functions of the program, or a row of the seat, proved out of them. No condition beyond those that stand in each statement. -/
import Derived.Test.YtbndohgobodagaaL10D
namespace Go.Proofs.L10
open Go Go.SE
set_option maxRecDepth 100000
set_option maxHeartbeats 4000000
attribute [local irreducible] specI

def mergeK (a b : Tab) : Nat → Tab
  | 0 => a
  | k + 1 => if (a.at k).gen < (b.at k).gen then (mergeK a b k).set k (b.at k) else mergeK a b k
theorem mergeK_len (a b : Tab) : ∀ k, (mergeK a b k).rows.length = a.rows.length
  | 0 => rfl
  | k + 1 => by
    unfold mergeK
    split
    · simp only [Tab.set, List.length_set]; exact mergeK_len a b k
    · exact mergeK_len a b k
theorem mergeK_ver (a b : Tab) : ∀ k, (mergeK a b k).ver = a.ver
  | 0 => rfl
  | k + 1 => by unfold mergeK; split <;> exact mergeK_ver a b k
theorem set_at_ne {t : Tab} {i j : Nat} {e : Ent} (h : i ≠ j) : (t.set i e).at j = t.at j := by
  unfold Tab.at Tab.set
  simp only
  rw [List.getD_eq_getElem?_getD, List.getElem?_set_ne h, ← List.getD_eq_getElem?_getD]
theorem set_at_eq {t : Tab} {i : Nat} {e : Ent} (h : i < t.rows.length) : (t.set i e).at i = e := by
  unfold Tab.at Tab.set
  simp only
  rw [List.getD_eq_getElem?_getD, List.getElem?_set_self h]; rfl
theorem mergeK_at (a b : Tab) : ∀ k j, k ≤ j → (mergeK a b k).at j = a.at j
  | 0, j, _ => rfl
  | k + 1, j, h => by
    unfold mergeK
    split
    · rw [set_at_ne (by omega)]; exact mergeK_at a b k j (by omega)
    · exact mergeK_at a b k j (by omega)
def mergeT (a b : Tab) : Tab := ⟨minMax true a.ver b.ver, (mergeK a b 16).rows⟩
theorem merge_con {a b : Tab} (ha : a.Wf) : CallCon Try.prog 11 [tabT a, tabT b] [] (.t (tabT (mergeT a b))) [] := by
  have hl := ha.len
  refine con_of_call2 rfl ?_
  refine call_inline Try.func11 rfl rfl ?_
  intro _
  repeat' (first | (refine is_range ?_; refine range_step rfl rfl ?_; intro u; clear u) | (refine is_call ?_; (first | refine call_inline Try.func23 rfl rfl ?_ | refine call_inline Try.func31 rfl rfl ?_); intro u; clear u))
  refine loop_ind (ι := Nat × Tab) (fun | (k, _) => 16 - k) (fun | (k, m) => k ≤ 16 ∧ m = mergeK a b k) (fun | (k, _) => [(8, .t (.one (.v (.int .i64 k))))]) (fun | (_, m) => [(0, .box (tabS m) 1 26)]) (fun _ => [(6, [])]) [] 0 (0, a) ⟨by omega, rfl⟩ ?_ ?_
  · (intro u; clear u; refine ⟨rfl, rfl, EntGoal.mk ?_ ?_⟩ <;> (repeat' (first | exact trivial | (with_reducible rfl) | apply And.intro | rfl)))
  rintro ⟨k, m⟩ ⟨hk, hm⟩ u
  clear u
  have hn := newer_con (b.at k) (m.at k)
  have hkl := mergeK_len a b k
  rw [hl, ← hm] at hkl
  have hat := mergeK_at a b k k (Nat.le_refl _)
  rw [← hm] at hat
  repeat' (first | (refine is_split ?_; refine sp_dec (fun g => ?_) (fun g => ?_) <;> (intro u; clear u)) | (refine is_asked ?_; (first | (refine is_spec ?_; (with_reducible refine asked _ (sp_add (by simp only [lo, hi]; omega) (by simp only [lo, hi]; omega)) ?_)) | (refine asked _ (rows_part b k rfl (by omega)) ?_) | (refine asked _ (tab_ask m (i := k) (by omega)) ?_) | (refine asked _ (tab_ask b (i := k) (by omega)) ?_) | (refine asked _ (tab_put hkl (i := k) (b.at k) (by omega)) ?_) | refine asked () (by constructor <;> omega) ?_); intro u; clear u) | (refine is_yield ?_; refine yield_step rfl rfl rfl rfl ?_; intro u; clear u) | (refine is_draw ?_; refine draw_step mixed (by kernel_rfl) ?_; intro u; clear u) | (refine is_call ?_; refine call_inline Try.func24 rfl rfl ?_; intro u; clear u) | (refine is_dcall ?_; refine dcall_auto (hn) (lets_rfl rfl) (by exact trivial) rfl ?_; intro u; clear u))
  · rename_i g
    refine again (k + 1, m.set k (b.at k)) ⟨by omega, by rw [hat] at g; show _ = if _ then _ else _; rw [if_pos g, hm]⟩ (by show 16 - (k + 1) < 16 - k; omega) ?_
    (intro u; clear u; refine ⟨rfl, rfl, EntGoal.mk ?_ ?_⟩ <;> (repeat' (first | exact trivial | (with_reducible rfl) | apply And.intro | rfl)))
  · rename_i g
    refine again (k + 1, m) ⟨by omega, by rw [hat] at g; show _ = if _ then _ else _; rw [if_neg g, hm]⟩ (by show 16 - (k + 1) < 16 - k; omega) ?_
    (intro u; clear u; refine ⟨rfl, rfl, EntGoal.mk ?_ ?_⟩ <;> (repeat' (first | exact trivial | (with_reducible rfl) | apply And.intro | rfl)))
  · obtain rfl : k = 16 := by omega
    have e : m.ver = a.ver := by rw [hm]; exact mergeK_ver a b 16
    rw [show mergeT a b = ⟨minMax true a.ver b.ver, m.rows⟩ by rw [hm]; rfl]
    clear hat hkl hn hm
    (refine con_end ?_ rfl; intro u; clear u; refine ⟨rfl, rfl, EntGoal.mk ?_ ?_⟩ <;> (repeat' (first | exact trivial | (with_reducible rfl) | apply And.intro | rfl)))
    show minMax true m.ver b.ver = minMax true a.ver b.ver
    rw [e]
