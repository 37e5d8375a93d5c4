/- Contracts of functions of the program, or a row of the seat, proved out of them. No condition beyond those that stand in each statement. -/
import Derived.Test.YtlefpinmgabmfaaGreatSeD
import Derived.Test.YtlefpinmgabmfaaGreatS14mC
namespace Go.Proofs.S14.M4
open Go Go.SE
set_option maxRecDepth 100000
set_option maxHeartbeats 8000000
attribute [local irreducible] specI

/-- A slice that came in, as a value. -/
inductive Rw where
  | nil
  | at (a : Addr) (n cap : Nat)
def rwV : Rw → Value
  | .nil => .slice none 0 0
  | .at a n cap => .slice (some a) n cap
def rwLen : Rw → Nat
  | .nil => 0
  | .at _ n _ => n
def rwsV (l : List Rw) : List Value := l.map rwV
def rwAt (l : List Rw) (i : Nat) : Rw := l.getD i .nil
theorem rw_ask {l : List Rw} {r : Rw} (k : Nat) {p : Nat} (hp : p = k) (hk : k < l.length) (hr : rwAt l k = r) : (rwsV l)[p]? = some (rwV r) := by
  subst hp hr
  unfold rwsV rwAt
  rw [List.getElem?_map, List.getD_eq_getElem?_getD, List.getElem?_eq_getElem hk]
  rfl
def gr (l : List Rw) : Bool := (l.take 21).any (fun r => decide (200 < rwLen r)) || decide ((20 : Int) < (l.length : Int))
theorem gr_yes {l : List Rw} {k : Nat} (hk : k < l.length) (h20 : k ≤ 20) (h : 200 < rwLen (rwAt l k)) : gr l = true := by
  unfold gr
  rw [Bool.or_eq_true]
  left
  refine List.any_eq_true.2 ⟨rwAt l k, ?_, by simpa using h⟩
  unfold rwAt
  rw [List.getD_eq_getElem?_getD, List.getElem?_eq_getElem hk]
  refine List.mem_iff_getElem?.2 ⟨k, ?_⟩
  rw [List.getElem?_take, if_pos (by omega), List.getElem?_eq_getElem hk]
  rfl
theorem gr_end {l : List Rw} {k : Nat} (h : ∀ i, i < k → rwLen (rwAt l i) ≤ 200) (hk : k = l.length ∨ 21 ≤ k) : gr l = decide ((20 : Int) < (l.length : Int)) := by
  unfold gr
  have e : (l.take 21).any (fun r => decide (200 < rwLen r)) = false := by
    rw [← Bool.not_eq_true]
    intro h1
    obtain ⟨r, h2, h3⟩ := List.any_eq_true.1 h1
    obtain ⟨i, h4⟩ := List.mem_iff_getElem?.1 h2
    rw [List.getElem?_take] at h4
    split at h4
    · have h5 := (List.getElem?_eq_some_iff.1 h4).1
      have h6 : rwAt l i = r := by unfold rwAt; rw [List.getD_eq_getElem?_getD, h4]; rfl
      have h7 := h i (by omega)
      rw [h6] at h7
      simp at h3
      omega
    · cases h4
  rw [e, Bool.false_or]
theorem gr_len {l : List Rw} (h : gr l = false) : l.length ≤ 20 := by
  unfold gr at h
  rw [Bool.or_eq_false_iff] at h
  have h2 := of_decide_eq_false h.2
  omega

theorem great_con (l : List Rw) : CallCon Tryz.prog 14 [.one (.sl 0 0 l.length)] [.row (rwsV l) 1 29 false] (.t (.one (.b (gr l)))) [] := by
  refine con_of_call2 rfl ?_
  refine call_inline Tryz.func14 rfl rfl ?_
  intro _
  repeat' fail
  refine loop_keep (fun k : Nat => 22 - k) (fun k => (k ≤ 21 ∧ k ≤ l.length) ∧ ∀ i, i < k → rwLen (rwAt l i) ≤ 200) [0] (fun k => [(3, .t (.one (.v (.int .i64 k))))]) (fun _ => []) (fun _ => []) [] 0 0 ⟨⟨by omega, by omega⟩, by intro i hi; omega⟩ ?_ ?_
  · (intro u; clear u; refine ⟨rfl, rfl, EntGoal.mk ?_ ?_⟩ <;> (repeat' (first | exact trivial | (with_reducible rfl) | apply And.intro | rfl)))
  intro k hk u
  clear u
  obtain ⟨⟨hk1, hk2⟩, hk3⟩ := hk
  by_cases hc : k < l.length ∧ k ≤ 20
  · obtain ⟨r, hr⟩ : ∃ r, rwAt l k = r := ⟨_, rfl⟩
    by_cases h200 : rwLen r ≤ 200
    · have hn : ∀ i, i < k + 1 → rwLen (rwAt l i) ≤ 200 := by
        intro i hi2
        by_cases e : i = k
        · subst e; rw [hr]; exact h200
        · exact hk3 i (by omega)
      cases r with
      | nil =>
        repeat' (first | (refine is_split ?_; refine sp_yes (by exact dec_t (by omega)) ?_ <;> (intro u; clear u)) | (refine is_asked ?_; (first | (refine is_spec ?_; (with_reducible refine asked _ (sp_add (by simp only [lo, hi]; omega) (by simp only [lo, hi]; omega)) ?_)) | (refine asked (.slice none 0 0) (rw_ask k (by show (0 + Int.toNat (k : Int)) * 1 = k; omega) hc.1 hr) ?_) | refine asked () ⟨by omega, by omega⟩ ?_); intro u; clear u))
        refine again (k + 1) ⟨⟨by omega, by omega⟩, hn⟩ (by omega) ?_
        (intro u; clear u; refine ⟨rfl, rfl, EntGoal.mk ?_ ?_⟩ <;> (repeat' (first | exact trivial | (with_reducible rfl) | apply And.intro | rfl)))
      | «at» a n cap =>
        change n ≤ 200 at h200
        repeat' (first | (refine is_split ?_; (first | refine sp_yes (by exact dec_t (by omega)) ?_ | refine sp_no (by exact dec_f (by omega)) ?_) <;> (intro u; clear u)) | (refine is_asked ?_; (first | (refine is_spec ?_; (with_reducible refine asked _ (sp_add (by simp only [lo, hi]; omega) (by simp only [lo, hi]; omega)) ?_)) | (refine asked (.slice (some a) n cap) (rw_ask k (by show (0 + Int.toNat (k : Int)) * 1 = k; omega) hc.1 hr) ?_) | refine asked () ⟨by omega, by omega⟩ ?_); intro u; clear u))
        refine again (k + 1) ⟨⟨by omega, by omega⟩, hn⟩ (by omega) ?_
        (intro u; clear u; refine ⟨rfl, rfl, EntGoal.mk ?_ ?_⟩ <;> (repeat' (first | exact trivial | (with_reducible rfl) | apply And.intro | rfl)))
    · have hg := gr_yes hc.1 hc.2 (by rw [hr]; omega)
      rw [hg]
      cases r with
      | nil => exact absurd (show (0 : Nat) ≤ 200 by omega) h200
      | «at» a n cap =>
        change ¬ n ≤ 200 at h200
        repeat' (first | (refine is_split ?_; refine sp_yes (by exact dec_t (by omega)) ?_ <;> (intro u; clear u)) | (refine is_asked ?_; (first | (refine asked (.slice (some a) n cap) (rw_ask k (by show (0 + Int.toNat (k : Int)) * 1 = k; omega) hc.1 hr) ?_) | refine asked () ⟨by omega, by omega⟩ ?_); intro u; clear u))
        (refine con_end ?_ rfl; intro u; clear u; refine ⟨rfl, rfl, EntGoal.mk ?_ ?_⟩ <;> (repeat' (first | exact trivial | (with_reducible rfl) | apply And.intro | rfl)))
  · rw [gr_end hk3 (by omega)]
    repeat' (refine is_split ?_; (first | refine sp_no (by exact dec_f (by omega)) ?_ | refine sp_dec (fun g => ?_) (fun g => ?_)) <;> (intro u; clear u))
    all_goals first
      | (exfalso; omega)
      | ((refine con_end ?_ rfl; intro u; clear u; refine ⟨rfl, rfl, EntGoal.mk ?_ ?_⟩ <;> (repeat' (first | exact trivial | (with_reducible rfl) | apply And.intro | rfl))); done)
      | ((refine con_end ?_ rfl; intro u; clear u; refine ⟨rfl, rfl, EntGoal.mk ?_ ?_⟩ <;> (repeat' (first | exact trivial | (with_reducible rfl) | apply And.intro | rfl))); all_goals (simp; done))

theorem zeros_at : ∀ (n : Nat) {p i : Nat}, p = i → i < n → (zerosV [Value.slice none 0 0] n)[p]? = some (.slice none 0 0)
  | 0, p, i, h, hi => by omega
  | n + 1, p, 0, h, hi => by subst h; rfl
  | n + 1, p, i + 1, h, hi => by
    subst h
    exact zeros_at n rfl (by omega)

theorem mnil_con {b : List Int} {l : List Rw} : CallCon Tryz.prog 7 [.one (.sl 0 0 b.length), .one (.sl 1 0 l.length)] [.row (ints .u8 b) 1 5 false, .row (rwsV l) 1 29 false] (.t (.one (.v (.bool true)))) [] := by
  have hW := wakes_con
  have hG := great_con l
  by_cases hb : b.length ≤ 200
  rotate_left
  · refine con_of_call2 rfl ?_
    refine call_inline Tryz.func7 rfl rfl ?_
    intro _
    repeat' (first | (refine is_split ?_; refine sp_yes (by exact dec_t (by omega)) ?_ <;> (intro u; clear u)) | (refine is_call ?_; refine call_auto (hW) (lets_rfl rfl) (by exact trivial) rfl ?_; intro u; clear u))
    all_goals first
      | ((refine con_end ?_ rfl; intro u; clear u; refine ⟨rfl, rfl, EntGoal.mk ?_ ?_⟩ <;> (repeat' (first | exact trivial | (with_reducible rfl) | apply And.intro | rfl))); done)
      | (exfalso; omega)
  cases hg : gr l with
  | true =>
    rw [hg] at hG
    replace hG := con_known hG
    refine con_of_call2 rfl ?_
    refine call_inline Tryz.func7 rfl rfl ?_
    intro _
    repeat' (first | (refine is_split ?_; refine sp_no (by exact dec_f (by omega)) ?_ <;> (intro u; clear u)) | (refine is_call ?_; (first | refine call_auto (hW) (lets_rfl rfl) (by exact trivial) rfl ?_ | refine call_auto (hG) (lets_rfl rfl) (by exact ⟨⟨_, rfl, rfl, rfl⟩, trivial⟩) rfl ?_); intro u; clear u))
    all_goals first
      | ((refine con_end ?_ rfl; intro u; clear u; refine ⟨rfl, rfl, EntGoal.mk ?_ ?_⟩ <;> (repeat' (first | exact trivial | (with_reducible rfl) | apply And.intro | rfl))); done)
      | (exfalso; omega)
  | false =>
    have hl := gr_len hg
    rw [hg] at hG
    replace hG := con_known hG
    refine con_of_call2 rfl ?_
    refine call_inline Tryz.func7 rfl rfl ?_
    intro _
    repeat' (first | (refine is_split ?_; refine sp_no (by exact dec_f (by omega)) ?_ <;> (intro u; clear u)) | (refine is_asked ?_; (refine asked (l.length, l.length, zerosV [.slice none 0 0] l.length) ⟨rfl, rfl, Nat.le_refl _, by show l.length * 24 ≤ _; omega, by show l.length ≤ maxLen; unfold maxLen; omega, rfl⟩ ?_); intro u; clear u) | (refine is_call ?_; (first | refine call_auto (hG) (lets_rfl rfl) (by exact ⟨⟨_, rfl, rfl, rfl⟩, trivial⟩) rfl ?_ | refine call_inline Tryz.func17 rfl rfl ?_ | refine call_inline Tryz.func25 rfl rfl ?_ | refine call_inline Tryz.func23 rfl rfl ?_); intro u; clear u))
    refine loop_keep (fun k : Nat => l.length - k) (fun k => k ≤ l.length) [1, 5, 6, 7, 8, 9, 10, 11] (fun k => [(12, .t (.one (.v (.int .i64 k))))]) (fun _ => []) (fun _ => []) [] 0 0 (Nat.zero_le _) ?_ ?_
    · (intro u; clear u; refine ⟨rfl, rfl, EntGoal.mk ?_ ?_⟩ <;> (repeat' (first | exact trivial | (with_reducible rfl) | apply And.intro | rfl)))
    intro k hk u
    clear u
    by_cases hc : k < l.length
    · repeat' (first | (refine is_split ?_; refine sp_yes (by exact dec_t (by omega)) ?_ <;> (intro u; clear u)) | (refine is_asked ?_; (first | (refine is_spec ?_; (with_reducible refine asked _ (sp_add (by simp only [lo, hi]; omega) (by simp only [lo, hi]; omega)) ?_)) | (refine asked (.slice none 0 0) (zeros_at l.length (i := k) (by show (0 + Int.toNat (k : Int)) * 1 = k; omega) hc) ?_) | refine asked () ⟨by omega, by omega⟩ ?_); intro u; clear u))
      refine again (k + 1) (by omega) (by omega) ?_
      (intro u; clear u; refine ⟨rfl, rfl, EntGoal.mk ?_ ?_⟩ <;> (repeat' (first | exact trivial | (with_reducible rfl) | apply And.intro | rfl)))
    obtain rfl : k = l.length := by omega
    repeat' (first | (refine is_split ?_; (first | refine sp_yes (by exact dec_t (by omega)) ?_ | refine sp_no (by exact dec_f (by omega)) ?_) <;> (intro u; clear u)) | (refine is_asked ?_; refine asked () (by show heldFree Tryz.prog _ _ = true; decide +kernel) ?_; intro u; clear u) | (refine is_call ?_; (first | refine call_auto (hW) (lets_rfl rfl) (by exact trivial) rfl ?_ | refine call_inline Tryz.func19 rfl rfl ?_ | refine call_inline Tryz.func24 rfl rfl ?_); intro u; clear u))
    all_goals first
      | ((refine con_end ?_ rfl; intro u; clear u; refine ⟨rfl, rfl, EntGoal.mk ?_ ?_⟩ <;> (repeat' (first | exact trivial | (with_reducible rfl) | apply And.intro | rfl))); done)
      | (exfalso; omega)
      | (exfalso; simp at *; omega)
end Go.Proofs.S14.M4
