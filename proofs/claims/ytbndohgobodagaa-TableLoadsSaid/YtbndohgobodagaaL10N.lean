/- Contracts of functions of the program, or a row of the seat, proved out of them. No condition beyond those that stand in each statement. -/
import Derived.Test.YtbndohgobodagaaL10M
namespace Go.Proofs.L10
open Go Go.SE
set_option maxRecDepth 100000
set_option maxHeartbeats 4000000
attribute [local irreducible] specI

theorem sum_bd {l : List Int} (h : ∀ j, 0 ≤ l.getD j 0 ∧ l.getD j 0 ≤ 16) : ∀ i : Nat, 0 ≤ sumK l i ∧ sumK l i ≤ 16 * i
  | 0 => ⟨Int.le_refl _, Int.le_refl _⟩
  | i + 1 => by
    have ih := sum_bd h i
    have := h i
    show 0 ≤ sumK l i + l.getD i 0 ∧ sumK l i + l.getD i 0 ≤ 16 * ((i + 1 : Nat) : Int)
    omega
theorem owned_bd (t : Tab) : ∀ k : Nat, 0 ≤ ownedK t k ∧ ownedK t k ≤ k
  | 0 => ⟨Int.le_refl _, Int.le_refl _⟩
  | k + 1 => by
    have ih := owned_bd t k
    show 0 ≤ (if 0 ≤ (t.at k).cur then ownedK t k + 1 else ownedK t k) ∧ (if 0 ≤ (t.at k).cur then ownedK t k + 1 else ownedK t k) ≤ ((k + 1 : Nat) : Int)
    split <;> omega
theorem inner_bd {l : List Int} (h : ∀ j, 0 ≤ l.getD j 0 ∧ l.getD j 0 ≤ 16) (b : Int) (i : Nat) {m : Int} (hm : 0 ≤ m ∧ m ≤ 16) (n : Nat) : 0 ≤ innerK l b i m n ∧ innerK l b i m n ≤ 16 := by
  have ho := inner_ok l b i m n
  have h1 := ho.ge
  rcases ho.one with e | ⟨k, _, _, _, e⟩
  · omega
  · have := h i; have := h k; omega
theorem most_bd {l : List Int} (h : ∀ j, 0 ≤ l.getD j 0 ∧ l.getD j 0 ≤ 16) (b : Int) : ∀ n, 0 ≤ mostK l b n ∧ mostK l b n ≤ 16
  | 0 => by show (0 : Int) ≤ 0 ∧ (0 : Int) ≤ 16; decide
  | n + 1 => inner_bd h b n (most_bd h b n) 6
theorem inner_yes {l : List Int} {b : Int} {i k : Nat} {m r : Int} (hr : r = innerK l b i m k) (h1 : bitK b i = 1) (h2 : bitK b k = 1) : minMax true r (l.getD i 0 - l.getD k 0) = innerK l b i m (k + 1) := by
  show _ = if _ then _ else _
  rw [if_pos ⟨h1, h2⟩, hr]
theorem inner_no {l : List Int} {b : Int} {i k : Nat} {m r : Int} (hr : r = innerK l b i m k) (h : ¬ (bitK b i = 1 ∧ bitK b k = 1)) : r = innerK l b i m (k + 1) := by
  show _ = if _ then _ else _
  rw [if_neg h, hr]

theorem tabloads_con {t : Tab} {b : Int} (ht : t.Wf) (hb : 0 ≤ b ∧ b ≤ 255) : CallCon Try.prog 5 [tabT t, .one (.v (.int .u8 b))] [] (.t (.one (.v (.bool true)))) [] := by
  have hR := reftabright_con t
  by_cases hok : okTab t
  rotate_left
  · have hR2 := con_no hR hok
    refine con_of_call2 rfl ?_
    refine call_inline Try.func5 rfl rfl ?_
    intro _
    repeat' (refine is_call ?_; (first | refine call_auto (wakes_con) (lets_rfl rfl) (by exact trivial) rfl ?_ | refine call_auto (hR2) (lets_rfl rfl) (by exact trivial) rfl ?_); intro u; clear u)
    (refine con_end ?_ rfl; intro u; clear u; refine ⟨rfl, rfl, EntGoal.mk ?_ ?_⟩ <;> (repeat' (first | exact trivial | (with_reducible rfl) | apply And.intro | rfl)))
  have hR2 := con_yes hR hok
  have hL := loads_con t
  have hO := fun k : Nat => of_con t (k : Int)
  have hlen : ∀ j : Nat, j < 6 → ((ofL t (j : Int)).length : Int) = (loadsT t).getD j 0 := fun j hj => (loads_of hj 16).symm
  have hall := sum_owned hok.2 16 (Nat.le_refl _)
  change sumK (loadsT t) 6 = ownedK t 16 at hall
  have hsp := spread_con t hb
  rw [spread_most] at hsp
  have hLb : ∀ j, 0 ≤ (loadsT t).getD j 0 ∧ (loadsT t).getD j 0 ≤ 16 := fun j => by
    have := loadsK_bd t 16 j
    exact this
  generalize loadsT t = l at *
  refine con_of_call2 rfl ?_
  refine call_inline Try.func5 rfl rfl ?_
  intro _
  repeat' (refine is_call ?_; (first | refine call_auto (hR2) (lets_rfl rfl) (by exact trivial) rfl ?_ | refine call_auto (hL) (lets_rfl rfl) (by exact trivial) rfl ?_); intro u; clear u)
  refine loop_ind (fun k : Nat => 16 - k) (fun k => k ≤ 16) (fun k => [(8, .t (.one (.v (.int .i64 k)))), (7, .t (.one (.v (.int .i64 (ownedK t k)))))]) (fun _ => []) (fun _ => []) [] 0 0 (by omega) ?_ ?_
  · (intro u; clear u; refine ⟨rfl, rfl, EntGoal.mk ?_ ?_⟩ <;> (repeat' (first | exact trivial | (with_reducible rfl) | apply And.intro | rfl)))
  intro k hk u
  clear u
  have hob := owned_bd t k
  repeat' (first | (refine is_split ?_; refine sp_dec (fun g => ?_) (fun g => ?_) <;> (intro u; clear u)) | (refine is_asked ?_; (first | (refine is_spec ?_; (with_reducible refine asked _ (sp_add (by simp only [lo, hi]; omega) (by simp only [lo, hi]; omega)) ?_)) | (refine asked _ (tab_cur t (i := k) (by omega)) ?_) | refine asked () (by constructor <;> omega) ?_); intro u; clear u))
  · rename_i g
    refine again (k + 1) (by omega) (by omega) ?_
    (intro u; clear u; refine ⟨rfl, rfl, EntGoal.mk ?_ ?_⟩ <;> (repeat' (first | exact trivial | (with_reducible rfl) | apply And.intro | rfl)))
    show _ = if _ then _ else _
    rw [if_pos (by omega)]
  · rename_i g
    refine again (k + 1) (by omega) (by omega) ?_
    (intro u; clear u; refine ⟨rfl, rfl, EntGoal.mk ?_ ?_⟩ <;> (repeat' (first | exact trivial | (with_reducible rfl) | apply And.intro | rfl)))
    show _ = if _ then _ else _
    rw [if_neg (by omega)]
  obtain rfl : k = 16 := by omega
  refine loop_ind (ι := Nat × Int) (fun | (i, _) => 6 - i) (fun | (i, m) => i ≤ 6 ∧ m = mostK l b i) (fun | (i, m) => [(10, .t (.one (.v (.int .i64 i)))), (6, .t (.one (.v (.int .i64 (sumK l i))))), (9, .t (.one (.v (.int .i64 m))))]) (fun _ => []) (fun _ => []) [] 0 (0, 0) ⟨by omega, rfl⟩ ?_ ?_
  · (intro u; clear u; refine ⟨rfl, rfl, EntGoal.mk ?_ ?_⟩ <;> (repeat' (first | exact trivial | (with_reducible rfl) | apply And.intro | rfl)))
  rintro ⟨i, m⟩ ⟨hi6, hm⟩ u
  clear u
  have hsb := sum_bd hLb i
  have hli := hLb i
  by_cases hc : i < 6
  · have hle := hlen i hc
    have hmb := most_bd hLb b i
    rw [← hm] at hmb
    repeat' (first | (refine is_split ?_; (first | refine sp_yes (by exact dec_t (by omega)) ?_ | refine sp_no (by exact ndec_f (by omega)) ?_) <;> (intro u; clear u)) | (refine is_asked ?_; (first | (refine is_spec ?_; (with_reducible refine asked _ (sp_add (by simp only [lo, hi]; omega) (by simp only [lo, hi]; omega)) ?_)) | (refine asked _ (l_nth l (i := i) (by omega)) ?_) | refine asked () (by constructor <;> omega) ?_); intro u; clear u) | (refine is_draw ?_; refine draw_step mixed (by kernel_rfl) ?_; intro u; clear u) | (refine is_dcall ?_; refine dcall_auto (hO i) (lets_rfl rfl) (by exact trivial) rfl ?_; intro u; clear u))
    refine loop_ind (ι := Nat × Int) (fun | (k, _) => 6 - k) (fun | (k, r) => k ≤ 6 ∧ r = innerK l b i m k) (fun | (k, r) => [(11, .t (.one (.v (.int .i64 k)))), (9, .t (.one (.v (.int .i64 r))))]) (fun _ => []) (fun _ => []) [] 0 (0, m) ⟨by omega, rfl⟩ ?_ ?_
    · (intro u; clear u; refine ⟨rfl, rfl, EntGoal.mk ?_ ?_⟩ <;> (repeat' (first | exact trivial | (with_reducible rfl) | apply And.intro | rfl)))
    rintro ⟨k, r⟩ ⟨hk6, hr⟩ u
    clear u
    have hbi := shr_bd (k := i) hb
    have hbk := shr_bd (k := k) hb
    have h1 : bitK b i = b / 2 ^ i % 2 := rfl
    have h2 : bitK b k = b / 2 ^ k % 2 := rfl
    have hrb := inner_bd hLb b i hmb k
    rw [← hr] at hrb
    have hlk := hLb k
    repeat' (first | (refine is_split ?_; refine sp_dec (fun g => ?_) (fun g => ?_) <;> (intro u; clear u)) | (refine is_asked ?_; (first | (refine is_spec ?_; (first | (refine asked _ (shr_bit hb (by omega)) ?_) | (with_reducible refine asked _ (sp_add (by simp only [lo, hi]; omega) (by simp only [lo, hi]; omega)) ?_) | (with_reducible refine asked _ (sp_sub (by simp only [lo, hi]; omega) (by simp only [lo, hi]; omega)) ?_) | (with_reducible refine asked _ (sp_maskL 1 2 (by decide) (by decide) (by decide) (by simp only [lo, hi]; omega)) ?_))) | (refine is_wrap ?_; refine asked _ (wrap_lohi (by simp only [lo, hi]; omega) (by simp only [lo, hi]; omega)) ?_) | (refine asked _ (l_nth l (i := i) (by omega)) ?_) | (refine asked _ (l_nth l (i := k) (by omega)) ?_) | refine asked () (by constructor <;> omega) ?_); intro u; clear u) | (refine is_draw ?_; refine draw_step mixed (by kernel_rfl) ?_; intro u; clear u))
    · refine again (k + 1, minMax true r (l.getD i 0 - l.getD k 0)) ⟨by omega, inner_yes hr (by omega) (by omega)⟩ (by show 6 - (k + 1) < 6 - k; omega) ?_
      (intro u; clear u; refine ⟨rfl, rfl, EntGoal.mk ?_ ?_⟩ <;> (repeat' (first | exact trivial | (with_reducible rfl) | apply And.intro | rfl)))
    · refine again (k + 1, r) ⟨by omega, inner_no hr (by omega)⟩ (by show 6 - (k + 1) < 6 - k; omega) ?_
      (intro u; clear u; refine ⟨rfl, rfl, EntGoal.mk ?_ ?_⟩ <;> (repeat' (first | exact trivial | (with_reducible rfl) | apply And.intro | rfl)))
    · refine again (k + 1, r) ⟨by omega, inner_no hr (by omega)⟩ (by show 6 - (k + 1) < 6 - k; omega) ?_
      (intro u; clear u; refine ⟨rfl, rfl, EntGoal.mk ?_ ?_⟩ <;> (repeat' (first | exact trivial | (with_reducible rfl) | apply And.intro | rfl)))
    · obtain rfl : k = 6 := by omega
      refine again (i + 1, r) ⟨by omega, hr.trans (by rw [hm]; rfl)⟩ (by show 6 - (i + 1) < 6 - i; omega) ?_
      (intro u; clear u; refine ⟨rfl, rfl, EntGoal.mk ?_ ?_⟩ <;> (repeat' (first | exact trivial | (with_reducible rfl) | apply And.intro | rfl)))
  · obtain rfl : i = 6 := by omega
    rw [← hm] at hsp
    repeat' (first | (refine is_split ?_; (first | refine sp_yes (by exact dec_t (by omega)) ?_ | refine sp_no (by rfl) ?_) <;> (intro u; clear u)) | (refine is_call ?_; (first | refine call_auto (hsp) (lets_rfl rfl) (by exact trivial) rfl ?_ | refine call_auto (wakes_con) (lets_rfl rfl) (by exact trivial) rfl ?_); intro u; clear u))
    all_goals (refine con_end ?_ rfl; intro u; clear u; refine ⟨rfl, rfl, EntGoal.mk ?_ ?_⟩ <;> (repeat' (first | exact trivial | (with_reducible rfl) | apply And.intro | rfl)))
