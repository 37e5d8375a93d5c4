/- Contracts of functions of the program, or a row of the seat, proved out of them. No condition beyond those that stand in each statement. -/
import Derived.Test.YtcnijhilkemplaaS07h2D
namespace Go.Proofs.S07.I2
open Go Go.SE
set_option maxRecDepth 100000
set_option maxHeartbeats 4000000

theorem ints_take (k : IntKind) (n : Nat) (l : List Int) : (ints k l).take n = ints k (l.take n) := by
  induction l generalizing n with
  | nil => simp [ints]
  | cons x l ih => cases n with
    | zero => simp [ints]
    | succ n => simp [ints, ih]
theorem ints_drop (k : IntKind) (n : Nat) (l : List Int) : (ints k l).drop n = ints k (l.drop n) := by
  induction l generalizing n with
  | nil => simp [ints]
  | cons x l ih => cases n with
    | zero => simp [ints]
    | succ n => simp [ints, ih]
theorem ints_view (k : IntKind) (off n : Nat) (l : List Int) : List.take (n * (0 + 1)) (List.drop (off * (0 + 1)) (ints k l)) = ints k ((l.drop off).take n) := by
  rw [Nat.zero_add, Nat.mul_one, Nat.mul_one, ints_drop, ints_take]
theorem ints_all (k : IntKind) (l : List Int) : List.take (l.length * (0 + 1)) (List.drop (0 * (0 + 1)) (ints k l)) = ints k l := by
  rw [ints_view]; simp
theorem setVals_set (k : IntKind) : ∀ (l : List Int) (i : Nat) (x : Int), i < l.length → setVals (ints k l) i [.int k x] = ints k (l.set i x)
  | [], _, _, h => by simp at h
  | y :: l, 0, x, _ => by show .int k x :: setVals (ints k l) 0 [] = _; rw [setVals_nil]; rfl
  | y :: l, i + 1, x, h => by
    show .int k y :: setVals (ints k l) i [.int k x] = _
    rw [setVals_set k l i x (by simpa using h)]; rfl
theorem zerosV_ints : ∀ n : Nat, zerosV [.int .u8 0] n = ints .u8 (List.replicate n 0)
  | 0 => rfl
  | n + 1 => by show _ :: zerosV _ n = _; rw [zerosV_ints n]; rfl
theorem mem_set {l : List Int} {i : Nat} {x : Int} (hb : ∀ x ∈ l, 0 ≤ x ∧ x ≤ 255) (hx : 0 ≤ x ∧ x ≤ 255) : ∀ y ∈ l.set i x, 0 ≤ y ∧ y ≤ 255 := by
  intro y hy
  rcases List.mem_or_eq_of_mem_set hy with h | h
  · exact hb y h
  · rw [h]; exact hx

attribute [local irreducible] specI

theorem word_con {l : List Int} {off n : Nat} (ho : off + n ≤ l.length) (hn : 2 ≤ n) (hb : ∀ x ∈ l, 0 ≤ x ∧ x ≤ 255) : CallCon Try.prog 55 [.one (.sl 0 off n)] [.row (ints .u8 l) 1 5 false] (.t (.one (.v (.int .u16 (l.getD off 0 * 256 + l.getD (off + 1) 0))))) [] := by
  have hx := getD_bd hb (by decide) off
  have hy := getD_bd hb (by decide) (off + 1)
  refine con_of_call2 rfl ?_
  refine call_inline Try.func55 rfl rfl ?_
  intro _
  repeat' (first | (refine is_asked ?_; (first | (refine is_spec ?_; (first | (refine is_op (op := .shl) ?_; refine asked _ (sp_shlL 8 256 (by decide) (by rfl) (by decide) (by simp only [lo, hi]; omega) (by simp only [lo, hi]; omega)) ?_) | (with_reducible refine asked _ (sp_or 8 (by omega) (by simp only [lo, hi]; omega) (by omega) (by omega) (by omega) (by simp only [lo, hi]; omega)) ?_))) | (refine is_wrap ?_; refine asked _ (wrap_lohi (by simp only [lo, hi]; omega) (by simp only [lo, hi]; omega)) ?_) | (refine asked _ (ix_eq off (by omega) (by omega)) ?_) | (refine asked _ (ix_eq (off + 1) (by omega) (by omega)) ?_) | refine asked () ⟨by omega, by omega⟩ ?_); intro u; clear u) | (refine is_draw ?_; refine draw_step mixed (by kernel_rfl) ?_; intro u; clear u))
  (refine con_end ?_ rfl; intro u; clear u; refine ⟨rfl, rfl, EntGoal.mk ?_ ?_⟩ <;> (repeat' (first | exact trivial | (with_reducible rfl) | apply And.intro | rfl)))

theorem clone_con {l : List Int} {off n : Nat} (ho : off + n ≤ l.length) (hne : l ≠ []) (hl : l.length ≤ 100000) : CallCon Try.prog 39 [.one (.sl 0 off n)] [.row (ints .u8 l) 1 5 false] (.t (.one (.sl 0 0 n))) [.row (ints .u8 ((l.drop off).take n)) 1 5 true] := by
  have hx : ints IntKind.u8 l ≠ [] := by cases l with
    | nil => exact absurd rfl hne
    | cons x l => simp [ints]
  refine con_of_call2 rfl ?_
  refine call_inline Try.func39 rfl rfl ?_
  intro _
  repeat' (refine is_asked ?_; (first | (refine asked () (.inr hx) ?_) | (refine asked (ints .u8 ((l.drop off).take n)) ⟨by rw [ints_view]; rfl, rfl, by rw [ints_view, ints_length, List.length_take, List.length_drop]; show _ = _ * 1; omega, by unfold maxLen; omega, by show _ * 1 ≤ _; omega⟩ ?_)); intro u; clear u)
  (refine con_end ?_ rfl; intro u; clear u; refine ⟨rfl, rfl, EntGoal.mk ?_ ?_⟩ <;> (repeat' (first | exact trivial | (with_reducible rfl) | apply And.intro | rfl)))
  all_goals omega
theorem clone_nil : CallCon Try.prog 39 [.one (.v (.slice none 0 0))] [] (.t (.one (.sl 0 0 0))) [.row (ints .u8 []) 1 5 true] := by
  refine con_of_call2 rfl ?_
  refine call_inline Try.func39 rfl rfl ?_
  intro _
  repeat' fail
  (refine con_end ?_ rfl; intro u; clear u; refine ⟨rfl, rfl, EntGoal.mk ?_ ?_⟩ <;> (repeat' (first | exact trivial | (with_reducible rfl) | apply And.intro | rfl)))
theorem clone_empty (a : Addr) (cap : Nat) : CallCon Try.prog 39 [.one (.v (.slice (some a) 0 cap))] [] (.t (.one (.sl 0 0 0))) [.row (ints .u8 []) 1 5 true] := by
  refine con_of_call2 rfl ?_
  refine call_inline Try.func39 rfl rfl ?_
  intro _
  repeat' (refine is_asked ?_; (refine asked [] ⟨rfl, rfl, rfl, by decide, by decide⟩ ?_); intro u; clear u)
  (refine con_end ?_ rfl; intro u; clear u; refine ⟨rfl, rfl, EntGoal.mk ?_ ?_⟩ <;> (repeat' (first | exact trivial | (with_reducible rfl) | apply And.intro | rfl)))
theorem clone_all {l : List Int} (hl : l.length ≤ 100000) : CallCon Try.prog 39 [.one (.sl 0 0 l.length)] [.row (ints .u8 l) 1 5 false] (.t (.one (.sl 0 0 l.length))) [.row (ints .u8 l) 1 5 true] := by
  by_cases h : l = []
  · subst h
    exact con_empty clone_nil clone_empty
  · have := clone_con (l := l) (off := 0) (n := l.length) (by omega) h hl
    rwa [show (l.drop 0).take l.length = l by simp] at this

theorem equal_con {l r : List Int} (hb : ∀ x ∈ l, 0 ≤ x ∧ x ≤ 255) (hb2 : ∀ x ∈ r, 0 ≤ x ∧ x ≤ 255) : CallCon Try.prog 35 [.one (.sl 0 0 l.length), .one (.sl 1 0 r.length)] [.row (ints .u8 l) 1 5 false, .row (ints .u8 r) 1 5 false] (.t (.one (.b (l = r)))) [] := by
  refine con_of_call2 rfl ?_
  refine call_inline Try.func35 rfl rfl ?_
  intro _
  repeat' (refine is_asked ?_; refine asked _ (tostr_ask (take_ints _ _) rfl) ?_; intro u; clear u)
  rw [bytes_beq hb hb2]
  (refine con_end ?_ rfl; intro u; clear u; refine ⟨rfl, rfl, EntGoal.mk ?_ ?_⟩ <;> (repeat' (first | exact trivial | (with_reducible rfl) | apply And.intro | rfl)))

theorem number2_con {l : List Int} {off : Nat} (ho : off + 2 ≤ l.length) (hb : ∀ x ∈ l, 0 ≤ x ∧ x ≤ 255) : CallCon Try.prog 40 [.one (.sl 0 off 2)] [.row (ints .u8 l) 1 5 false] (.t (.one (.v (.int .i64 (l.getD off 0 * 256 + l.getD (off + 1) 0))))) [] := by
  have hx := getD_bd hb (by decide) off
  have hy := getD_bd hb (by decide) (off + 1)
  refine con_of_call2 rfl ?_
  refine call_inline Try.func40 rfl rfl ?_
  intro _
  repeat' (first | (refine is_split ?_; (first | refine sp_yes (by rfl) ?_ | refine sp_no (by rfl) ?_) <;> (intro u; clear u)) | (refine is_asked ?_; (first | (refine is_spec ?_; (first | (with_reducible refine asked _ (sp_add (by simp only [lo, hi]; omega) (by simp only [lo, hi]; omega)) ?_) | (with_reducible refine asked _ (sp_mul (by simp only [lo, hi]; omega) (by simp only [lo, hi]; omega)) ?_))) | (refine is_wrap ?_; refine asked _ (wrap_lohi (by simp only [lo, hi]; omega) (by simp only [lo, hi]; omega)) ?_) | (refine asked _ (ix_eq off (by omega) (by omega)) ?_) | (refine asked _ (ix_eq (off + 1) (by omega) (by omega)) ?_) | refine asked () ⟨by omega, by omega⟩ ?_); intro u; clear u) | (refine is_loop ?_; refine loop_step ?_; intro u; clear u))
  (refine con_end ?_ rfl; intro u; clear u; refine ⟨rfl, rfl, EntGoal.mk ?_ ?_⟩ <;> (repeat' (first | exact trivial | (with_reducible rfl) | apply And.intro | rfl)))
  all_goals omega
theorem number4_con {l : List Int} {off : Nat} (ho : off + 4 ≤ l.length) (hb : ∀ x ∈ l, 0 ≤ x ∧ x ≤ 255) : CallCon Try.prog 40 [.one (.sl 0 off 4)] [.row (ints .u8 l) 1 5 false] (.t (.one (.v (.int .i64 ((l.getD off 0 * 256 + l.getD (off + 1) 0) * 65536 + (l.getD (off + 2) 0 * 256 + l.getD (off + 3) 0)))))) [] := by
  have hx := getD_bd hb (by decide) off
  have hy := getD_bd hb (by decide) (off + 1)
  have hz := getD_bd hb (by decide) (off + 2)
  have hw := getD_bd hb (by decide) (off + 3)
  refine con_of_call2 rfl ?_
  refine call_inline Try.func40 rfl rfl ?_
  intro _
  repeat' (first | (refine is_split ?_; (first | refine sp_yes (by rfl) ?_ | refine sp_no (by rfl) ?_) <;> (intro u; clear u)) | (refine is_asked ?_; (first | (refine is_spec ?_; (first | (with_reducible refine asked _ (sp_add (by simp only [lo, hi]; omega) (by simp only [lo, hi]; omega)) ?_) | (with_reducible refine asked _ (sp_mul (by simp only [lo, hi]; omega) (by simp only [lo, hi]; omega)) ?_))) | (refine is_wrap ?_; refine asked _ (wrap_lohi (by simp only [lo, hi]; omega) (by simp only [lo, hi]; omega)) ?_) | (refine asked _ (ix_eq off (by omega) (by omega)) ?_) | (refine asked _ (ix_eq (off + 1) (by omega) (by omega)) ?_) | (refine asked _ (ix_eq (off + 2) (by omega) (by omega)) ?_) | (refine asked _ (ix_eq (off + 3) (by omega) (by omega)) ?_) | refine asked () ⟨by omega, by omega⟩ ?_); intro u; clear u) | (refine is_loop ?_; refine loop_step ?_; intro u; clear u))
  (refine con_end ?_ rfl; intro u; clear u; refine ⟨rfl, rfl, EntGoal.mk ?_ ?_⟩ <;> (repeat' (first | exact trivial | (with_reducible rfl) | apply And.intro | rfl)))
  all_goals omega

def twoL (n : Int) : List Int := [n / 256, n % 256]
def fourL (n : Int) : List Int := [n / 65536 / 256, n / 65536 % 256, n % 65536 / 256, n % 65536 % 256]
theorem two_con {n : Int} (hn : 0 ≤ n ∧ n ≤ 65535) : CallCon Try.prog 51 [.one (.v (.int .i64 n))] [] (.t (.one (.sl 0 0 2))) [.row (ints .u8 (twoL n)) 1 5 true] := by
  refine con_of_call2 rfl ?_
  refine call_inline Try.func51 rfl rfl ?_
  intro _
  repeat' (refine is_asked ?_; (first | (refine is_spec ?_; (first | (refine is_op (op := .shr) ?_; refine asked _ (sp_shrL 8 256 (by decide) (by rfl) (by decide)) ?_) | (with_reducible refine asked _ (sp_maskL 8 256 (by decide) (by decide) (by decide) (by simp only [lo, hi]; omega)) ?_))) | (refine is_wrap ?_; refine asked _ (wrap_lohi (by simp only [lo, hi]; omega) (by simp only [lo, hi]; omega)) ?_)); intro u; clear u)
  all_goals (refine con_end ?_ rfl; intro u; clear u; refine ⟨rfl, rfl, EntGoal.mk ?_ ?_⟩ <;> (repeat' (first | exact trivial | (with_reducible rfl) | apply And.intro | rfl)))
  all_goals (simp [valsOf, ints, twoL]; omega)
theorem four_con {n : Int} (hn : 0 ≤ n ∧ n ≤ 4294967295) : CallCon Try.prog 53 [.one (.v (.int .u32 n))] [] (.t (.one (.sl 0 0 4))) [.row (ints .u8 (fourL n)) 1 5 true] := by
  refine con_of_call2 rfl ?_
  refine call_inline Try.func53 rfl rfl ?_
  intro _
  repeat' (first | (refine is_asked ?_; (first | (refine is_spec ?_; (first | (refine is_op (op := .shr) ?_; refine asked _ (sp_shrL 16 65536 (by decide) (by rfl) (by decide)) ?_) | (with_reducible refine asked _ (sp_maskL 16 65536 (by decide) (by decide) (by decide) (by simp only [lo, hi]; omega)) ?_))) | (refine is_wrap ?_; refine asked _ (wrap_lohi (by simp only [lo, hi]; omega) (by simp only [lo, hi]; omega)) ?_) | refine asked _ (append_ask rfl rfl (by decide) (by decide)) ?_); intro u; clear u) | (refine is_call ?_; (first | refine call_auto (two_con (n := n / 65536) (by omega)) (lets_rfl rfl) (by exact trivial) rfl ?_ | refine call_auto (two_con (n := n % 65536) (by omega)) (lets_rfl rfl) (by exact trivial) rfl ?_); intro u; clear u))
  all_goals (refine con_end ?_ rfl; intro u; clear u; refine ⟨rfl, rfl, EntGoal.mk ?_ ?_⟩ <;> (repeat' (first | exact trivial | (with_reducible rfl) | apply And.intro | rfl)))

def zeroK (l : List Int) : List Int := (l.set 10 0).set 11 0
theorem zeroK_bd {l : List Int} (hb : ∀ x ∈ l, 0 ≤ x ∧ x ≤ 255) : ∀ x ∈ zeroK l, 0 ≤ x ∧ x ≤ 255 := mem_set (mem_set hb (by decide)) (by decide)
theorem zeroK_len (l : List Int) : (zeroK l).length = l.length := by simp [zeroK]
