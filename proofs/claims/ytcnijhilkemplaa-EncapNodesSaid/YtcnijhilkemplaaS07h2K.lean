/- Contracts of functions of the program, or a row of the seat, proved out of them. No condition beyond those that stand in each statement. -/
import Derived.Test.YtcnijhilkemplaaS07h2J
namespace Go.Proofs.S07.I2
open Go Go.SE
set_option maxRecDepth 100000
set_option maxHeartbeats 4000000
attribute [local irreducible] specI

theorem num2_at {l : List Int} (off : Nat) (ho : off + 2 ≤ l.length) (hb : ∀ x ∈ l, 0 ≤ x ∧ x ≤ 255) (off1 : Nat) (h1 : off1 = off + 1) : CallCon Try.prog 40 [.one (.sl 0 off 2)] [.row (ints .u8 l) 1 5 false] (.t (.one (.v (.int .i64 (l.getD off 0 * 256 + l.getD off1 0))))) [] := by
  subst h1
  exact number2_con ho hb
theorem num4_at {l : List Int} (off : Nat) (ho : off + 4 ≤ l.length) (hb : ∀ x ∈ l, 0 ≤ x ∧ x ≤ 255) (off1 off2 off3 : Nat) (h1 : off1 = off + 1) (h2 : off2 = off + 2) (h3 : off3 = off + 3) : CallCon Try.prog 40 [.one (.sl 0 off 4)] [.row (ints .u8 l) 1 5 false] (.t (.one (.v (.int .i64 ((l.getD off 0 * 256 + l.getD off1 0) * 65536 + (l.getD off2 0 * 256 + l.getD off3 0)))))) [] := by
  subst h1; subst h2; subst h3
  exact number4_con ho hb
theorem refparse_con {l : List Int} (hb : ∀ x ∈ l, 0 ≤ x ∧ x ≤ 255) (hl : l.length ≤ 4000) :
    CallCon Try.prog 25 [.one (.sl 0 0 l.length)] [.row (ints .u8 l) 1 5 false] (.tup [hdT (parseS l) 0 1, .one (.v (.int .u8 (parseE l)))]) [.row (ints .u8 (parseS l).opts) 1 5 true, .row (ints .u8 (parseS l).pay) 1 5 true] := by
  have g0 := getD_bd hb (by decide) 0
  have g1 := getD_bd hb (by decide) 1
  have g2 := getD_bd hb (by decide) 2
  have g3 := getD_bd hb (by decide) 3
  have g4 := getD_bd hb (by decide) 4
  have g5 := getD_bd hb (by decide) 5
  have g10 := getD_bd hb (by decide) 10
  have g11 := getD_bd hb (by decide) 11
  have g6 := getD_bd hb (by decide) 6
  have g7 := getD_bd hb (by decide) 7
  have g8 := getD_bd hb (by decide) 8
  have g9 := getD_bd hb (by decide) 9
  have g12 := getD_bd hb (by decide) 12
  have g13 := getD_bd hb (by decide) 13
  have g14 := getD_bd hb (by decide) 14
  have g15 := getD_bd hb (by decide) 15
  have g16 := getD_bd hb (by decide) 16
  have g17 := getD_bd hb (by decide) 17
  have g18 := getD_bd hb (by decide) 18
  have g19 := getD_bd hb (by decide) 19
  rcases parse_cases l with ⟨e1, e2, c1⟩ | ⟨e1, e2, c1, c2⟩ | ⟨e1, e2, c1, c2, c3⟩ | ⟨e1, e2, c1, c2, c3, c4⟩ | ⟨e1, e2, c1, c2, c3, c4, c5⟩ | ⟨e1, e2, c1, c2, c3, c4, c5, c6⟩ | ⟨e1, e2, c1, c2, c3, c4, c5, c6⟩ <;> rw [e1, e2]
  · refine con_of_call2 rfl ?_
    refine call_inline Try.func25 rfl rfl ?_
    intro _
    repeat' (refine is_split ?_; refine sp_yes (by exact dec_t (by omega)) ?_ <;> (intro u; clear u))
    all_goals (refine con_end ?_ rfl; intro u; clear u; refine ⟨rfl, rfl, EntGoal.mk ?_ ?_⟩ <;> (repeat' (first | exact trivial | (with_reducible rfl) | apply And.intro | rfl)))
  · refine con_of_call2 rfl ?_
    refine call_inline Try.func25 rfl rfl ?_
    intro _
    repeat' (first | (refine is_split ?_; (first | refine sp_yes (by exact ndec_t (by omega)) ?_ | refine sp_no (by exact dec_f (by omega)) ?_) <;> (intro u; clear u)) | (refine is_asked ?_; (first | (refine is_spec ?_; (first | (refine asked _ (sp_rem (by omega) (by omega)) ?_) | (refine asked _ (sp_quo (by omega) (by omega) (by simp only [lo, hi]; omega)) ?_) | (with_reducible refine asked _ (sp_mul (by simp only [lo, hi]; omega) (by simp only [lo, hi]; omega)) ?_))) | (refine is_wrap ?_; refine asked _ (wrap_lohi (by simp only [lo, hi]; omega) (by simp only [lo, hi]; omega)) ?_) | (refine asked _ (ix_eq 0 (by omega) (by omega)) ?_) | refine asked () ⟨by omega, by omega⟩ ?_); intro u; clear u))
    all_goals (refine con_end ?_ rfl; intro u; clear u; refine ⟨rfl, rfl, EntGoal.mk ?_ ?_⟩ <;> (repeat' (first | exact trivial | (with_reducible rfl) | apply And.intro | rfl)))
  · unfold hN at c3
    refine con_of_call2 rfl ?_
    refine call_inline Try.func25 rfl rfl ?_
    intro _
    repeat' (first | (refine is_split ?_; (first | refine sp_yes (by exact dec_t (by omega)) ?_ | refine sp_no (by (first | exact dec_f (by omega) | exact ndec_f (by omega))) ?_ | refine sp_dec (fun g => ?_) (fun g => ?_)) <;> (intro u; clear u)) | (refine is_asked ?_; (first | (refine is_spec ?_; (first | (refine asked _ (sp_rem (by omega) (by omega)) ?_) | (refine asked _ (sp_quo (by omega) (by omega) (by simp only [lo, hi]; omega)) ?_) | (with_reducible refine asked _ (sp_mul (by simp only [lo, hi]; omega) (by simp only [lo, hi]; omega)) ?_))) | (refine is_wrap ?_; refine asked _ (wrap_lohi (by simp only [lo, hi]; omega) (by simp only [lo, hi]; omega)) ?_) | (refine asked _ (ix_eq 0 (by omega) (by omega)) ?_) | refine asked () ⟨by omega, by omega⟩ ?_); intro u; clear u))
    all_goals (refine con_end ?_ rfl; intro u; clear u; refine ⟨rfl, rfl, EntGoal.mk ?_ ?_⟩ <;> (repeat' (first | exact trivial | (with_reducible rfl) | apply And.intro | rfl)))
  · unfold hN at c3
    simp only [wN, Nat.reduceAdd] at c4
    have n2 := num2_at (l := l) 2 (by omega) hb 3 rfl
    refine con_of_call2 rfl ?_
    refine call_inline Try.func25 rfl rfl ?_
    intro _
    repeat' (first | (refine is_split ?_; (first | refine sp_yes (by exact ndec_t (by omega)) ?_ | refine sp_no (by (first | exact dec_f (by omega) | exact ndec_f (by omega))) ?_) <;> (intro u; clear u)) | (refine is_asked ?_; (first | (refine is_spec ?_; (first | (refine asked _ (sp_rem (by omega) (by omega)) ?_) | (refine asked _ (sp_quo (by omega) (by omega) (by simp only [lo, hi]; omega)) ?_) | (with_reducible refine asked _ (sp_mul (by simp only [lo, hi]; omega) (by simp only [lo, hi]; omega)) ?_))) | (refine is_wrap ?_; refine asked _ (wrap_lohi (by simp only [lo, hi]; omega) (by simp only [lo, hi]; omega)) ?_) | (refine asked _ (ix_eq 0 (by omega) (by omega)) ?_) | refine asked _ (slice_ask (by omega) (by omega) (by omega)) ?_ | refine asked () ⟨by omega, by omega⟩ ?_); intro u; clear u) | (refine is_call ?_; refine call_auto (n2) (lets_rfl rfl) (by exact ⟨⟨_, rfl, rfl, rfl⟩, trivial⟩) rfl ?_; intro u; clear u))
    all_goals (refine con_end ?_ rfl; intro u; clear u; refine ⟨rfl, rfl, EntGoal.mk ?_ ?_⟩ <;> (repeat' (first | exact trivial | (with_reducible rfl) | apply And.intro | rfl)))
  · unfold kN hN at c5
    unfold hN at c3
    simp only [wN, Nat.reduceAdd] at c4 c5
    have hk := refipcheck_con (l := l) (n := (l.getD 0 0 % 16 * 4).toNat) (by omega) (by omega) (by omega) hb
    have n2 := num2_at (l := l) 2 (by omega) hb 3 rfl
    have n10 := num2_at (l := l) 10 (by omega) hb 11 rfl
    refine con_of_call2 rfl ?_
    refine call_inline Try.func25 rfl rfl ?_
    intro _
    repeat' (first | (refine is_split ?_; (first | refine sp_yes (by exact ndec_t (by omega)) ?_ | refine sp_no (by (first | exact dec_f (by omega) | exact ndec_f (by omega))) ?_) <;> (intro u; clear u)) | (refine is_asked ?_; (first | (refine is_spec ?_; (first | (refine asked _ (sp_rem (by omega) (by omega)) ?_) | (refine asked _ (sp_quo (by omega) (by omega) (by simp only [lo, hi]; omega)) ?_) | (with_reducible refine asked _ (sp_mul (by simp only [lo, hi]; omega) (by simp only [lo, hi]; omega)) ?_))) | (refine is_wrap ?_; refine asked _ (wrap_lohi (by simp only [lo, hi]; omega) (by simp only [lo, hi]; omega)) ?_) | (refine asked _ (ix_eq 0 (by omega) (by omega)) ?_) | refine asked _ (slice_ask (by omega) (by omega) (by omega)) ?_ | refine asked () ⟨by omega, by omega⟩ ?_); intro u; clear u) | (refine is_draw ?_; refine draw_step mixed (by kernel_rfl) ?_; intro u; clear u) | (refine is_call ?_; refine call_auto (n2) (lets_rfl rfl) (by exact ⟨⟨_, rfl, rfl, rfl⟩, trivial⟩) rfl ?_; intro u; clear u) | (refine is_dcall ?_; (first | refine dcall_auto (n10) (lets_rfl rfl) (by exact ⟨⟨_, rfl, rfl, rfl⟩, trivial⟩) rfl ?_ | refine dcall_auto (hk) (lets_rfl rfl) (by exact ⟨⟨_, rfl, rfl, rfl⟩, trivial⟩) rfl ?_); intro u; clear u))
    all_goals (refine con_end ?_ rfl; intro u; clear u; refine ⟨rfl, rfl, EntGoal.mk ?_ ?_⟩ <;> (repeat' (first | exact trivial | (with_reducible rfl) | apply And.intro | rfl)))
  · unfold kN hN at c5
    unfold hN at c3
    simp only [wN, Nat.reduceAdd] at c4 c5 c6
    have hk := refipcheck_con (l := l) (n := (l.getD 0 0 % 16 * 4).toNat) (by omega) (by omega) (by omega) hb
    have n2 := num2_at (l := l) 2 (by omega) hb 3 rfl
    have n10 := num2_at (l := l) 10 (by omega) hb 11 rfl
    have n6 := num2_at (l := l) 6 (by omega) hb 7 rfl
    refine con_of_call2 rfl ?_
    refine call_inline Try.func25 rfl rfl ?_
    intro _
    repeat' (first | (refine is_split ?_; (first | refine sp_yes (by exact ndec_t (by omega)) ?_ | refine sp_no (by (first | exact dec_f (by omega) | exact ndec_f (by omega))) ?_) <;> (intro u; clear u)) | (refine is_asked ?_; (first | (refine is_spec ?_; (first | (refine asked _ (sp_rem (by omega) (by omega)) ?_) | (refine asked _ (sp_quo (by omega) (by omega) (by simp only [lo, hi]; omega)) ?_) | (with_reducible refine asked _ (sp_mul (by simp only [lo, hi]; omega) (by simp only [lo, hi]; omega)) ?_))) | (refine is_wrap ?_; refine asked _ (wrap_lohi (by simp only [lo, hi]; omega) (by simp only [lo, hi]; omega)) ?_) | (refine asked _ (ix_eq 0 (by omega) (by omega)) ?_) | refine asked _ (slice_ask (by omega) (by omega) (by omega)) ?_ | refine asked () ⟨by omega, by omega⟩ ?_); intro u; clear u) | (refine is_draw ?_; refine draw_step mixed (by kernel_rfl) ?_; intro u; clear u) | (refine is_call ?_; (first | refine call_auto (n2) (lets_rfl rfl) (by exact ⟨⟨_, rfl, rfl, rfl⟩, trivial⟩) rfl ?_ | refine call_auto (n6) (lets_rfl rfl) (by exact ⟨⟨_, rfl, rfl, rfl⟩, trivial⟩) rfl ?_); intro u; clear u) | (refine is_dcall ?_; (first | refine dcall_auto (n10) (lets_rfl rfl) (by exact ⟨⟨_, rfl, rfl, rfl⟩, trivial⟩) rfl ?_ | refine dcall_auto (hk) (lets_rfl rfl) (by exact ⟨⟨_, rfl, rfl, rfl⟩, trivial⟩) rfl ?_); intro u; clear u))
    all_goals (refine con_end ?_ rfl; intro u; clear u; refine ⟨rfl, rfl, EntGoal.mk ?_ ?_⟩ <;> (repeat' (first | exact trivial | (with_reducible rfl) | apply And.intro | rfl)))
  · unfold kN hN at c5
    unfold hN at c3
    simp only [wN, Nat.reduceAdd] at c4 c5 c6
    have hk := refipcheck_con (l := l) (n := (l.getD 0 0 % 16 * 4).toNat) (by omega) (by omega) (by omega) hb
    have hne : l ≠ [] := by intro e; subst e; simp at c1
    have n2 := num2_at (l := l) 2 (by omega) hb 3 rfl
    have n10 := num2_at (l := l) 10 (by omega) hb 11 rfl
    have n6 := num2_at (l := l) 6 (by omega) hb 7 rfl
    have n4 := num2_at (l := l) 4 (by omega) hb 5 rfl
    have m12 := num4_at (l := l) 12 (by omega) hb 13 14 15 rfl rfl rfl
    have m16 := num4_at (l := l) 16 (by omega) hb 17 18 19 rfl rfl rfl
    refine con_of_call2 rfl ?_
    refine call_inline Try.func25 rfl rfl ?_
    intro _
    repeat' (first | (refine is_split ?_; (first | refine sp_no (by (first | exact dec_f (by omega) | exact ndec_f (by omega))) ?_ | refine sp_ndec (fun g => ?_) (fun g => ?_)) <;> (intro u; clear u)) | (refine is_asked ?_; (first | (refine is_spec ?_; (first | (refine asked _ (sp_rem (by omega) (by omega)) ?_) | (refine asked _ (sp_quo (by omega) (by omega) (by simp only [lo, hi]; omega)) ?_) | (with_reducible refine asked _ (sp_mul (by simp only [lo, hi]; omega) (by simp only [lo, hi]; omega)) ?_))) | (refine is_wrap ?_; refine asked _ (wrap_lohi (by simp only [lo, hi]; omega) (by simp only [lo, hi]; omega)) ?_) | (refine asked _ (ix_eq 0 (by omega) (by omega)) ?_) | (refine asked _ (ix_eq 1 (by omega) (by omega)) ?_) | (refine asked _ (ix_eq 8 (by omega) (by omega)) ?_) | (refine asked _ (ix_eq 9 (by omega) (by omega)) ?_) | (refine asked (ints .u8 ((l.drop 20).take ((l.getD 0 0 % 16 * 4).toNat - 20))) ⟨by rw [ints_view]; rfl, rfl, by rw [ints_view, ints_length, List.length_take, List.length_drop]; show _ = _ * 1; simp only; omega, by unfold maxLen; simp only; omega, by show _ * 1 ≤ _; simp only; omega⟩ ?_) | (refine asked (ints .u8 ((l.drop (0 + (l.getD 0 0 % 16 * 4).toNat)).take (l.length - (l.getD 0 0 % 16 * 4).toNat))) ⟨by rw [ints_view]; rfl, rfl, by rw [ints_view, ints_length, List.length_take, List.length_drop]; show _ = _ * 1; simp only; omega, by unfold maxLen; simp only; omega, by show _ * 1 ≤ _; simp only; omega⟩ ?_) | refine asked _ (slice_ask (by omega) (by omega) (by omega)) ?_ | refine asked () ⟨by omega, by omega⟩ ?_); intro u; clear u) | (refine is_draw ?_; refine draw_step mixed (by kernel_rfl) ?_; intro u; clear u) | (refine is_call ?_; (first | refine call_auto (n2) (lets_rfl rfl) (by exact ⟨⟨_, rfl, rfl, rfl⟩, trivial⟩) rfl ?_ | refine call_auto (n6) (lets_rfl rfl) (by exact ⟨⟨_, rfl, rfl, rfl⟩, trivial⟩) rfl ?_); intro u; clear u) | (refine is_dcall ?_; (first | refine dcall_auto (n10) (lets_rfl rfl) (by exact ⟨⟨_, rfl, rfl, rfl⟩, trivial⟩) rfl ?_ | refine dcall_auto (n6) (lets_rfl rfl) (by exact ⟨⟨_, rfl, rfl, rfl⟩, trivial⟩) rfl ?_ | refine dcall_auto (n4) (lets_rfl rfl) (by exact ⟨⟨_, rfl, rfl, rfl⟩, trivial⟩) rfl ?_ | refine dcall_auto (m12) (lets_rfl rfl) (by exact ⟨⟨_, rfl, rfl, rfl⟩, trivial⟩) rfl ?_ | refine dcall_auto (m16) (lets_rfl rfl) (by exact ⟨⟨_, rfl, rfl, rfl⟩, trivial⟩) rfl ?_ | refine dcall_auto (hk) (lets_rfl rfl) (by exact ⟨⟨_, rfl, rfl, rfl⟩, trivial⟩) rfl ?_); intro u; clear u))
    all_goals (refine con_end ?_ rfl; intro u; clear u; refine ⟨rfl, rfl, EntGoal.mk ?_ ?_⟩ <;> (repeat' (first | exact trivial | (with_reducible rfl) | apply And.intro | rfl)))
    all_goals first
      | (simp [readS, hN]; done)
      | (simp only [readS, hN, List.length_take, List.length_drop]; omega)
      | (rw [Nat.zero_add, List.take_of_length_le (by simp)]; rfl)
