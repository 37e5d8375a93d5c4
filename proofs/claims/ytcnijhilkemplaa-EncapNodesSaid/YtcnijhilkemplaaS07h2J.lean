/- Contracts of functions of the program, or a row of the seat, proved out of them. No condition beyond those that stand in each statement. -/
import Derived.Test.YtcnijhilkemplaaS07h2I
namespace Go.Proofs.S07.I2
open Go Go.SE
set_option maxRecDepth 100000
set_option maxHeartbeats 4000000
attribute [local irreducible] specI

def wN (l : List Int) (i : Nat) : Int := l.getD i 0 * 256 + l.getD (i + 1) 0
def hN (l : List Int) : Int := l.getD 0 0 % 16 * 4
def kN (l : List Int) : Int := 65535 - sumW (zeroK (l.take (hN l).toNat))
def parseE (l : List Int) : Int :=
  if l.length < 20 then 1 else if ¬ l.getD 0 0 / 16 = 4 then 2 else if hN l < 20 ∨ hN l > l.length then 3 else if ¬ wN l 2 = l.length then 4 else if ¬ wN l 10 = kN l then 5 else if ¬ (wN l 6 = 0 ∨ wN l 6 = 16384) then 6 else 0
def readS (l : List Int) : Hd := ⟨l.getD 1 0, wN l 4, wN l 6, l.getD 8 0, l.getD 9 0, wN l 12 * 65536 + wN l 14, wN l 16 * 65536 + wN l 18, (l.drop 20).take ((hN l).toNat - 20), l.drop (hN l).toNat⟩
def parseS (l : List Int) : Hd := if parseE l = 0 then readS l else zeroHd

theorem parse_cases (l : List Int) : (parseE l = 1 ∧ parseS l = zeroHd ∧ l.length < 20) ∨
    (parseE l = 2 ∧ parseS l = zeroHd ∧ 20 ≤ l.length ∧ ¬ l.getD 0 0 / 16 = 4) ∨
    (parseE l = 3 ∧ parseS l = zeroHd ∧ 20 ≤ l.length ∧ l.getD 0 0 / 16 = 4 ∧ (hN l < 20 ∨ hN l > l.length)) ∨
    (parseE l = 4 ∧ parseS l = zeroHd ∧ 20 ≤ l.length ∧ l.getD 0 0 / 16 = 4 ∧ (20 ≤ hN l ∧ hN l ≤ l.length) ∧ ¬ wN l 2 = l.length) ∨
    (parseE l = 5 ∧ parseS l = zeroHd ∧ 20 ≤ l.length ∧ l.getD 0 0 / 16 = 4 ∧ (20 ≤ hN l ∧ hN l ≤ l.length) ∧ wN l 2 = l.length ∧ ¬ wN l 10 = kN l) ∨
    (parseE l = 6 ∧ parseS l = zeroHd ∧ 20 ≤ l.length ∧ l.getD 0 0 / 16 = 4 ∧ (20 ≤ hN l ∧ hN l ≤ l.length) ∧ wN l 2 = l.length ∧ wN l 10 = kN l ∧ ¬ (wN l 6 = 0 ∨ wN l 6 = 16384)) ∨
    (parseE l = 0 ∧ parseS l = readS l ∧ 20 ≤ l.length ∧ l.getD 0 0 / 16 = 4 ∧ (20 ≤ hN l ∧ hN l ≤ l.length) ∧ wN l 2 = l.length ∧ wN l 10 = kN l ∧ (wN l 6 = 0 ∨ wN l 6 = 16384)) := by
  have hz : ∀ k : Int, parseE l = k → k ≠ 0 → parseS l = zeroHd := fun k hk hn => by unfold parseS; rw [if_neg (by rw [hk]; exact hn)]
  by_cases c1 : l.length < 20
  · have e : parseE l = 1 := by unfold parseE; rw [if_pos c1]
    exact .inl ⟨e, hz _ e (by decide), c1⟩
  by_cases c2 : l.getD 0 0 / 16 = 4
  rotate_left
  · have e : parseE l = 2 := by unfold parseE; rw [if_neg c1, if_pos c2]
    exact .inr (.inl ⟨e, hz _ e (by decide), by omega, c2⟩)
  by_cases c3 : hN l < 20 ∨ hN l > l.length
  · have e : parseE l = 3 := by unfold parseE; rw [if_neg c1, if_neg (fun h => h c2), if_pos c3]
    exact .inr (.inr (.inl ⟨e, hz _ e (by decide), by omega, c2, c3⟩))
  have c3' : 20 ≤ hN l ∧ hN l ≤ l.length := by omega
  by_cases c4 : wN l 2 = l.length
  rotate_left
  · have e : parseE l = 4 := by unfold parseE; rw [if_neg c1, if_neg (fun h => h c2), if_neg c3, if_pos c4]
    exact .inr (.inr (.inr (.inl ⟨e, hz _ e (by decide), by omega, c2, c3', c4⟩)))
  by_cases c5 : wN l 10 = kN l
  rotate_left
  · have e : parseE l = 5 := by unfold parseE; rw [if_neg c1, if_neg (fun h => h c2), if_neg c3, if_neg (fun h => h c4), if_pos c5]
    exact .inr (.inr (.inr (.inr (.inl ⟨e, hz _ e (by decide), by omega, c2, c3', c4, c5⟩))))
  by_cases c6 : wN l 6 = 0 ∨ wN l 6 = 16384
  rotate_left
  · have e : parseE l = 6 := by unfold parseE; rw [if_neg c1, if_neg (fun h => h c2), if_neg c3, if_neg (fun h => h c4), if_neg (fun h => h c5), if_pos c6]
    exact .inr (.inr (.inr (.inr (.inr (.inl ⟨e, hz _ e (by decide), by omega, c2, c3', c4, c5, c6⟩)))))
  · have e : parseE l = 0 := by unfold parseE; rw [if_neg c1, if_neg (fun h => h c2), if_neg c3, if_neg (fun h => h c4), if_neg (fun h => h c5), if_neg (fun h => h c6)]
    exact .inr (.inr (.inr (.inr (.inr (.inr ⟨e, by unfold parseS; rw [if_pos e], by omega, c2, c3', c4, c5, c6⟩)))))

theorem word_at {l : List Int} (off : Nat) (ho : off + 2 ≤ l.length) (hb : ∀ x ∈ l, 0 ≤ x ∧ x ≤ 255) (off1 : Nat) (h1 : off1 = off + 1) : CallCon Try.prog 55 [.one (.sl 0 off (l.length - off))] [.row (ints .u8 l) 1 5 false] (.t (.one (.v (.int .u16 (l.getD off 0 * 256 + l.getD off1 0))))) [] := by
  subst h1
  exact word_con (by omega) (by omega) hb
theorem parse_con {l : List Int} (hb : ∀ x ∈ l, 0 ≤ x ∧ x ≤ 255) (hl : l.length ≤ 4000) :
    CallCon Try.prog 33 [.one (.sl 0 0 l.length)] [.row (ints .u8 l) 1 5 false] (.tup [hdT (parseS l) 0 1, .one (.v (.int .u8 (parseE l)))]) [.row (ints .u8 (parseS l).opts) 1 5 true, .row (ints .u8 (parseS l).pay) 1 5 true] := by
  have g0 := getD_bd hb (by decide) 0
  have g1 := getD_bd hb (by decide) 1
  have g2 := getD_bd hb (by decide) 2
  have g3 := getD_bd hb (by decide) 3
  have g4 := getD_bd hb (by decide) 4
  have g5 := getD_bd hb (by decide) 5
  have g10 := getD_bd hb (by decide) 10
  have g11 := getD_bd hb (by decide) 11
  have g6 := getD_bd hb (by decide) 6
  have g7 := getD_bd hb (by decide) 7
  have g8 := getD_bd hb (by decide) 8
  have g9 := getD_bd hb (by decide) 9
  have g12 := getD_bd hb (by decide) 12
  have g13 := getD_bd hb (by decide) 13
  have g14 := getD_bd hb (by decide) 14
  have g15 := getD_bd hb (by decide) 15
  have g16 := getD_bd hb (by decide) 16
  have g17 := getD_bd hb (by decide) 17
  have g18 := getD_bd hb (by decide) 18
  have g19 := getD_bd hb (by decide) 19
  rcases parse_cases l with ⟨e1, e2, c1⟩ | ⟨e1, e2, c1, c2⟩ | ⟨e1, e2, c1, c2, c3⟩ | ⟨e1, e2, c1, c2, c3, c4⟩ | ⟨e1, e2, c1, c2, c3, c4, c5⟩ | ⟨e1, e2, c1, c2, c3, c4, c5, c6⟩ | ⟨e1, e2, c1, c2, c3, c4, c5, c6⟩ <;> rw [e1, e2]
  · refine con_of_call2 rfl ?_
    refine call_inline Try.func33 rfl rfl ?_
    intro _
    repeat' (first | (refine is_split ?_; refine sp_yes (by exact dec_t (by omega)) ?_ <;> (intro u; clear u)) | (refine is_scope ?_; refine scope_step ?_; intro u; clear u))
    all_goals (refine con_end ?_ rfl; intro u; clear u; refine ⟨rfl, rfl, EntGoal.mk ?_ ?_⟩ <;> (repeat' (first | exact trivial | (with_reducible rfl) | apply And.intro | rfl)))
  · refine con_of_call2 rfl ?_
    refine call_inline Try.func33 rfl rfl ?_
    intro _
    repeat' (first | (refine is_split ?_; (first | refine sp_yes (by exact ndec_t (by omega)) ?_ | refine sp_no (by exact dec_f (by omega)) ?_) <;> (intro u; clear u)) | (refine is_asked ?_; (first | (refine is_spec ?_; (first | (with_reducible refine asked _ (sp_mul (by simp only [lo, hi]; omega) (by simp only [lo, hi]; omega)) ?_) | (refine is_op (op := .shr) ?_; refine asked _ (sp_shrL 4 16 (by decide) (by rfl) (by decide)) ?_) | (with_reducible refine asked _ (sp_maskL 4 16 (by decide) (by decide) (by decide) (by simp only [lo, hi]; omega)) ?_))) | (refine is_wrap ?_; refine asked _ (wrap_lohi (by simp only [lo, hi]; omega) (by simp only [lo, hi]; omega)) ?_) | (refine asked _ (ix_eq 0 (by omega) (by omega)) ?_) | refine asked () ⟨by omega, by omega⟩ ?_); intro u; clear u) | (refine is_scope ?_; refine scope_step ?_; intro u; clear u))
    all_goals (refine con_end ?_ rfl; intro u; clear u; refine ⟨rfl, rfl, EntGoal.mk ?_ ?_⟩ <;> (repeat' (first | exact trivial | (with_reducible rfl) | apply And.intro | rfl)))
  · unfold hN at c3
    refine con_of_call2 rfl ?_
    refine call_inline Try.func33 rfl rfl ?_
    intro _
    repeat' (first | (refine is_split ?_; (first | refine sp_yes (by exact dec_t (by omega)) ?_ | refine sp_no (by (first | exact dec_f (by omega) | exact ndec_f (by omega))) ?_ | refine sp_dec (fun g => ?_) (fun g => ?_)) <;> (intro u; clear u)) | (refine is_asked ?_; (first | (refine is_spec ?_; (first | (with_reducible refine asked _ (sp_mul (by simp only [lo, hi]; omega) (by simp only [lo, hi]; omega)) ?_) | (refine is_op (op := .shr) ?_; refine asked _ (sp_shrL 4 16 (by decide) (by rfl) (by decide)) ?_) | (with_reducible refine asked _ (sp_maskL 4 16 (by decide) (by decide) (by decide) (by simp only [lo, hi]; omega)) ?_))) | (refine is_wrap ?_; refine asked _ (wrap_lohi (by simp only [lo, hi]; omega) (by simp only [lo, hi]; omega)) ?_) | (refine asked _ (ix_eq 0 (by omega) (by omega)) ?_) | refine asked () ⟨by omega, by omega⟩ ?_); intro u; clear u) | (refine is_scope ?_; refine scope_step ?_; intro u; clear u))
    all_goals (refine con_end ?_ rfl; intro u; clear u; refine ⟨rfl, rfl, EntGoal.mk ?_ ?_⟩ <;> (repeat' (first | exact trivial | (with_reducible rfl) | apply And.intro | rfl)))
  · unfold hN at c3
    simp only [wN, Nat.reduceAdd] at c4
    have w2 := word_at (l := l) 2 (by omega) hb 3 rfl
    refine con_of_call2 rfl ?_
    refine call_inline Try.func33 rfl rfl ?_
    intro _
    repeat' (first | (refine is_split ?_; (first | refine sp_yes (by exact ndec_t (by omega)) ?_ | refine sp_no (by (first | exact dec_f (by omega) | exact ndec_f (by omega))) ?_) <;> (intro u; clear u)) | (refine is_asked ?_; (first | (refine is_spec ?_; (first | (with_reducible refine asked _ (sp_mul (by simp only [lo, hi]; omega) (by simp only [lo, hi]; omega)) ?_) | (refine is_op (op := .shr) ?_; refine asked _ (sp_shrL 4 16 (by decide) (by rfl) (by decide)) ?_) | (with_reducible refine asked _ (sp_maskL 4 16 (by decide) (by decide) (by decide) (by simp only [lo, hi]; omega)) ?_))) | (refine is_wrap ?_; refine asked _ (wrap_lohi (by simp only [lo, hi]; omega) (by simp only [lo, hi]; omega)) ?_) | (refine asked _ (ix_eq 0 (by omega) (by omega)) ?_) | refine asked _ (slice_ask (by omega) (by omega) (by omega)) ?_ | refine asked () ⟨by omega, by omega⟩ ?_); intro u; clear u) | (refine is_scope ?_; refine scope_step ?_; intro u; clear u) | (refine is_call ?_; refine call_auto (w2) (lets_rfl rfl) (by exact ⟨⟨_, rfl, rfl, rfl⟩, trivial⟩) rfl ?_; intro u; clear u))
    all_goals (refine con_end ?_ rfl; intro u; clear u; refine ⟨rfl, rfl, EntGoal.mk ?_ ?_⟩ <;> (repeat' (first | exact trivial | (with_reducible rfl) | apply And.intro | rfl)))
  · unfold kN hN at c5
    unfold hN at c3
    simp only [wN, Nat.reduceAdd] at c4 c5
    have hk := ipcheck_con (l := l) (n := (l.getD 0 0 % 16 * 4).toNat) (by omega) (by omega) (by omega) hb
    have w2 := word_at (l := l) 2 (by omega) hb 3 rfl
    have w10 := word_at (l := l) 10 (by omega) hb 11 rfl
    refine con_of_call2 rfl ?_
    refine call_inline Try.func33 rfl rfl ?_
    intro _
    repeat' (first | (refine is_split ?_; (first | refine sp_yes (by exact ndec_t (by omega)) ?_ | refine sp_no (by (first | exact dec_f (by omega) | exact ndec_f (by omega))) ?_) <;> (intro u; clear u)) | (refine is_asked ?_; (first | (refine is_spec ?_; (first | (with_reducible refine asked _ (sp_mul (by simp only [lo, hi]; omega) (by simp only [lo, hi]; omega)) ?_) | (refine is_op (op := .shr) ?_; refine asked _ (sp_shrL 4 16 (by decide) (by rfl) (by decide)) ?_) | (with_reducible refine asked _ (sp_maskL 4 16 (by decide) (by decide) (by decide) (by simp only [lo, hi]; omega)) ?_))) | (refine is_wrap ?_; refine asked _ (wrap_lohi (by simp only [lo, hi]; omega) (by simp only [lo, hi]; omega)) ?_) | (refine asked _ (ix_eq 0 (by omega) (by omega)) ?_) | refine asked _ (slice_ask (by omega) (by omega) (by omega)) ?_ | refine asked () ⟨by omega, by omega⟩ ?_); intro u; clear u) | (refine is_draw ?_; refine draw_step mixed (by kernel_rfl) ?_; intro u; clear u) | (refine is_scope ?_; refine scope_step ?_; intro u; clear u) | (refine is_call ?_; refine call_auto (w2) (lets_rfl rfl) (by exact ⟨⟨_, rfl, rfl, rfl⟩, trivial⟩) rfl ?_; intro u; clear u) | (refine is_dcall ?_; (first | refine dcall_auto (w10) (lets_rfl rfl) (by exact ⟨⟨_, rfl, rfl, rfl⟩, trivial⟩) rfl ?_ | refine dcall_auto (hk) (lets_rfl rfl) (by exact ⟨⟨_, rfl, rfl, rfl⟩, trivial⟩) rfl ?_); intro u; clear u))
    all_goals (refine con_end ?_ rfl; intro u; clear u; refine ⟨rfl, rfl, EntGoal.mk ?_ ?_⟩ <;> (repeat' (first | exact trivial | (with_reducible rfl) | apply And.intro | rfl)))
  · unfold kN hN at c5
    unfold hN at c3
    simp only [wN, Nat.reduceAdd] at c4 c5 c6
    have hk := ipcheck_con (l := l) (n := (l.getD 0 0 % 16 * 4).toNat) (by omega) (by omega) (by omega) hb
    have w2 := word_at (l := l) 2 (by omega) hb 3 rfl
    have w10 := word_at (l := l) 10 (by omega) hb 11 rfl
    have w6 := word_at (l := l) 6 (by omega) hb 7 rfl
    refine con_of_call2 rfl ?_
    refine call_inline Try.func33 rfl rfl ?_
    intro _
    repeat' (first | (refine is_split ?_; (first | refine sp_yes (by exact ndec_t (by omega)) ?_ | refine sp_no (by (first | exact dec_f (by omega) | exact ndec_f (by omega))) ?_) <;> (intro u; clear u)) | (refine is_asked ?_; (first | (refine is_spec ?_; (first | (refine asked _ (andNot14 (by omega)) ?_) | (with_reducible refine asked _ (sp_mul (by simp only [lo, hi]; omega) (by simp only [lo, hi]; omega)) ?_) | (refine is_op (op := .shr) ?_; refine asked _ (sp_shrL 4 16 (by decide) (by rfl) (by decide)) ?_) | (with_reducible refine asked _ (sp_maskL 4 16 (by decide) (by decide) (by decide) (by simp only [lo, hi]; omega)) ?_))) | (refine is_wrap ?_; refine asked _ (wrap_lohi (by simp only [lo, hi]; omega) (by simp only [lo, hi]; omega)) ?_) | (refine asked _ (ix_eq 0 (by omega) (by omega)) ?_) | refine asked _ (slice_ask (by omega) (by omega) (by omega)) ?_ | refine asked () ⟨by omega, by omega⟩ ?_); intro u; clear u) | (refine is_draw ?_; refine draw_step mixed (by kernel_rfl) ?_; intro u; clear u) | (refine is_scope ?_; refine scope_step ?_; intro u; clear u) | (refine is_call ?_; (first | refine call_auto (w2) (lets_rfl rfl) (by exact ⟨⟨_, rfl, rfl, rfl⟩, trivial⟩) rfl ?_ | refine call_auto (w6) (lets_rfl rfl) (by exact ⟨⟨_, rfl, rfl, rfl⟩, trivial⟩) rfl ?_); intro u; clear u) | (refine is_dcall ?_; (first | refine dcall_auto (w10) (lets_rfl rfl) (by exact ⟨⟨_, rfl, rfl, rfl⟩, trivial⟩) rfl ?_ | refine dcall_auto (hk) (lets_rfl rfl) (by exact ⟨⟨_, rfl, rfl, rfl⟩, trivial⟩) rfl ?_); intro u; clear u))
    all_goals (refine con_end ?_ rfl; intro u; clear u; refine ⟨rfl, rfl, EntGoal.mk ?_ ?_⟩ <;> (repeat' (first | exact trivial | (with_reducible rfl) | apply And.intro | rfl)))
  · unfold kN hN at c5
    unfold hN at c3
    simp only [wN, Nat.reduceAdd] at c4 c5 c6
    have hk := ipcheck_con (l := l) (n := (l.getD 0 0 % 16 * 4).toNat) (by omega) (by omega) (by omega) hb
    have hne : l ≠ [] := by intro e; subst e; simp at c1
    have k1 := clone_con (l := l) (off := 20) (n := (l.getD 0 0 % 16 * 4).toNat - 20) (by omega) hne (by omega)
    have k2 := clone_con (l := l) (off := 0 + (l.getD 0 0 % 16 * 4).toNat) (n := l.length - (l.getD 0 0 % 16 * 4).toNat) (by omega) hne (by omega)
    have w2 := word_at (l := l) 2 (by omega) hb 3 rfl
    have w10 := word_at (l := l) 10 (by omega) hb 11 rfl
    have w6 := word_at (l := l) 6 (by omega) hb 7 rfl
    have w4 := word_at (l := l) 4 (by omega) hb 5 rfl
    have w12 := word_at (l := l) 12 (by omega) hb 13 rfl
    have w14 := word_at (l := l) 14 (by omega) hb 15 rfl
    have w16 := word_at (l := l) 16 (by omega) hb 17 rfl
    have w18 := word_at (l := l) 18 (by omega) hb 19 rfl
    refine con_of_call2 rfl ?_
    refine call_inline Try.func33 rfl rfl ?_
    intro _
    repeat' (first | (refine is_split ?_; refine sp_no (by (first | exact dec_f (by omega) | exact ndec_f (by omega))) ?_ <;> (intro u; clear u)) | (refine is_asked ?_; (first | (refine is_spec ?_; (first | (refine asked _ (andNot14 (by omega)) ?_) | (with_reducible refine asked _ (sp_or 16 (by omega) (by simp only [lo, hi]; omega) (by omega) (by omega) (by omega) (by simp only [lo, hi]; omega)) ?_) | (with_reducible refine asked _ (sp_mul (by simp only [lo, hi]; omega) (by simp only [lo, hi]; omega)) ?_) | (refine is_op (op := .shr) ?_; refine asked _ (sp_shrL 4 16 (by decide) (by rfl) (by decide)) ?_) | (refine is_op (op := .shl) ?_; refine asked _ (sp_shlL 16 65536 (by decide) (by rfl) (by decide) (by simp only [lo, hi]; omega) (by simp only [lo, hi]; omega)) ?_) | (with_reducible refine asked _ (sp_maskL 4 16 (by decide) (by decide) (by decide) (by simp only [lo, hi]; omega)) ?_))) | (refine is_wrap ?_; refine asked _ (wrap_lohi (by simp only [lo, hi]; omega) (by simp only [lo, hi]; omega)) ?_) | (refine asked _ (ix_eq 0 (by omega) (by omega)) ?_) | (refine asked _ (ix_eq 1 (by omega) (by omega)) ?_) | (refine asked _ (ix_eq 8 (by omega) (by omega)) ?_) | (refine asked _ (ix_eq 9 (by omega) (by omega)) ?_) | refine asked _ (slice_ask (by omega) (by omega) (by omega)) ?_ | refine asked () ⟨by omega, by omega⟩ ?_); intro u; clear u) | (refine is_draw ?_; refine draw_step mixed (by kernel_rfl) ?_; intro u; clear u) | (refine is_scope ?_; refine scope_step ?_; intro u; clear u) | (refine is_call ?_; (first | refine call_auto (w2) (lets_rfl rfl) (by exact ⟨⟨_, rfl, rfl, rfl⟩, trivial⟩) rfl ?_ | refine call_auto (w6) (lets_rfl rfl) (by exact ⟨⟨_, rfl, rfl, rfl⟩, trivial⟩) rfl ?_); intro u; clear u) | (refine is_dcall ?_; (first | refine dcall_auto (k1) (lets_rfl rfl) (by exact ⟨⟨_, rfl, rfl, rfl⟩, trivial⟩) rfl ?_ | refine dcall_auto (k2) (lets_rfl rfl) (by exact ⟨⟨_, rfl, rfl, rfl⟩, trivial⟩) rfl ?_ | refine dcall_auto (w10) (lets_rfl rfl) (by exact ⟨⟨_, rfl, rfl, rfl⟩, trivial⟩) rfl ?_ | refine dcall_auto (w6) (lets_rfl rfl) (by exact ⟨⟨_, rfl, rfl, rfl⟩, trivial⟩) rfl ?_ | refine dcall_auto (w4) (lets_rfl rfl) (by exact ⟨⟨_, rfl, rfl, rfl⟩, trivial⟩) rfl ?_ | refine dcall_auto (w12) (lets_rfl rfl) (by exact ⟨⟨_, rfl, rfl, rfl⟩, trivial⟩) rfl ?_ | refine dcall_auto (w14) (lets_rfl rfl) (by exact ⟨⟨_, rfl, rfl, rfl⟩, trivial⟩) rfl ?_ | refine dcall_auto (w16) (lets_rfl rfl) (by exact ⟨⟨_, rfl, rfl, rfl⟩, trivial⟩) rfl ?_ | refine dcall_auto (w18) (lets_rfl rfl) (by exact ⟨⟨_, rfl, rfl, rfl⟩, trivial⟩) rfl ?_ | refine dcall_auto (hk) (lets_rfl rfl) (by exact ⟨⟨_, rfl, rfl, rfl⟩, trivial⟩) rfl ?_); intro u; clear u))
    all_goals (refine con_end ?_ rfl; intro u; clear u; refine ⟨rfl, rfl, EntGoal.mk ?_ ?_⟩ <;> (repeat' (first | exact trivial | (with_reducible rfl) | apply And.intro | rfl)))
    all_goals first
      | (simp [readS, hN]; done)
      | (simp only [readS, hN, List.length_take, List.length_drop]; omega)
      | (rw [Nat.zero_add, List.take_of_length_le (by simp)]; rfl)
