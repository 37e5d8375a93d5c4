/- Contracts of functions of the program, or a row of the seat, proved out of them. No condition beyond those that stand in each statement. -/
import Derived.Test.YtlefpinmgabmfaaGreatS14p2a
namespace Go.Proofs.S14.I2
open Go Go.SE
set_option maxRecDepth 100000
set_option maxHeartbeats 4000000
attribute [local irreducible] specI

theorem refput_con {t : Hd} (h : t.Wf) : CallCon Tryz.prog 57 [hdT t 0 1] [.row (ints .u8 t.opts) 1 5 false, .row (ints .u8 t.pay) 1 5 false] (.tup [.one (.sl 0 0 (putL t).length), .one (.b (okHd t))]) [.row (ints .u8 (putL t)) 1 5 true] := by
  have hr := hrefright_con h
  by_cases hok : okHd t
  · have hr2 := con_yes hr hok
    have hsz := refsize_con h
    rw [show sizeN t = 20 + t.opts.length + t.pay.length by simp [sizeN, hok]] at hsz
    have hk := putK_bd h hok
    have hb0 := head_bytes (k := 0) h hok (by omega)
    have hC := refcheck_con hb0 (by rw [head_len]; have := h.olen; omega)
    rw [head_len] at hC
    change CallCon _ _ _ _ (.t (.one (.v (.int .u16 (putK t))))) _ at hC
    have hlen : (putL t).length = 20 + t.opts.length + t.pay.length := by simp [putL, hok, head_len]
    have e1 : putL t = headL t (putK t) ++ t.pay := by simp [putL, hok]
    rw [hlen, e1, decide_eq_true hok]
    obtain ⟨⟨h1, h2, h3, h4, h5, h6, h7, h8, h9⟩, h10, h11⟩ := h
    unfold okHd at hok
    generalize putK t = k at *
    have hl0 : (headL t 0).length = 20 + t.opts.length := head_len
    refine con_of_call2 rfl ?_
    refine call_inline Tryz.func57 rfl rfl ?_
    intro _
    repeat' (first | (refine is_asked ?_; (first | (refine is_spec ?_; (first | (refine asked _ (sp_quo (by omega) (by omega) (by simp only [lo, hi]; omega)) ?_) | (with_reducible refine asked _ (sp_add (by simp only [lo, hi]; omega) (by simp only [lo, hi]; omega)) ?_))) | (refine is_wrap ?_; refine asked _ (wrap_lohi (by simp only [lo, hi]; omega) (by simp only [lo, hi]; omega)) ?_) | (refine asked (ints .u8 (headL t 0)) ⟨by rw [ints_all, headL, ints_append]; rfl, rfl, by rw [ints_all, ints_length]; show _ = _ * 1; omega, by unfold maxLen; omega, by show _ * 1 ≤ _; omega⟩ ?_) | (refine asked _ (append_ask rfl rfl (of_decide_eq_true rfl) (of_decide_eq_true rfl)) ?_) | (refine asked (.int .u8 (k / 256)) rfl ?_) | (refine asked (.int .u8 (k % 256)) rfl ?_) | (refine asked (ints .u8 (headL t (k / 256 * 256))) ⟨by unfold headL baseL; rw [show k / 256 * 256 / 256 = k / 256 by omega, show k / 256 * 256 % 256 = 0 by omega]; rfl, by rw [ints_length, hl0]; show 11 ≤ _; omega⟩ ?_) | (refine asked (ints .u8 (headL t k)) ⟨by unfold headL baseL; rw [show k / 256 * 256 / 256 = k / 256 by omega]; rfl, by rw [ints_length, head_len]; show 12 ≤ _; omega⟩ ?_) | (refine asked (ints .u8 (headL t k ++ t.pay)) ⟨by rw [ints_all, ints_append], by rw [ints_length, head_len]; show _ = _ * 1; omega, by rw [ints_all, ints_length]; show _ = _ * 1; omega, by unfold maxLen; omega, by show _ * 1 ≤ _; omega⟩ ?_) | refine asked () ⟨by omega, by omega⟩ ?_); intro u; clear u) | (refine is_draw ?_; refine draw_step mixed (by kernel_rfl) ?_; intro u; clear u) | (refine is_call ?_; (first | refine call_auto (hr2) (lets_rfl rfl) (by exact ⟨⟨_, rfl, rfl, rfl⟩, ⟨_, rfl, rfl, rfl⟩, trivial⟩) rfl ?_ | refine call_auto (hsz) (lets_rfl rfl) (by exact ⟨⟨_, rfl, rfl, rfl⟩, ⟨_, rfl, rfl, rfl⟩, trivial⟩) rfl ?_ | refine call_auto (hC) (lets_rfl rfl) (by exact ⟨⟨_, rfl, rfl, rfl⟩, trivial⟩) rfl ?_ | refine call_auto (two_con (n := (20 + t.opts.length + t.pay.length : Int)) (by omega)) (lets_rfl rfl) (by exact trivial) rfl ?_ | refine call_auto (two_con (n := t.number) (by omega)) (lets_rfl rfl) (by exact trivial) rfl ?_ | refine call_auto (two_con (n := t.flags) (by omega)) (lets_rfl rfl) (by exact trivial) rfl ?_ | refine call_auto (two_con (n := k) (by omega)) (lets_rfl rfl) (by exact trivial) rfl ?_); intro u; clear u) | (refine is_dcall ?_; (first | refine dcall_auto (four_con h6) (lets_rfl rfl) (by exact trivial) rfl ?_ | refine dcall_auto (four_con h7) (lets_rfl rfl) (by exact trivial) rfl ?_); intro u; clear u))
    all_goals (refine con_end ?_ rfl; intro u; clear u; refine ⟨rfl, rfl, EntGoal.mk ?_ ?_⟩ <;> (repeat' (first | exact trivial | (with_reducible rfl) | apply And.intro | rfl)))
  · rw [decide_eq_false hok, show putL t = [] by simp [putL, hok]]
    have hr2 := con_no hr hok
    refine con_of_call2 rfl ?_
    refine call_inline Tryz.func57 rfl rfl ?_
    intro _
    repeat' (refine is_call ?_; refine call_auto (hr2) (lets_rfl rfl) (by exact ⟨⟨_, rfl, rfl, rfl⟩, ⟨_, rfl, rfl, rfl⟩, trivial⟩) rfl ?_; intro u; clear u)
    all_goals (refine con_end ?_ rfl; intro u; clear u; refine ⟨rfl, rfl, EntGoal.mk ?_ ?_⟩ <;> (repeat' (first | exact trivial | (with_reducible rfl) | apply And.intro | rfl)))
end Go.Proofs.S14.I2

namespace Go.Proofs.S14.I2
open Go Go.SE
set_option maxRecDepth 100000
set_option maxHeartbeats 4000000
attribute [local irreducible] specI

def wN (l : List Int) (i : Nat) : Int := l.getD i 0 * 256 + l.getD (i + 1) 0
def hN (l : List Int) : Int := l.getD 0 0 % 16 * 4
def kN (l : List Int) : Int := 65535 - sumW (zeroK (l.take (hN l).toNat))
def parseE (l : List Int) : Int :=
  if l.length < 20 then 1 else if ¬ l.getD 0 0 / 16 = 4 then 2 else if hN l < 20 ∨ hN l > l.length then 3 else if ¬ wN l 2 = l.length then 4 else if ¬ wN l 10 = kN l then 5 else if ¬ (wN l 6 = 0 ∨ wN l 6 = 16384) then 6 else 0
def readS (l : List Int) : Hd := ⟨l.getD 1 0, wN l 4, wN l 6, l.getD 8 0, l.getD 9 0, wN l 12 * 65536 + wN l 14, wN l 16 * 65536 + wN l 18, (l.drop 20).take ((hN l).toNat - 20), l.drop (hN l).toNat⟩
def parseS (l : List Int) : Hd := if parseE l = 0 then readS l else zeroHd

theorem parse_cases (l : List Int) : (parseE l = 1 ∧ parseS l = zeroHd ∧ l.length < 20) ∨
    (parseE l = 2 ∧ parseS l = zeroHd ∧ 20 ≤ l.length ∧ ¬ l.getD 0 0 / 16 = 4) ∨
    (parseE l = 3 ∧ parseS l = zeroHd ∧ 20 ≤ l.length ∧ l.getD 0 0 / 16 = 4 ∧ (hN l < 20 ∨ hN l > l.length)) ∨
    (parseE l = 4 ∧ parseS l = zeroHd ∧ 20 ≤ l.length ∧ l.getD 0 0 / 16 = 4 ∧ (20 ≤ hN l ∧ hN l ≤ l.length) ∧ ¬ wN l 2 = l.length) ∨
    (parseE l = 5 ∧ parseS l = zeroHd ∧ 20 ≤ l.length ∧ l.getD 0 0 / 16 = 4 ∧ (20 ≤ hN l ∧ hN l ≤ l.length) ∧ wN l 2 = l.length ∧ ¬ wN l 10 = kN l) ∨
    (parseE l = 6 ∧ parseS l = zeroHd ∧ 20 ≤ l.length ∧ l.getD 0 0 / 16 = 4 ∧ (20 ≤ hN l ∧ hN l ≤ l.length) ∧ wN l 2 = l.length ∧ wN l 10 = kN l ∧ ¬ (wN l 6 = 0 ∨ wN l 6 = 16384)) ∨
    (parseE l = 0 ∧ parseS l = readS l ∧ 20 ≤ l.length ∧ l.getD 0 0 / 16 = 4 ∧ (20 ≤ hN l ∧ hN l ≤ l.length) ∧ wN l 2 = l.length ∧ wN l 10 = kN l ∧ (wN l 6 = 0 ∨ wN l 6 = 16384)) := by
  have hz : ∀ k : Int, parseE l = k → k ≠ 0 → parseS l = zeroHd := fun k hk hn => by unfold parseS; rw [if_neg (by rw [hk]; exact hn)]
  by_cases c1 : l.length < 20
  · have e : parseE l = 1 := by unfold parseE; rw [if_pos c1]
    exact .inl ⟨e, hz _ e (by decide), c1⟩
  by_cases c2 : l.getD 0 0 / 16 = 4
  rotate_left
  · have e : parseE l = 2 := by unfold parseE; rw [if_neg c1, if_pos c2]
    exact .inr (.inl ⟨e, hz _ e (by decide), by omega, c2⟩)
  by_cases c3 : hN l < 20 ∨ hN l > l.length
  · have e : parseE l = 3 := by unfold parseE; rw [if_neg c1, if_neg (fun h => h c2), if_pos c3]
    exact .inr (.inr (.inl ⟨e, hz _ e (by decide), by omega, c2, c3⟩))
  have c3' : 20 ≤ hN l ∧ hN l ≤ l.length := by omega
  by_cases c4 : wN l 2 = l.length
  rotate_left
  · have e : parseE l = 4 := by unfold parseE; rw [if_neg c1, if_neg (fun h => h c2), if_neg c3, if_pos c4]
    exact .inr (.inr (.inr (.inl ⟨e, hz _ e (by decide), by omega, c2, c3', c4⟩)))
  by_cases c5 : wN l 10 = kN l
  rotate_left
  · have e : parseE l = 5 := by unfold parseE; rw [if_neg c1, if_neg (fun h => h c2), if_neg c3, if_neg (fun h => h c4), if_pos c5]
    exact .inr (.inr (.inr (.inr (.inl ⟨e, hz _ e (by decide), by omega, c2, c3', c4, c5⟩))))
  by_cases c6 : wN l 6 = 0 ∨ wN l 6 = 16384
  rotate_left
  · have e : parseE l = 6 := by unfold parseE; rw [if_neg c1, if_neg (fun h => h c2), if_neg c3, if_neg (fun h => h c4), if_neg (fun h => h c5), if_pos c6]
    exact .inr (.inr (.inr (.inr (.inr (.inl ⟨e, hz _ e (by decide), by omega, c2, c3', c4, c5, c6⟩)))))
  · have e : parseE l = 0 := by unfold parseE; rw [if_neg c1, if_neg (fun h => h c2), if_neg c3, if_neg (fun h => h c4), if_neg (fun h => h c5), if_neg (fun h => h c6)]
    exact .inr (.inr (.inr (.inr (.inr (.inr ⟨e, by unfold parseS; rw [if_pos e], by omega, c2, c3', c4, c5, c6⟩)))))

theorem word_at {l : List Int} (off : Nat) (ho : off + 2 ≤ l.length) (hb : ∀ x ∈ l, 0 ≤ x ∧ x ≤ 255) (off1 : Nat) (h1 : off1 = off + 1) : CallCon Tryz.prog 155 [.one (.sl 0 off (l.length - off))] [.row (ints .u8 l) 1 5 false] (.t (.one (.v (.int .u16 (l.getD off 0 * 256 + l.getD off1 0))))) [] := by
  subst h1
  exact word_con (by omega) (by omega) hb
theorem parse_con {l : List Int} (hb : ∀ x ∈ l, 0 ≤ x ∧ x ≤ 255) (hl : l.length ≤ 4000) :
    CallCon Tryz.prog 118 [.one (.sl 0 0 l.length)] [.row (ints .u8 l) 1 5 false] (.tup [hdT (parseS l) 0 1, .one (.v (.int .u8 (parseE l)))]) [.row (ints .u8 (parseS l).opts) 1 5 true, .row (ints .u8 (parseS l).pay) 1 5 true] := by
  have g0 := getD_bd hb (by decide) 0
  have g1 := getD_bd hb (by decide) 1
  have g2 := getD_bd hb (by decide) 2
  have g3 := getD_bd hb (by decide) 3
  have g4 := getD_bd hb (by decide) 4
  have g5 := getD_bd hb (by decide) 5
  have g10 := getD_bd hb (by decide) 10
  have g11 := getD_bd hb (by decide) 11
  have g6 := getD_bd hb (by decide) 6
  have g7 := getD_bd hb (by decide) 7
  have g8 := getD_bd hb (by decide) 8
  have g9 := getD_bd hb (by decide) 9
  have g12 := getD_bd hb (by decide) 12
  have g13 := getD_bd hb (by decide) 13
  have g14 := getD_bd hb (by decide) 14
  have g15 := getD_bd hb (by decide) 15
  have g16 := getD_bd hb (by decide) 16
  have g17 := getD_bd hb (by decide) 17
  have g18 := getD_bd hb (by decide) 18
  have g19 := getD_bd hb (by decide) 19
  rcases parse_cases l with ⟨e1, e2, c1⟩ | ⟨e1, e2, c1, c2⟩ | ⟨e1, e2, c1, c2, c3⟩ | ⟨e1, e2, c1, c2, c3, c4⟩ | ⟨e1, e2, c1, c2, c3, c4, c5⟩ | ⟨e1, e2, c1, c2, c3, c4, c5, c6⟩ | ⟨e1, e2, c1, c2, c3, c4, c5, c6⟩ <;> rw [e1, e2]
  · refine con_of_call2 rfl ?_
    refine call_inline Tryz.func118 rfl rfl ?_
    intro _
    repeat' (first | (refine is_split ?_; refine sp_yes (by exact dec_t (by omega)) ?_ <;> (intro u; clear u)) | (refine is_scope ?_; refine scope_step ?_; intro u; clear u))
    all_goals (refine con_end ?_ rfl; intro u; clear u; refine ⟨rfl, rfl, EntGoal.mk ?_ ?_⟩ <;> (repeat' (first | exact trivial | (with_reducible rfl) | apply And.intro | rfl)))
  · refine con_of_call2 rfl ?_
    refine call_inline Tryz.func118 rfl rfl ?_
    intro _
    repeat' (first | (refine is_split ?_; (first | refine sp_yes (by exact ndec_t (by omega)) ?_ | refine sp_no (by exact dec_f (by omega)) ?_) <;> (intro u; clear u)) | (refine is_asked ?_; (first | (refine is_spec ?_; (first | (with_reducible refine asked _ (sp_mul (by simp only [lo, hi]; omega) (by simp only [lo, hi]; omega)) ?_) | (refine is_op (op := .shr) ?_; refine asked _ (sp_shrL 4 16 (by decide) (by rfl) (by decide)) ?_) | (with_reducible refine asked _ (sp_maskL 4 16 (by decide) (by decide) (by decide) (by simp only [lo, hi]; omega)) ?_))) | (refine is_wrap ?_; refine asked _ (wrap_lohi (by simp only [lo, hi]; omega) (by simp only [lo, hi]; omega)) ?_) | (refine asked _ (ix_eq 0 (by omega) (by omega)) ?_) | refine asked () ⟨by omega, by omega⟩ ?_); intro u; clear u) | (refine is_scope ?_; refine scope_step ?_; intro u; clear u))
    all_goals (refine con_end ?_ rfl; intro u; clear u; refine ⟨rfl, rfl, EntGoal.mk ?_ ?_⟩ <;> (repeat' (first | exact trivial | (with_reducible rfl) | apply And.intro | rfl)))
  · unfold hN at c3
    refine con_of_call2 rfl ?_
    refine call_inline Tryz.func118 rfl rfl ?_
    intro _
    repeat' (first | (refine is_split ?_; (first | refine sp_yes (by exact dec_t (by omega)) ?_ | refine sp_no (by (first | exact dec_f (by omega) | exact ndec_f (by omega))) ?_ | refine sp_dec (fun g => ?_) (fun g => ?_)) <;> (intro u; clear u)) | (refine is_asked ?_; (first | (refine is_spec ?_; (first | (with_reducible refine asked _ (sp_mul (by simp only [lo, hi]; omega) (by simp only [lo, hi]; omega)) ?_) | (refine is_op (op := .shr) ?_; refine asked _ (sp_shrL 4 16 (by decide) (by rfl) (by decide)) ?_) | (with_reducible refine asked _ (sp_maskL 4 16 (by decide) (by decide) (by decide) (by simp only [lo, hi]; omega)) ?_))) | (refine is_wrap ?_; refine asked _ (wrap_lohi (by simp only [lo, hi]; omega) (by simp only [lo, hi]; omega)) ?_) | (refine asked _ (ix_eq 0 (by omega) (by omega)) ?_) | refine asked () ⟨by omega, by omega⟩ ?_); intro u; clear u) | (refine is_scope ?_; refine scope_step ?_; intro u; clear u))
    all_goals (refine con_end ?_ rfl; intro u; clear u; refine ⟨rfl, rfl, EntGoal.mk ?_ ?_⟩ <;> (repeat' (first | exact trivial | (with_reducible rfl) | apply And.intro | rfl)))
  · unfold hN at c3
    simp only [wN, Nat.reduceAdd] at c4
    have w2 := word_at (l := l) 2 (by omega) hb 3 rfl
    refine con_of_call2 rfl ?_
    refine call_inline Tryz.func118 rfl rfl ?_
    intro _
    repeat' (first | (refine is_split ?_; (first | refine sp_yes (by exact ndec_t (by omega)) ?_ | refine sp_no (by (first | exact dec_f (by omega) | exact ndec_f (by omega))) ?_) <;> (intro u; clear u)) | (refine is_asked ?_; (first | (refine is_spec ?_; (first | (with_reducible refine asked _ (sp_mul (by simp only [lo, hi]; omega) (by simp only [lo, hi]; omega)) ?_) | (refine is_op (op := .shr) ?_; refine asked _ (sp_shrL 4 16 (by decide) (by rfl) (by decide)) ?_) | (with_reducible refine asked _ (sp_maskL 4 16 (by decide) (by decide) (by decide) (by simp only [lo, hi]; omega)) ?_))) | (refine is_wrap ?_; refine asked _ (wrap_lohi (by simp only [lo, hi]; omega) (by simp only [lo, hi]; omega)) ?_) | (refine asked _ (ix_eq 0 (by omega) (by omega)) ?_) | refine asked _ (slice_ask (by omega) (by omega) (by omega)) ?_ | refine asked () ⟨by omega, by omega⟩ ?_); intro u; clear u) | (refine is_scope ?_; refine scope_step ?_; intro u; clear u) | (refine is_call ?_; refine call_auto (w2) (lets_rfl rfl) (by exact ⟨⟨_, rfl, rfl, rfl⟩, trivial⟩) rfl ?_; intro u; clear u))
    all_goals (refine con_end ?_ rfl; intro u; clear u; refine ⟨rfl, rfl, EntGoal.mk ?_ ?_⟩ <;> (repeat' (first | exact trivial | (with_reducible rfl) | apply And.intro | rfl)))
  · unfold kN hN at c5
    unfold hN at c3
    simp only [wN, Nat.reduceAdd] at c4 c5
    have hk := ipcheck_con (l := l) (n := (l.getD 0 0 % 16 * 4).toNat) (by omega) (by omega) (by omega) hb
    have w2 := word_at (l := l) 2 (by omega) hb 3 rfl
    have w10 := word_at (l := l) 10 (by omega) hb 11 rfl
    refine con_of_call2 rfl ?_
    refine call_inline Tryz.func118 rfl rfl ?_
    intro _
    repeat' (first | (refine is_split ?_; (first | refine sp_yes (by exact ndec_t (by omega)) ?_ | refine sp_no (by (first | exact dec_f (by omega) | exact ndec_f (by omega))) ?_) <;> (intro u; clear u)) | (refine is_asked ?_; (first | (refine is_spec ?_; (first | (with_reducible refine asked _ (sp_mul (by simp only [lo, hi]; omega) (by simp only [lo, hi]; omega)) ?_) | (refine is_op (op := .shr) ?_; refine asked _ (sp_shrL 4 16 (by decide) (by rfl) (by decide)) ?_) | (with_reducible refine asked _ (sp_maskL 4 16 (by decide) (by decide) (by decide) (by simp only [lo, hi]; omega)) ?_))) | (refine is_wrap ?_; refine asked _ (wrap_lohi (by simp only [lo, hi]; omega) (by simp only [lo, hi]; omega)) ?_) | (refine asked _ (ix_eq 0 (by omega) (by omega)) ?_) | refine asked _ (slice_ask (by omega) (by omega) (by omega)) ?_ | refine asked () ⟨by omega, by omega⟩ ?_); intro u; clear u) | (refine is_draw ?_; refine draw_step mixed (by kernel_rfl) ?_; intro u; clear u) | (refine is_scope ?_; refine scope_step ?_; intro u; clear u) | (refine is_call ?_; refine call_auto (w2) (lets_rfl rfl) (by exact ⟨⟨_, rfl, rfl, rfl⟩, trivial⟩) rfl ?_; intro u; clear u) | (refine is_dcall ?_; (first | refine dcall_auto (w10) (lets_rfl rfl) (by exact ⟨⟨_, rfl, rfl, rfl⟩, trivial⟩) rfl ?_ | refine dcall_auto (hk) (lets_rfl rfl) (by exact ⟨⟨_, rfl, rfl, rfl⟩, trivial⟩) rfl ?_); intro u; clear u))
    all_goals (refine con_end ?_ rfl; intro u; clear u; refine ⟨rfl, rfl, EntGoal.mk ?_ ?_⟩ <;> (repeat' (first | exact trivial | (with_reducible rfl) | apply And.intro | rfl)))
  · unfold kN hN at c5
    unfold hN at c3
    simp only [wN, Nat.reduceAdd] at c4 c5 c6
    have hk := ipcheck_con (l := l) (n := (l.getD 0 0 % 16 * 4).toNat) (by omega) (by omega) (by omega) hb
    have w2 := word_at (l := l) 2 (by omega) hb 3 rfl
    have w10 := word_at (l := l) 10 (by omega) hb 11 rfl
    have w6 := word_at (l := l) 6 (by omega) hb 7 rfl
    refine con_of_call2 rfl ?_
    refine call_inline Tryz.func118 rfl rfl ?_
    intro _
    repeat' (first | (refine is_split ?_; (first | refine sp_yes (by exact ndec_t (by omega)) ?_ | refine sp_no (by (first | exact dec_f (by omega) | exact ndec_f (by omega))) ?_) <;> (intro u; clear u)) | (refine is_asked ?_; (first | (refine is_spec ?_; (first | (refine asked _ (andNot14 (by omega)) ?_) | (with_reducible refine asked _ (sp_mul (by simp only [lo, hi]; omega) (by simp only [lo, hi]; omega)) ?_) | (refine is_op (op := .shr) ?_; refine asked _ (sp_shrL 4 16 (by decide) (by rfl) (by decide)) ?_) | (with_reducible refine asked _ (sp_maskL 4 16 (by decide) (by decide) (by decide) (by simp only [lo, hi]; omega)) ?_))) | (refine is_wrap ?_; refine asked _ (wrap_lohi (by simp only [lo, hi]; omega) (by simp only [lo, hi]; omega)) ?_) | (refine asked _ (ix_eq 0 (by omega) (by omega)) ?_) | refine asked _ (slice_ask (by omega) (by omega) (by omega)) ?_ | refine asked () ⟨by omega, by omega⟩ ?_); intro u; clear u) | (refine is_draw ?_; refine draw_step mixed (by kernel_rfl) ?_; intro u; clear u) | (refine is_scope ?_; refine scope_step ?_; intro u; clear u) | (refine is_call ?_; (first | refine call_auto (w2) (lets_rfl rfl) (by exact ⟨⟨_, rfl, rfl, rfl⟩, trivial⟩) rfl ?_ | refine call_auto (w6) (lets_rfl rfl) (by exact ⟨⟨_, rfl, rfl, rfl⟩, trivial⟩) rfl ?_); intro u; clear u) | (refine is_dcall ?_; (first | refine dcall_auto (w10) (lets_rfl rfl) (by exact ⟨⟨_, rfl, rfl, rfl⟩, trivial⟩) rfl ?_ | refine dcall_auto (hk) (lets_rfl rfl) (by exact ⟨⟨_, rfl, rfl, rfl⟩, trivial⟩) rfl ?_); intro u; clear u))
    all_goals (refine con_end ?_ rfl; intro u; clear u; refine ⟨rfl, rfl, EntGoal.mk ?_ ?_⟩ <;> (repeat' (first | exact trivial | (with_reducible rfl) | apply And.intro | rfl)))
  · unfold kN hN at c5
    unfold hN at c3
    simp only [wN, Nat.reduceAdd] at c4 c5 c6
    have hk := ipcheck_con (l := l) (n := (l.getD 0 0 % 16 * 4).toNat) (by omega) (by omega) (by omega) hb
    have hne : l ≠ [] := by intro e; subst e; simp at c1
    have k1 := clone_con (l := l) (off := 20) (n := (l.getD 0 0 % 16 * 4).toNat - 20) (by omega) hne (by omega)
    have k2 := clone_con (l := l) (off := 0 + (l.getD 0 0 % 16 * 4).toNat) (n := l.length - (l.getD 0 0 % 16 * 4).toNat) (by omega) hne (by omega)
    have w2 := word_at (l := l) 2 (by omega) hb 3 rfl
    have w10 := word_at (l := l) 10 (by omega) hb 11 rfl
    have w6 := word_at (l := l) 6 (by omega) hb 7 rfl
    have w4 := word_at (l := l) 4 (by omega) hb 5 rfl
    have w12 := word_at (l := l) 12 (by omega) hb 13 rfl
    have w14 := word_at (l := l) 14 (by omega) hb 15 rfl
    have w16 := word_at (l := l) 16 (by omega) hb 17 rfl
    have w18 := word_at (l := l) 18 (by omega) hb 19 rfl
    refine con_of_call2 rfl ?_
    refine call_inline Tryz.func118 rfl rfl ?_
    intro _
    repeat' (first | (refine is_split ?_; refine sp_no (by (first | exact dec_f (by omega) | exact ndec_f (by omega))) ?_ <;> (intro u; clear u)) | (refine is_asked ?_; (first | (refine is_spec ?_; (first | (refine asked _ (andNot14 (by omega)) ?_) | (with_reducible refine asked _ (sp_or 16 (by omega) (by simp only [lo, hi]; omega) (by omega) (by omega) (by omega) (by simp only [lo, hi]; omega)) ?_) | (with_reducible refine asked _ (sp_mul (by simp only [lo, hi]; omega) (by simp only [lo, hi]; omega)) ?_) | (refine is_op (op := .shr) ?_; refine asked _ (sp_shrL 4 16 (by decide) (by rfl) (by decide)) ?_) | (refine is_op (op := .shl) ?_; refine asked _ (sp_shlL 16 65536 (by decide) (by rfl) (by decide) (by simp only [lo, hi]; omega) (by simp only [lo, hi]; omega)) ?_) | (with_reducible refine asked _ (sp_maskL 4 16 (by decide) (by decide) (by decide) (by simp only [lo, hi]; omega)) ?_))) | (refine is_wrap ?_; refine asked _ (wrap_lohi (by simp only [lo, hi]; omega) (by simp only [lo, hi]; omega)) ?_) | (refine asked _ (ix_eq 0 (by omega) (by omega)) ?_) | (refine asked _ (ix_eq 1 (by omega) (by omega)) ?_) | (refine asked _ (ix_eq 8 (by omega) (by omega)) ?_) | (refine asked _ (ix_eq 9 (by omega) (by omega)) ?_) | refine asked _ (slice_ask (by omega) (by omega) (by omega)) ?_ | refine asked () ⟨by omega, by omega⟩ ?_); intro u; clear u) | (refine is_draw ?_; refine draw_step mixed (by kernel_rfl) ?_; intro u; clear u) | (refine is_scope ?_; refine scope_step ?_; intro u; clear u) | (refine is_call ?_; (first | refine call_auto (w2) (lets_rfl rfl) (by exact ⟨⟨_, rfl, rfl, rfl⟩, trivial⟩) rfl ?_ | refine call_auto (w6) (lets_rfl rfl) (by exact ⟨⟨_, rfl, rfl, rfl⟩, trivial⟩) rfl ?_); intro u; clear u) | (refine is_dcall ?_; (first | refine dcall_auto (k1) (lets_rfl rfl) (by exact ⟨⟨_, rfl, rfl, rfl⟩, trivial⟩) rfl ?_ | refine dcall_auto (k2) (lets_rfl rfl) (by exact ⟨⟨_, rfl, rfl, rfl⟩, trivial⟩) rfl ?_ | refine dcall_auto (w10) (lets_rfl rfl) (by exact ⟨⟨_, rfl, rfl, rfl⟩, trivial⟩) rfl ?_ | refine dcall_auto (w6) (lets_rfl rfl) (by exact ⟨⟨_, rfl, rfl, rfl⟩, trivial⟩) rfl ?_ | refine dcall_auto (w4) (lets_rfl rfl) (by exact ⟨⟨_, rfl, rfl, rfl⟩, trivial⟩) rfl ?_ | refine dcall_auto (w12) (lets_rfl rfl) (by exact ⟨⟨_, rfl, rfl, rfl⟩, trivial⟩) rfl ?_ | refine dcall_auto (w14) (lets_rfl rfl) (by exact ⟨⟨_, rfl, rfl, rfl⟩, trivial⟩) rfl ?_ | refine dcall_auto (w16) (lets_rfl rfl) (by exact ⟨⟨_, rfl, rfl, rfl⟩, trivial⟩) rfl ?_ | refine dcall_auto (w18) (lets_rfl rfl) (by exact ⟨⟨_, rfl, rfl, rfl⟩, trivial⟩) rfl ?_ | refine dcall_auto (hk) (lets_rfl rfl) (by exact ⟨⟨_, rfl, rfl, rfl⟩, trivial⟩) rfl ?_); intro u; clear u))
    all_goals (refine con_end ?_ rfl; intro u; clear u; refine ⟨rfl, rfl, EntGoal.mk ?_ ?_⟩ <;> (repeat' (first | exact trivial | (with_reducible rfl) | apply And.intro | rfl)))
    all_goals first
      | (simp [readS, hN]; done)
      | (simp only [readS, hN, List.length_take, List.length_drop]; omega)
      | (rw [Nat.zero_add, List.take_of_length_le (by simp)]; rfl)
end Go.Proofs.S14.I2

namespace Go.Proofs.S14.I2
open Go Go.SE
set_option maxRecDepth 100000
set_option maxHeartbeats 4000000
attribute [local irreducible] specI

theorem num2_at {l : List Int} (off : Nat) (ho : off + 2 ≤ l.length) (hb : ∀ x ∈ l, 0 ≤ x ∧ x ≤ 255) (off1 : Nat) (h1 : off1 = off + 1) : CallCon Tryz.prog 65 [.one (.sl 0 off 2)] [.row (ints .u8 l) 1 5 false] (.t (.one (.v (.int .i64 (l.getD off 0 * 256 + l.getD off1 0))))) [] := by
  subst h1
  exact number2_con ho hb
theorem num4_at {l : List Int} (off : Nat) (ho : off + 4 ≤ l.length) (hb : ∀ x ∈ l, 0 ≤ x ∧ x ≤ 255) (off1 off2 off3 : Nat) (h1 : off1 = off + 1) (h2 : off2 = off + 2) (h3 : off3 = off + 3) : CallCon Tryz.prog 65 [.one (.sl 0 off 4)] [.row (ints .u8 l) 1 5 false] (.t (.one (.v (.int .i64 ((l.getD off 0 * 256 + l.getD off1 0) * 65536 + (l.getD off2 0 * 256 + l.getD off3 0)))))) [] := by
  subst h1; subst h2; subst h3
  exact number4_con ho hb
theorem refparse_con {l : List Int} (hb : ∀ x ∈ l, 0 ≤ x ∧ x ≤ 255) (hl : l.length ≤ 4000) :
    CallCon Tryz.prog 32 [.one (.sl 0 0 l.length)] [.row (ints .u8 l) 1 5 false] (.tup [hdT (parseS l) 0 1, .one (.v (.int .u8 (parseE l)))]) [.row (ints .u8 (parseS l).opts) 1 5 true, .row (ints .u8 (parseS l).pay) 1 5 true] := by
  have g0 := getD_bd hb (by decide) 0
  have g1 := getD_bd hb (by decide) 1
  have g2 := getD_bd hb (by decide) 2
  have g3 := getD_bd hb (by decide) 3
  have g4 := getD_bd hb (by decide) 4
  have g5 := getD_bd hb (by decide) 5
  have g10 := getD_bd hb (by decide) 10
  have g11 := getD_bd hb (by decide) 11
  have g6 := getD_bd hb (by decide) 6
  have g7 := getD_bd hb (by decide) 7
  have g8 := getD_bd hb (by decide) 8
  have g9 := getD_bd hb (by decide) 9
  have g12 := getD_bd hb (by decide) 12
  have g13 := getD_bd hb (by decide) 13
  have g14 := getD_bd hb (by decide) 14
  have g15 := getD_bd hb (by decide) 15
  have g16 := getD_bd hb (by decide) 16
  have g17 := getD_bd hb (by decide) 17
  have g18 := getD_bd hb (by decide) 18
  have g19 := getD_bd hb (by decide) 19
  rcases parse_cases l with ⟨e1, e2, c1⟩ | ⟨e1, e2, c1, c2⟩ | ⟨e1, e2, c1, c2, c3⟩ | ⟨e1, e2, c1, c2, c3, c4⟩ | ⟨e1, e2, c1, c2, c3, c4, c5⟩ | ⟨e1, e2, c1, c2, c3, c4, c5, c6⟩ | ⟨e1, e2, c1, c2, c3, c4, c5, c6⟩ <;> rw [e1, e2]
  · refine con_of_call2 rfl ?_
    refine call_inline Tryz.func32 rfl rfl ?_
    intro _
    repeat' (refine is_split ?_; refine sp_yes (by exact dec_t (by omega)) ?_ <;> (intro u; clear u))
    all_goals (refine con_end ?_ rfl; intro u; clear u; refine ⟨rfl, rfl, EntGoal.mk ?_ ?_⟩ <;> (repeat' (first | exact trivial | (with_reducible rfl) | apply And.intro | rfl)))
  · refine con_of_call2 rfl ?_
    refine call_inline Tryz.func32 rfl rfl ?_
    intro _
    repeat' (first | (refine is_split ?_; (first | refine sp_yes (by exact ndec_t (by omega)) ?_ | refine sp_no (by exact dec_f (by omega)) ?_) <;> (intro u; clear u)) | (refine is_asked ?_; (first | (refine is_spec ?_; (first | (refine asked _ (sp_rem (by omega) (by omega)) ?_) | (refine asked _ (sp_quo (by omega) (by omega) (by simp only [lo, hi]; omega)) ?_) | (with_reducible refine asked _ (sp_mul (by simp only [lo, hi]; omega) (by simp only [lo, hi]; omega)) ?_))) | (refine is_wrap ?_; refine asked _ (wrap_lohi (by simp only [lo, hi]; omega) (by simp only [lo, hi]; omega)) ?_) | (refine asked _ (ix_eq 0 (by omega) (by omega)) ?_) | refine asked () ⟨by omega, by omega⟩ ?_); intro u; clear u))
    all_goals (refine con_end ?_ rfl; intro u; clear u; refine ⟨rfl, rfl, EntGoal.mk ?_ ?_⟩ <;> (repeat' (first | exact trivial | (with_reducible rfl) | apply And.intro | rfl)))
  · unfold hN at c3
    refine con_of_call2 rfl ?_
    refine call_inline Tryz.func32 rfl rfl ?_
    intro _
    repeat' (first | (refine is_split ?_; (first | refine sp_yes (by exact dec_t (by omega)) ?_ | refine sp_no (by (first | exact dec_f (by omega) | exact ndec_f (by omega))) ?_ | refine sp_dec (fun g => ?_) (fun g => ?_)) <;> (intro u; clear u)) | (refine is_asked ?_; (first | (refine is_spec ?_; (first | (refine asked _ (sp_rem (by omega) (by omega)) ?_) | (refine asked _ (sp_quo (by omega) (by omega) (by simp only [lo, hi]; omega)) ?_) | (with_reducible refine asked _ (sp_mul (by simp only [lo, hi]; omega) (by simp only [lo, hi]; omega)) ?_))) | (refine is_wrap ?_; refine asked _ (wrap_lohi (by simp only [lo, hi]; omega) (by simp only [lo, hi]; omega)) ?_) | (refine asked _ (ix_eq 0 (by omega) (by omega)) ?_) | refine asked () ⟨by omega, by omega⟩ ?_); intro u; clear u))
    all_goals (refine con_end ?_ rfl; intro u; clear u; refine ⟨rfl, rfl, EntGoal.mk ?_ ?_⟩ <;> (repeat' (first | exact trivial | (with_reducible rfl) | apply And.intro | rfl)))
  · unfold hN at c3
    simp only [wN, Nat.reduceAdd] at c4
    have n2 := num2_at (l := l) 2 (by omega) hb 3 rfl
    refine con_of_call2 rfl ?_
    refine call_inline Tryz.func32 rfl rfl ?_
    intro _
    repeat' (first | (refine is_split ?_; (first | refine sp_yes (by exact ndec_t (by omega)) ?_ | refine sp_no (by (first | exact dec_f (by omega) | exact ndec_f (by omega))) ?_) <;> (intro u; clear u)) | (refine is_asked ?_; (first | (refine is_spec ?_; (first | (refine asked _ (sp_rem (by omega) (by omega)) ?_) | (refine asked _ (sp_quo (by omega) (by omega) (by simp only [lo, hi]; omega)) ?_) | (with_reducible refine asked _ (sp_mul (by simp only [lo, hi]; omega) (by simp only [lo, hi]; omega)) ?_))) | (refine is_wrap ?_; refine asked _ (wrap_lohi (by simp only [lo, hi]; omega) (by simp only [lo, hi]; omega)) ?_) | (refine asked _ (ix_eq 0 (by omega) (by omega)) ?_) | refine asked _ (slice_ask (by omega) (by omega) (by omega)) ?_ | refine asked () ⟨by omega, by omega⟩ ?_); intro u; clear u) | (refine is_call ?_; refine call_auto (n2) (lets_rfl rfl) (by exact ⟨⟨_, rfl, rfl, rfl⟩, trivial⟩) rfl ?_; intro u; clear u))
    all_goals (refine con_end ?_ rfl; intro u; clear u; refine ⟨rfl, rfl, EntGoal.mk ?_ ?_⟩ <;> (repeat' (first | exact trivial | (with_reducible rfl) | apply And.intro | rfl)))
  · unfold kN hN at c5
    unfold hN at c3
    simp only [wN, Nat.reduceAdd] at c4 c5
    have hk := refipcheck_con (l := l) (n := (l.getD 0 0 % 16 * 4).toNat) (by omega) (by omega) (by omega) hb
    have n2 := num2_at (l := l) 2 (by omega) hb 3 rfl
    have n10 := num2_at (l := l) 10 (by omega) hb 11 rfl
    refine con_of_call2 rfl ?_
    refine call_inline Tryz.func32 rfl rfl ?_
    intro _
    repeat' (first | (refine is_split ?_; (first | refine sp_yes (by exact ndec_t (by omega)) ?_ | refine sp_no (by (first | exact dec_f (by omega) | exact ndec_f (by omega))) ?_) <;> (intro u; clear u)) | (refine is_asked ?_; (first | (refine is_spec ?_; (first | (refine asked _ (sp_rem (by omega) (by omega)) ?_) | (refine asked _ (sp_quo (by omega) (by omega) (by simp only [lo, hi]; omega)) ?_) | (with_reducible refine asked _ (sp_mul (by simp only [lo, hi]; omega) (by simp only [lo, hi]; omega)) ?_))) | (refine is_wrap ?_; refine asked _ (wrap_lohi (by simp only [lo, hi]; omega) (by simp only [lo, hi]; omega)) ?_) | (refine asked _ (ix_eq 0 (by omega) (by omega)) ?_) | refine asked _ (slice_ask (by omega) (by omega) (by omega)) ?_ | refine asked () ⟨by omega, by omega⟩ ?_); intro u; clear u) | (refine is_draw ?_; refine draw_step mixed (by kernel_rfl) ?_; intro u; clear u) | (refine is_call ?_; refine call_auto (n2) (lets_rfl rfl) (by exact ⟨⟨_, rfl, rfl, rfl⟩, trivial⟩) rfl ?_; intro u; clear u) | (refine is_dcall ?_; (first | refine dcall_auto (n10) (lets_rfl rfl) (by exact ⟨⟨_, rfl, rfl, rfl⟩, trivial⟩) rfl ?_ | refine dcall_auto (hk) (lets_rfl rfl) (by exact ⟨⟨_, rfl, rfl, rfl⟩, trivial⟩) rfl ?_); intro u; clear u))
    all_goals (refine con_end ?_ rfl; intro u; clear u; refine ⟨rfl, rfl, EntGoal.mk ?_ ?_⟩ <;> (repeat' (first | exact trivial | (with_reducible rfl) | apply And.intro | rfl)))
  · unfold kN hN at c5
    unfold hN at c3
    simp only [wN, Nat.reduceAdd] at c4 c5 c6
    have hk := refipcheck_con (l := l) (n := (l.getD 0 0 % 16 * 4).toNat) (by omega) (by omega) (by omega) hb
    have n2 := num2_at (l := l) 2 (by omega) hb 3 rfl
    have n10 := num2_at (l := l) 10 (by omega) hb 11 rfl
    have n6 := num2_at (l := l) 6 (by omega) hb 7 rfl
    refine con_of_call2 rfl ?_
    refine call_inline Tryz.func32 rfl rfl ?_
    intro _
    repeat' (first | (refine is_split ?_; (first | refine sp_yes (by exact ndec_t (by omega)) ?_ | refine sp_no (by (first | exact dec_f (by omega) | exact ndec_f (by omega))) ?_) <;> (intro u; clear u)) | (refine is_asked ?_; (first | (refine is_spec ?_; (first | (refine asked _ (sp_rem (by omega) (by omega)) ?_) | (refine asked _ (sp_quo (by omega) (by omega) (by simp only [lo, hi]; omega)) ?_) | (with_reducible refine asked _ (sp_mul (by simp only [lo, hi]; omega) (by simp only [lo, hi]; omega)) ?_))) | (refine is_wrap ?_; refine asked _ (wrap_lohi (by simp only [lo, hi]; omega) (by simp only [lo, hi]; omega)) ?_) | (refine asked _ (ix_eq 0 (by omega) (by omega)) ?_) | refine asked _ (slice_ask (by omega) (by omega) (by omega)) ?_ | refine asked () ⟨by omega, by omega⟩ ?_); intro u; clear u) | (refine is_draw ?_; refine draw_step mixed (by kernel_rfl) ?_; intro u; clear u) | (refine is_call ?_; (first | refine call_auto (n2) (lets_rfl rfl) (by exact ⟨⟨_, rfl, rfl, rfl⟩, trivial⟩) rfl ?_ | refine call_auto (n6) (lets_rfl rfl) (by exact ⟨⟨_, rfl, rfl, rfl⟩, trivial⟩) rfl ?_); intro u; clear u) | (refine is_dcall ?_; (first | refine dcall_auto (n10) (lets_rfl rfl) (by exact ⟨⟨_, rfl, rfl, rfl⟩, trivial⟩) rfl ?_ | refine dcall_auto (hk) (lets_rfl rfl) (by exact ⟨⟨_, rfl, rfl, rfl⟩, trivial⟩) rfl ?_); intro u; clear u))
    all_goals (refine con_end ?_ rfl; intro u; clear u; refine ⟨rfl, rfl, EntGoal.mk ?_ ?_⟩ <;> (repeat' (first | exact trivial | (with_reducible rfl) | apply And.intro | rfl)))
  · unfold kN hN at c5
    unfold hN at c3
    simp only [wN, Nat.reduceAdd] at c4 c5 c6
    have hk := refipcheck_con (l := l) (n := (l.getD 0 0 % 16 * 4).toNat) (by omega) (by omega) (by omega) hb
    have hne : l ≠ [] := by intro e; subst e; simp at c1
    have n2 := num2_at (l := l) 2 (by omega) hb 3 rfl
    have n10 := num2_at (l := l) 10 (by omega) hb 11 rfl
    have n6 := num2_at (l := l) 6 (by omega) hb 7 rfl
    have n4 := num2_at (l := l) 4 (by omega) hb 5 rfl
    have m12 := num4_at (l := l) 12 (by omega) hb 13 14 15 rfl rfl rfl
    have m16 := num4_at (l := l) 16 (by omega) hb 17 18 19 rfl rfl rfl
    refine con_of_call2 rfl ?_
    refine call_inline Tryz.func32 rfl rfl ?_
    intro _
    repeat' (first | (refine is_split ?_; (first | refine sp_no (by (first | exact dec_f (by omega) | exact ndec_f (by omega))) ?_ | refine sp_ndec (fun g => ?_) (fun g => ?_)) <;> (intro u; clear u)) | (refine is_asked ?_; (first | (refine is_spec ?_; (first | (refine asked _ (sp_rem (by omega) (by omega)) ?_) | (refine asked _ (sp_quo (by omega) (by omega) (by simp only [lo, hi]; omega)) ?_) | (with_reducible refine asked _ (sp_mul (by simp only [lo, hi]; omega) (by simp only [lo, hi]; omega)) ?_))) | (refine is_wrap ?_; refine asked _ (wrap_lohi (by simp only [lo, hi]; omega) (by simp only [lo, hi]; omega)) ?_) | (refine asked _ (ix_eq 0 (by omega) (by omega)) ?_) | (refine asked _ (ix_eq 1 (by omega) (by omega)) ?_) | (refine asked _ (ix_eq 8 (by omega) (by omega)) ?_) | (refine asked _ (ix_eq 9 (by omega) (by omega)) ?_) | (refine asked (ints .u8 ((l.drop 20).take ((l.getD 0 0 % 16 * 4).toNat - 20))) ⟨by rw [ints_view]; rfl, rfl, by rw [ints_view, ints_length, List.length_take, List.length_drop]; show _ = _ * 1; simp only; omega, by unfold maxLen; simp only; omega, by show _ * 1 ≤ _; simp only; omega⟩ ?_) | (refine asked (ints .u8 ((l.drop (0 + (l.getD 0 0 % 16 * 4).toNat)).take (l.length - (l.getD 0 0 % 16 * 4).toNat))) ⟨by rw [ints_view]; rfl, rfl, by rw [ints_view, ints_length, List.length_take, List.length_drop]; show _ = _ * 1; simp only; omega, by unfold maxLen; simp only; omega, by show _ * 1 ≤ _; simp only; omega⟩ ?_) | refine asked _ (slice_ask (by omega) (by omega) (by omega)) ?_ | refine asked () ⟨by omega, by omega⟩ ?_); intro u; clear u) | (refine is_draw ?_; refine draw_step mixed (by kernel_rfl) ?_; intro u; clear u) | (refine is_call ?_; (first | refine call_auto (n2) (lets_rfl rfl) (by exact ⟨⟨_, rfl, rfl, rfl⟩, trivial⟩) rfl ?_ | refine call_auto (n6) (lets_rfl rfl) (by exact ⟨⟨_, rfl, rfl, rfl⟩, trivial⟩) rfl ?_); intro u; clear u) | (refine is_dcall ?_; (first | refine dcall_auto (n10) (lets_rfl rfl) (by exact ⟨⟨_, rfl, rfl, rfl⟩, trivial⟩) rfl ?_ | refine dcall_auto (n6) (lets_rfl rfl) (by exact ⟨⟨_, rfl, rfl, rfl⟩, trivial⟩) rfl ?_ | refine dcall_auto (n4) (lets_rfl rfl) (by exact ⟨⟨_, rfl, rfl, rfl⟩, trivial⟩) rfl ?_ | refine dcall_auto (m12) (lets_rfl rfl) (by exact ⟨⟨_, rfl, rfl, rfl⟩, trivial⟩) rfl ?_ | refine dcall_auto (m16) (lets_rfl rfl) (by exact ⟨⟨_, rfl, rfl, rfl⟩, trivial⟩) rfl ?_ | refine dcall_auto (hk) (lets_rfl rfl) (by exact ⟨⟨_, rfl, rfl, rfl⟩, trivial⟩) rfl ?_); intro u; clear u))
    all_goals (refine con_end ?_ rfl; intro u; clear u; refine ⟨rfl, rfl, EntGoal.mk ?_ ?_⟩ <;> (repeat' (first | exact trivial | (with_reducible rfl) | apply And.intro | rfl)))
    all_goals first
      | (simp [readS, hN]; done)
      | (simp only [readS, hN, List.length_take, List.length_drop]; omega)
      | (rw [Nat.zero_add, List.take_of_length_le (by simp)]; rfl)
end Go.Proofs.S14.I2

namespace Go.Proofs.S14.I2
open Go Go.SE
set_option maxRecDepth 100000
set_option maxHeartbeats 4000000

theorem consx (l : List Int) (h : 1 ≤ l.length) : ∃ a r, l = a :: r := by
  cases l with
  | nil => simp at h
  | cons a r => exact ⟨a, r, rfl⟩
theorem len20 {l : List Int} (h : 20 ≤ l.length) : ∃ a0 a1 a2 a3 a4 a5 a6 a7 a8 a9 a10 a11 a12 a13 a14 a15 a16 a17 a18 a19 r, l = a0 :: a1 :: a2 :: a3 :: a4 :: a5 :: a6 :: a7 :: a8 :: a9 :: a10 :: a11 :: a12 :: a13 :: a14 :: a15 :: a16 :: a17 :: a18 :: a19 :: r := by
  obtain ⟨a0, l1, rfl⟩ := consx l (by omega)
  replace h : 19 ≤ l1.length := by simp only [List.length_cons] at h; omega
  obtain ⟨a1, l2, rfl⟩ := consx l1 (by omega)
  replace h : 18 ≤ l2.length := by simp only [List.length_cons] at h; omega
  obtain ⟨a2, l3, rfl⟩ := consx l2 (by omega)
  replace h : 17 ≤ l3.length := by simp only [List.length_cons] at h; omega
  obtain ⟨a3, l4, rfl⟩ := consx l3 (by omega)
  replace h : 16 ≤ l4.length := by simp only [List.length_cons] at h; omega
  obtain ⟨a4, l5, rfl⟩ := consx l4 (by omega)
  replace h : 15 ≤ l5.length := by simp only [List.length_cons] at h; omega
  obtain ⟨a5, l6, rfl⟩ := consx l5 (by omega)
  replace h : 14 ≤ l6.length := by simp only [List.length_cons] at h; omega
  obtain ⟨a6, l7, rfl⟩ := consx l6 (by omega)
  replace h : 13 ≤ l7.length := by simp only [List.length_cons] at h; omega
  obtain ⟨a7, l8, rfl⟩ := consx l7 (by omega)
  replace h : 12 ≤ l8.length := by simp only [List.length_cons] at h; omega
  obtain ⟨a8, l9, rfl⟩ := consx l8 (by omega)
  replace h : 11 ≤ l9.length := by simp only [List.length_cons] at h; omega
  obtain ⟨a9, l10, rfl⟩ := consx l9 (by omega)
  replace h : 10 ≤ l10.length := by simp only [List.length_cons] at h; omega
  obtain ⟨a10, l11, rfl⟩ := consx l10 (by omega)
  replace h : 9 ≤ l11.length := by simp only [List.length_cons] at h; omega
  obtain ⟨a11, l12, rfl⟩ := consx l11 (by omega)
  replace h : 8 ≤ l12.length := by simp only [List.length_cons] at h; omega
  obtain ⟨a12, l13, rfl⟩ := consx l12 (by omega)
  replace h : 7 ≤ l13.length := by simp only [List.length_cons] at h; omega
  obtain ⟨a13, l14, rfl⟩ := consx l13 (by omega)
  replace h : 6 ≤ l14.length := by simp only [List.length_cons] at h; omega
  obtain ⟨a14, l15, rfl⟩ := consx l14 (by omega)
  replace h : 5 ≤ l15.length := by simp only [List.length_cons] at h; omega
  obtain ⟨a15, l16, rfl⟩ := consx l15 (by omega)
  replace h : 4 ≤ l16.length := by simp only [List.length_cons] at h; omega
  obtain ⟨a16, l17, rfl⟩ := consx l16 (by omega)
  replace h : 3 ≤ l17.length := by simp only [List.length_cons] at h; omega
  obtain ⟨a17, l18, rfl⟩ := consx l17 (by omega)
  replace h : 2 ≤ l18.length := by simp only [List.length_cons] at h; omega
  obtain ⟨a18, l19, rfl⟩ := consx l18 (by omega)
  replace h : 1 ≤ l19.length := by simp only [List.length_cons] at h; omega
  obtain ⟨a19, l20, rfl⟩ := consx l19 (by omega)
  replace h : 0 ≤ l20.length := by simp only [List.length_cons] at h; omega
  exact ⟨a0, a1, a2, a3, a4, a5, a6, a7, a8, a9, a10, a11, a12, a13, a14, a15, a16, a17, a18, a19, l20, rfl⟩

def sumT (l : List Int) : Int := total (words l)
theorem sumT_set : ∀ (l : List Int) (i : Nat) (x : Int), i < l.length → sumT (l.set i x) = sumT l + (x - l.getD i 0) * (if i % 2 = 0 then 256 else 1)
  | [], i, x, h => by simp at h
  | [a], 0, x, _ => by simp [sumT, words, total]; omega
  | [a], i + 1, x, h => by simp at h
  | a :: b :: r, 0, x, _ => by simp [sumT, words, total]; omega
  | a :: b :: r, 1, x, _ => by simp [sumT, words, total]; omega
  | a :: b :: r, i + 2, x, h => by
    have := sumT_set r i x (by simpa using h)
    have e : (i + 2) % 2 = i % 2 := by omega
    simp only [sumT] at this
    simp only [List.set_cons_succ, sumT, words, total, List.getD_cons_succ, e, this]
    omega
theorem sumT_pos {l : List Int} (hb : ∀ x ∈ l, 0 ≤ x ∧ x ≤ 255) : 0 ≤ sumT l := total_bd (words_bd hb).1
theorem sumW_eq (l : List Int) : sumW l = fold (sumT l) := rfl

theorem sumT_zero {l : List Int} (h : 12 ≤ l.length) : sumT (zeroK l) + wN l 10 = sumT l := by
  unfold zeroK
  rw [sumT_set _ 11 0 (by rw [List.length_set]; omega), sumT_set _ 10 0 (by omega)]
  have e : (l.set 10 0).getD 11 0 = l.getD 11 0 := by simp [List.getD_eq_getElem?_getD]
  rw [e]
  simp only [wN, Nat.reduceAdd]
  try simp only [Nat.reduceMod, Nat.one_ne_zero, if_false, if_true]
  omega
theorem zero_pos {l : List Int} (h : 12 ≤ l.length) (hb : ∀ x ∈ l, 0 ≤ x ∧ x ≤ 255) (h0 : 1 ≤ l.getD 0 0) : 1 ≤ sumT (zeroK l) := by
  match l, h with
  | a :: b :: r, h =>
    have h1 : 1 ≤ a := h0
    have hz := zeroK_bd hb
    have e : zeroK (a :: b :: r) = a :: b :: ((r.set 8 0).set 9 0) := rfl
    rw [e] at hz ⊢
    have h2 := sumT_pos (l := (r.set 8 0).set 9 0) fun x hx => hz x (by simp [hx])
    have h3 := (hz b (by simp)).1
    simp only [sumT, words, total] at h2 ⊢
    omega
/-- Where the check is right, the sum of all words is 0 in ones' complement. -/
theorem hd_sum {h : List Int} (hl : 12 ≤ h.length) (hb : ∀ x ∈ h, 0 ≤ x ∧ x ≤ 255) (h0 : 1 ≤ h.getD 0 0) (hk : wN h 10 = 65535 - sumW (zeroK h)) : sumT h % 65535 = 0 ∧ sumW h = 65535 := by
  have h1 := sumT_zero hl
  have h2 := zero_pos hl hb h0
  rw [sumW_eq] at hk ⊢
  have h3 : fold (sumT (zeroK h)) = (sumT (zeroK h) - 1) % 65535 + 1 := by unfold fold; rw [if_neg (by omega)]
  rw [h3] at hk
  have h4 : sumT h % 65535 = 0 := by omega
  refine ⟨h4, ?_⟩
  unfold fold
  have : 0 < sumT h := by omega
  rw [if_neg (by omega)]
  omega
/-- With one byte changed it is not right. -/
theorem hd_set {h : List Int} {i : Nat} {x : Int} (hl : 12 ≤ h.length) (hb : ∀ x ∈ h, 0 ≤ x ∧ x ≤ 255) (h0 : 1 ≤ h.getD 0 0) (hi : 1 ≤ i ∧ i < h.length) (hx : 0 ≤ x ∧ x ≤ 255) (hne : x ≠ h.getD i 0) (hk : wN h 10 = 65535 - sumW (zeroK h)) : ¬ wN (h.set i x) 10 = 65535 - sumW (zeroK (h.set i x)) := by
  intro hk2
  have h1 := (hd_sum hl hb h0 hk).1
  have hg := getD_bd hb (by decide) i
  have e0 : (h.set i x).getD 0 0 = h.getD 0 0 := by
    rw [List.getD_eq_getElem?_getD, List.getElem?_set_ne (by omega), ← List.getD_eq_getElem?_getD]
  have h2 := (hd_sum (h := h.set i x) (by rw [List.length_set]; exact hl) (mem_set hb hx) (by rw [e0]; exact h0) hk2).1
  rw [sumT_set h i x hi.2] at h2
  generalize sumT h = s at *
  split at h2 <;> omega

theorem take_head {t : Hd} {k : Int} : (headL t k ++ t.pay).take (20 + t.opts.length) = headL t k := by
  rw [← head_len (t := t) (k := k), List.take_left]
theorem zero_head {t : Hd} {k : Int} : zeroK (headL t k) = headL t 0 := rfl
theorem hN_head {t : Hd} {k : Int} (hok : okHd t) : hN (headL t k ++ t.pay) = 20 + t.opts.length := by
  show (69 + (t.opts.length : Int) / 4) % 16 * 4 = _
  unfold okHd at hok; omega
theorem put_parse {t : Hd} (h : t.Wf) (hok : okHd t) : parseE (putL t) = 0 ∧ parseS (putL t) = t := by
  have e : putL t = headL t (putK t) ++ t.pay := by simp [putL, hok]
  have hk := putK_bd h hok
  have hh := hN_head (k := putK t) hok
  have hlen : (headL t (putK t) ++ t.pay).length = 20 + t.opts.length + t.pay.length := by rw [List.length_append, head_len]
  have hkn : kN (headL t (putK t) ++ t.pay) = putK t := by
    unfold kN
    rw [hh, show ((20 : Int) + t.opts.length).toNat = 20 + t.opts.length by omega, take_head, zero_head]; rfl
  rw [e]
  generalize putK t = k at *
  obtain ⟨⟨h1, h2, h3, h4, h5, h6, h7, h8, h9⟩, h10, h11⟩ := h
  have hok' := hok
  unfold okHd at hok
  have w2 : wN (headL t k ++ t.pay) 2 = 20 + t.opts.length + t.pay.length := by
    show (20 + t.opts.length + t.pay.length : Int) / 256 * 256 + (20 + t.opts.length + t.pay.length : Int) % 256 = _
    omega
  have w10 : wN (headL t k ++ t.pay) 10 = k := by
    show k / 256 * 256 + k % 256 = k
    omega
  have w6 : wN (headL t k ++ t.pay) 6 = t.flags := by
    show t.flags / 256 * 256 + t.flags % 256 = t.flags
    omega
  have g0 : (headL t k ++ t.pay).getD 0 0 / 16 = 4 := by
    show (69 + (t.opts.length : Int) / 4) / 16 = 4
    omega
  have hE : parseE (headL t k ++ t.pay) = 0 := by
    unfold parseE
    rw [if_neg (by omega), if_neg (fun hn => hn g0), if_neg (by rw [hh, hlen]; omega), if_neg (fun hn => hn (by rw [w2, hlen]; omega)), if_neg (fun hn => hn (by rw [w10, hkn])), if_neg (fun hn => hn (by rw [w6]; omega))]
  refine ⟨hE, ?_⟩
  unfold parseS
  rw [if_pos hE]
  unfold readS
  rw [hh, show ((20 : Int) + t.opts.length).toNat = 20 + t.opts.length by omega]
  have o1 : ((headL t k ++ t.pay).drop 20).take (20 + t.opts.length - 20) = t.opts := by
    show (t.opts ++ t.pay).take (20 + t.opts.length - 20) = t.opts
    rw [Nat.add_sub_cancel_left, List.take_left]
  have o2 : (headL t k ++ t.pay).drop (20 + t.opts.length) = t.pay := by
    rw [← head_len (t := t) (k := k), List.drop_left]
  rw [o1, o2, w6]
  have w4 : wN (headL t k ++ t.pay) 4 = t.number := by
    show t.number / 256 * 256 + t.number % 256 = _
    omega
  have s1 : wN (headL t k ++ t.pay) 12 * 65536 + wN (headL t k ++ t.pay) 14 = t.src := by
    show (t.src / 65536 / 256 * 256 + t.src / 65536 % 256) * 65536 + (t.src % 65536 / 256 * 256 + t.src % 65536 % 256) = _
    omega
  have s2 : wN (headL t k ++ t.pay) 16 * 65536 + wN (headL t k ++ t.pay) 18 = t.dst := by
    show (t.dst / 65536 / 256 * 256 + t.dst / 65536 % 256) * 65536 + (t.dst % 65536 / 256 * 256 + t.dst % 65536 % 256) = _
    omega
  rw [w4, s1, s2]
  rfl
theorem put_bytes {t : Hd} (h : t.Wf) : ∀ x ∈ putL t, 0 ≤ x ∧ x ≤ 255 := by
  unfold putL
  split
  · rename_i hok
    intro x hx
    rcases List.mem_append.mp hx with hx | hx
    · exact head_bytes h hok (putK_bd h hok) x hx
    · exact h.pay x hx
  · simp
theorem put_len {t : Hd} : (putL t).length = if okHd t then 20 + t.opts.length + t.pay.length else 0 := by
  unfold putL
  split
  · rw [List.length_append, head_len]
  · rfl
theorem zero_wf : zeroHd.Wf := ⟨⟨by decide, by decide, by decide, by decide, by decide, by decide, by decide, by simp [zeroHd], by simp [zeroHd]⟩, by decide, by decide⟩
theorem parse_wf {l : List Int} (hb : ∀ x ∈ l, 0 ≤ x ∧ x ≤ 255) (hl : l.length ≤ 4000) : (parseS l).Wf := by
  unfold parseS
  split
  · have g := fun i => getD_bd hb (by decide) i
    refine ⟨⟨g 1, ?_, ?_, g 8, g 9, ?_, ?_, fun x hx => hb x (List.mem_of_mem_drop (List.mem_of_mem_take hx)), fun x hx => hb x (List.mem_of_mem_drop hx)⟩, ?_, ?_⟩
    · have := g 4; have := g (4 + 1); simp only [readS, wN]; omega
    · have := g 6; have := g (6 + 1); simp only [readS, wN]; omega
    · have := g 12; have := g (12 + 1); have := g 14; have := g (14 + 1); simp only [readS, wN]; omega
    · have := g 16; have := g (16 + 1); have := g 18; have := g (18 + 1); simp only [readS, wN]; omega
    · simp only [readS, List.length_take, List.length_drop]; omega
    · simp only [readS, List.length_drop]; omega
  · exact zero_wf
theorem parse_back {l : List Int} (hb : ∀ x ∈ l, 0 ≤ x ∧ x ≤ 255) (hl : l.length ≤ 4000) (hE : parseE l = 0) : okHd (parseS l) ∧ putL (parseS l) = l := by
  have hS : parseS l = readS l := by unfold parseS; rw [if_pos hE]
  rcases parse_cases l with ⟨e, _⟩ | ⟨e, _⟩ | ⟨e, _⟩ | ⟨e, _⟩ | ⟨e, _⟩ | ⟨e, _⟩ | ⟨_, _, c1, c2, c3, c4, c5, c6⟩
  all_goals first | (rw [hE] at e; exact absurd e (by decide)) | skip
  rw [hS]
  obtain ⟨a0, a1, a2, a3, a4, a5, a6, a7, a8, a9, a10, a11, a12, a13, a14, a15, a16, a17, a18, a19, r, rfl⟩ := len20 c1
  have hb0 := hb a0 (by simp)
  have hb1 := hb a1 (by simp)
  have hb2 := hb a2 (by simp)
  have hb3 := hb a3 (by simp)
  have hb4 := hb a4 (by simp)
  have hb5 := hb a5 (by simp)
  have hb6 := hb a6 (by simp)
  have hb7 := hb a7 (by simp)
  have hb10 := hb a10 (by simp)
  have hb11 := hb a11 (by simp)
  have hb12 := hb a12 (by simp)
  have hb13 := hb a13 (by simp)
  have hb14 := hb a14 (by simp)
  have hb15 := hb a15 (by simp)
  have hb16 := hb a16 (by simp)
  have hb17 := hb a17 (by simp)
  have hb18 := hb a18 (by simp)
  have hb19 := hb a19 (by simp)
  change a0 / 16 = 4 at c2
  change 20 ≤ a0 % 16 * 4 ∧ a0 % 16 * 4 ≤ _ at c3
  change a2 * 256 + a3 = _ at c4
  change a6 * 256 + a7 = 0 ∨ a6 * 256 + a7 = 16384 at c6
  have c5' : a10 * 256 + a11 = kN (a0 :: a1 :: a2 :: a3 :: a4 :: a5 :: a6 :: a7 :: a8 :: a9 :: a10 :: a11 :: a12 :: a13 :: a14 :: a15 :: a16 :: a17 :: a18 :: a19 :: r) := c5
  obtain ⟨n, hn⟩ : ∃ n : Nat, a0 % 16 * 4 = 20 + n := ⟨(a0 % 16 * 4).toNat - 20, by omega⟩
  have hlr : (a0 :: a1 :: a2 :: a3 :: a4 :: a5 :: a6 :: a7 :: a8 :: a9 :: a10 :: a11 :: a12 :: a13 :: a14 :: a15 :: a16 :: a17 :: a18 :: a19 :: r).length = 20 + r.length := by simp only [List.length_cons]; omega
  rw [hlr] at c3 c4 hl
  have hread : readS (a0 :: a1 :: a2 :: a3 :: a4 :: a5 :: a6 :: a7 :: a8 :: a9 :: a10 :: a11 :: a12 :: a13 :: a14 :: a15 :: a16 :: a17 :: a18 :: a19 :: r) = ⟨a1, a4 * 256 + a5, a6 * 256 + a7, a8, a9, (a12 * 256 + a13) * 65536 + (a14 * 256 + a15), (a16 * 256 + a17) * 65536 + (a18 * 256 + a19), r.take n, r.drop n⟩ := by
    have e1 : (hN (a0 :: a1 :: a2 :: a3 :: a4 :: a5 :: a6 :: a7 :: a8 :: a9 :: a10 :: a11 :: a12 :: a13 :: a14 :: a15 :: a16 :: a17 :: a18 :: a19 :: r)).toNat = 20 + n := by show (a0 % 16 * 4).toNat = _; omega
    unfold readS
    rw [e1, show 20 + n - 20 = n by omega]
    have e2 : (a0 :: a1 :: a2 :: a3 :: a4 :: a5 :: a6 :: a7 :: a8 :: a9 :: a10 :: a11 :: a12 :: a13 :: a14 :: a15 :: a16 :: a17 :: a18 :: a19 :: r).drop (20 + n) = r.drop n := by rw [← List.drop_drop]; rfl
    rw [e2]
    rfl
  have hnl : (r.take n).length = n := by rw [List.length_take]; omega
  have hok : okHd (readS (a0 :: a1 :: a2 :: a3 :: a4 :: a5 :: a6 :: a7 :: a8 :: a9 :: a10 :: a11 :: a12 :: a13 :: a14 :: a15 :: a16 :: a17 :: a18 :: a19 :: r)) := by
    rw [hread]
    unfold okHd
    simp only [hnl]
    omega
  refine ⟨hok, ?_⟩
  have hk : kN (a0 :: a1 :: a2 :: a3 :: a4 :: a5 :: a6 :: a7 :: a8 :: a9 :: a10 :: a11 :: a12 :: a13 :: a14 :: a15 :: a16 :: a17 :: a18 :: a19 :: r) = putK (readS (a0 :: a1 :: a2 :: a3 :: a4 :: a5 :: a6 :: a7 :: a8 :: a9 :: a10 :: a11 :: a12 :: a13 :: a14 :: a15 :: a16 :: a17 :: a18 :: a19 :: r)) := by
    unfold kN putK
    have e1 : (hN (a0 :: a1 :: a2 :: a3 :: a4 :: a5 :: a6 :: a7 :: a8 :: a9 :: a10 :: a11 :: a12 :: a13 :: a14 :: a15 :: a16 :: a17 :: a18 :: a19 :: r)).toNat = 20 + n := by show (a0 % 16 * 4).toNat = _; omega
    rw [e1, hread]
    have e2 : (a0 :: a1 :: a2 :: a3 :: a4 :: a5 :: a6 :: a7 :: a8 :: a9 :: a10 :: a11 :: a12 :: a13 :: a14 :: a15 :: a16 :: a17 :: a18 :: a19 :: r).take (20 + n) = a0 :: a1 :: a2 :: a3 :: a4 :: a5 :: a6 :: a7 :: a8 :: a9 :: a10 :: a11 :: a12 :: a13 :: a14 :: a15 :: a16 :: a17 :: a18 :: a19 :: r.take n := by rw [show 20 + n = n + 1 + 1 + 1 + 1 + 1 + 1 + 1 + 1 + 1 + 1 + 1 + 1 + 1 + 1 + 1 + 1 + 1 + 1 + 1 + 1 by omega]; rfl
    rw [e2]
    congr 2
    show [a0, a1, a2, a3, a4, a5, a6, a7, a8, a9, 0, 0, a12, a13, a14, a15, a16, a17, a18, a19] ++ r.take n = _
    unfold headL baseL
    simp only [hnl, List.length_drop]
    congr 1
    simp only [List.cons.injEq, and_true]
    refine ⟨?_, ?_, ?_, ?_, ?_, ?_, ?_, ?_, ?_, ?_, ?_, ?_, ?_, ?_, ?_, ?_, ?_, ?_, ?_, ?_⟩ <;> first | exact trivial | omega
  unfold putL
  rw [if_pos hok, ← hk, ← c5', hread]
  unfold headL baseL
  simp only [hnl, List.length_drop]
  have hfin : ∀ (A : List Int), A = [a0, a1, a2, a3, a4, a5, a6, a7, a8, a9, a10, a11, a12, a13, a14, a15, a16, a17, a18, a19] → A ++ r.take n ++ r.drop n = a0 :: a1 :: a2 :: a3 :: a4 :: a5 :: a6 :: a7 :: a8 :: a9 :: a10 :: a11 :: a12 :: a13 :: a14 :: a15 :: a16 :: a17 :: a18 :: a19 :: r := by
    intro A hA
    rw [hA, List.append_assoc, List.take_append_drop]
    rfl
  refine hfin _ ?_
  simp only [List.cons.injEq, and_true]
  refine ⟨?_, ?_, ?_, ?_, ?_, ?_, ?_, ?_, ?_, ?_, ?_, ?_, ?_, ?_, ?_, ?_, ?_, ?_, ?_, ?_⟩ <;> first | exact trivial | omega
end Go.Proofs.S14.I2

namespace Go.Proofs.S14.I2
open Go Go.SE
set_option maxRecDepth 100000
set_option maxHeartbeats 4000000
attribute [local irreducible] specI

theorem getD_app {L : List Int} (r : List Int) {i : Nat} (h : i < L.length) : (L ++ r).getD i 0 = L.getD i 0 := by
  rw [List.getD_eq_getElem?_getD, List.getElem?_append_left h, ← List.getD_eq_getElem?_getD]
theorem getD_take {L : List Int} {i m : Nat} (h : i < m) : (L.take m).getD i 0 = L.getD i 0 := by
  rw [List.getD_eq_getElem?_getD, List.getElem?_take, if_pos h, ← List.getD_eq_getElem?_getD]
theorem getD_set_ne {L : List Int} {i j : Nat} {x : Int} (h : i ≠ j) : (L.set i x).getD j 0 = L.getD j 0 := by
  rw [List.getD_eq_getElem?_getD, List.getElem?_set_ne h, ← List.getD_eq_getElem?_getD]
theorem getD_set_eq {L : List Int} {i : Nat} {x : Int} (h : i < L.length) : (L.set i x).getD i 0 = x := by
  rw [List.getD_eq_getElem?_getD, List.getElem?_set_self h]; rfl

/-- What is so of bytes that are a head's. -/
structure Good (L : List Int) : Prop where
  len : 20 ≤ L.length
  ver : L.getD 0 0 / 16 = 4
  head : 20 ≤ hN L ∧ hN L ≤ L.length
  size : wN L 2 = L.length
  check : wN L 10 = kN L
  flags : wN L 6 = 0 ∨ wN L 6 = 16384
theorem good_iff {L : List Int} : parseE L = 0 ↔ Good L := by
  rcases parse_cases L with ⟨e, _, c1⟩ | ⟨e, _, c1, c2⟩ | ⟨e, _, c1, c2, c3⟩ | ⟨e, _, c1, c2, c3, c4⟩ | ⟨e, _, c1, c2, c3, c4, c5⟩ | ⟨e, _, c1, c2, c3, c4, c5, c6⟩ | ⟨e, _, c1, c2, c3, c4, c5, c6⟩ <;> rw [e]
  · exact ⟨fun h => absurd h (by decide), fun h => by have := h.len; omega⟩
  · exact ⟨fun h => absurd h (by decide), fun h => absurd h.ver c2⟩
  · exact ⟨fun h => absurd h (by decide), fun h => by have := h.head; omega⟩
  · exact ⟨fun h => absurd h (by decide), fun h => absurd h.size c4⟩
  · exact ⟨fun h => absurd h (by decide), fun h => absurd h.check c5⟩
  · exact ⟨fun h => absurd h (by decide), fun h => absurd h.flags c6⟩
  · exact ⟨fun _ => ⟨c1, c2, c3, c4, c5, c6⟩, fun _ => rfl⟩
theorem parse_not {L : List Int} (h : ¬ parseE L = 0) : parseS L = zeroHd := by unfold parseS; rw [if_neg h]
theorem parse_le (L : List Int) : 0 ≤ parseE L ∧ parseE L ≤ 6 := by
  rcases parse_cases L with ⟨e, _⟩ | ⟨e, _⟩ | ⟨e, _⟩ | ⟨e, _⟩ | ⟨e, _⟩ | ⟨e, _⟩ | ⟨e, _⟩ <;> rw [e] <;> decide
theorem parse_more {L : List Int} (h : Good L) (c : Int) : parseE (L ++ [c]) = 4 := by
  have hl := h.len
  have e0 : (L ++ [c]).getD 0 0 = L.getD 0 0 := getD_app _ (by omega)
  have eN : hN (L ++ [c]) = hN L := by unfold hN; rw [e0]
  have e2 : wN (L ++ [c]) 2 = wN L 2 := by unfold wN; rw [getD_app _ (by omega), getD_app _ (by omega)]
  have hv := h.ver
  have hh := h.head
  have hs := h.size
  have hln : (L ++ [c]).length = L.length + 1 := by simp
  unfold parseE
  rw [if_neg (by omega), if_neg (fun hn => hn (by rw [e0]; exact hv)), if_neg (by rw [eN, hln]; omega), if_pos (by rw [e2, hs, hln]; omega)]
theorem parse_less {L : List Int} (h : Good L) : ¬ parseE (L.take (L.length - 1)) = 0 := by
  intro h2
  have g := good_iff.1 h2
  have hl := h.len
  have gl := g.len
  have gs := g.size
  have e2 : wN (L.take (L.length - 1)) 2 = wN L 2 := by
    rw [List.length_take] at gl
    unfold wN; rw [getD_take (by omega), getD_take (by omega)]
  rw [e2, h.size, List.length_take] at gs
  omega
end Go.Proofs.S14.I2

namespace Go.Proofs.S14.I2
open Go Go.SE
set_option maxRecDepth 100000
set_option maxHeartbeats 4000000

theorem sp_addw8 {a b : Int} : specI .add .u8 a b ((a + b) % 256) := rfl
attribute [local irreducible] specI

def flipV (x y : Int) : Int := ((x.toNat ^^^ y.toNat : Nat) : Int)
theorem flipV_bd {x y : Int} (hx : 0 ≤ x ∧ x ≤ 255) (hy : 0 ≤ y ∧ y ≤ 255) : 0 ≤ flipV x y ∧ flipV x y ≤ 255 := by
  have h1 : x.toNat ^^^ y.toNat < 2 ^ 8 := Nat.xor_lt_two_pow (by omega) (by omega)
  exact ⟨by unfold flipV; omega, by unfold flipV; omega⟩
theorem flipV_ne {x y : Int} (hx : 0 ≤ x ∧ x ≤ 255) (hy : 1 ≤ y ∧ y ≤ 255) : flipV x y ≠ x := by
  intro h
  have h2 : x.toNat ^^^ y.toNat = x.toNat := by unfold flipV at h; omega
  have h3 : x.toNat ^^^ (x.toNat ^^^ y.toNat) = 0 := by rw [h2, Nat.xor_self]
  rw [← Nat.xor_assoc, Nat.xor_self, Nat.zero_xor] at h3
  omega
theorem byte_bad {L : List Int} (hb : ∀ x ∈ L, 0 ≤ x ∧ x ≤ 255) (h : Good L) {i : Nat} {x : Int} (hi : 1 ≤ i ∧ (i : Int) < hN L) (hx : 0 ≤ x ∧ x ≤ 255) (hne : x ≠ L.getD i 0) : ¬ parseE (L.set i x) = 0 := by
  intro h2
  have g := good_iff.1 h2
  have hh := h.head
  have eN : hN (L.set i x) = hN L := by unfold hN; rw [getD_set_ne (by omega)]
  obtain ⟨m, hm⟩ : ∃ m : Nat, hN L = m := ⟨(hN L).toNat, by omega⟩
  have ht : ((L.set i x).take m) = (L.take m).set i x := by rw [List.take_set]
  have hl : (L.take m).length = m := by rw [List.length_take]; omega
  have w1 : wN L 10 = wN (L.take m) 10 := by unfold wN; rw [getD_take (by omega), getD_take (by omega)]
  have w2 : wN (L.set i x) 10 = wN ((L.take m).set i x) 10 := by
    rw [← ht]; unfold wN; rw [getD_take (by omega), getD_take (by omega)]
  have k1 := h.check
  have k2 := g.check
  unfold kN at k1 k2
  rw [eN, hm] at k2
  rw [hm] at k1
  rw [show ((m : Nat) : Int).toNat = m by omega] at k1 k2
  rw [w1] at k1
  rw [w2, ht] at k2
  have e0 : (L.take m).getD 0 0 = L.getD 0 0 := getD_take (by omega)
  exact hd_set (by omega) (fun y hy => hb y (List.mem_of_mem_take hy)) (by rw [e0]; have := h.ver; omega) (by omega) hx (by rw [getD_take (by omega)]; exact hne) k1 k2
theorem ver_iff {L : List Int} (h : 20 ≤ L.length) : parseE L = 2 ↔ ¬ L.getD 0 0 / 16 = 4 := by
  rcases parse_cases L with ⟨e, _, c1⟩ | ⟨e, _, c1, c2⟩ | ⟨e, _, c1, c2, c3⟩ | ⟨e, _, c1, c2, c3, c4⟩ | ⟨e, _, c1, c2, c3, c4, c5⟩ | ⟨e, _, c1, c2, c3, c4, c5, c6⟩ | ⟨e, _, c1, c2, c3, c4, c5, c6⟩ <;> rw [e]
  · omega
  · exact ⟨fun _ => c2, fun _ => rfl⟩
  all_goals exact ⟨fun h => absurd h (by decide), fun h => absurd c2 h⟩

theorem tmod_bd {x m : Int} (hm : 0 < m) : -m < x.tmod m ∧ x.tmod m < m := by
  have e1 := Int.emod_lt_of_pos x hm
  have e2 := Int.emod_nonneg x (show m ≠ 0 by omega)
  rcases Int.lt_or_le x 0 with h | h
  · have e3 : x.tmod m = -((-x).tmod m) := by rw [Int.neg_tmod]; omega
    have e4 := Int.emod_lt_of_pos (-x) hm
    have e5 := Int.emod_nonneg (-x) (show m ≠ 0 by omega)
    rw [e3, Int.tmod_eq_emod_of_nonneg (by omega)]; omega
  · rw [Int.tmod_eq_emod_of_nonneg h]; omega
theorem tmod_nn {x m : Int} (hm : 0 < m) (h : 0 ≤ x) : 0 ≤ x.tmod m ∧ x.tmod m < m := by
  rw [Int.tmod_eq_emod_of_nonneg h]
  exact ⟨Int.emod_nonneg _ (by omega), Int.emod_lt_of_pos _ hm⟩

theorem con_len {f : FuncId} {n m : Nat} {pre post : List Reg} {res : X} (e : n = m) (h : CallCon Tryz.prog f [.one (.sl 0 0 n)] pre res post) : CallCon Tryz.prog f [.one (.sl 0 0 m)] pre res post := by
  subst e; exact h
end Go.Proofs.S14.I2
