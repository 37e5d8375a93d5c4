/- Contracts of functions of the program, or a row of the seat, proved out of them. No condition beyond those that stand in each statement. -/
import Derived.Test.YtiijiofhofkhkaaS19g9X
import Derived.Test.YtiijiofhofkhkaaS19g9W
namespace Go.Proofs.S19
open Go Go.SE
set_option maxRecDepth 100000
set_option maxHeartbeats 4000000
attribute [local irreducible] specI

theorem rtake_num {b : List Int} (hb : Bytes b) {off n : Nat} (h : off + n ≤ b.length) (hn : n ≤ 6) : CallCon Try.prog 79 [.one (.sl 0 off n)] [.row (ints .u8 b) 1 5 false] (.t (.one (.v (.int .i64 (numAt b off n))))) [] := by
  refine con_of_call2 rfl ?_
  refine call_inline Try.func79 rfl rfl ?_
  intro _
  repeat' fail
  refine loop_keep (fun k : Nat => n - k) (fun k => k ≤ n) [0] (fun k => [(4, .t (.one (.v (.int .i64 k)))), (3, .t (.one (.v (.int .i64 (numAt b off k)))))]) (fun _ => []) (fun _ => []) [] 0 0 (by omega) ?_ ?_
  · (intro u; clear u; refine ⟨rfl, rfl, EntGoal.mk ?_ ?_⟩ <;> (repeat' (first | exact trivial | (with_reducible rfl) | apply And.intro | rfl)))
  intro k hk u
  clear u
  by_cases hc : k < n
  · have h5 := numAt_bd5 hb off (k := k) (by omega)
    have hx := byte_bd hb (off + k)
    repeat' (first | (refine is_split ?_; refine sp_yes (by exact dec_t (by omega)) ?_ <;> (intro u; clear u)) | (refine is_asked ?_; (first | (refine is_spec ?_; (first | (with_reducible refine asked _ (sp_add (by simp only [lo, hi]; omega) (by simp only [lo, hi]; omega)) ?_) | (with_reducible refine asked _ (sp_mul (by simp only [lo, hi]; omega) (by simp only [lo, hi]; omega)) ?_))) | (refine is_wrap ?_; refine asked _ (wrap_lohi (by simp only [lo, hi]; omega) (by simp only [lo, hi]; omega)) ?_) | (refine asked _ (ix_eq (off + k) (by show (off + Int.toNat (k : Int)) * 1 = _; omega) (by omega)) ?_) | refine asked () ⟨by omega, by omega⟩ ?_); intro u; clear u))
    refine again (k + 1) (by omega) (by omega) ?_
    (intro u; clear u; refine ⟨rfl, rfl, EntGoal.mk ?_ ?_⟩ <;> (repeat' (first | exact trivial | (with_reducible rfl) | apply And.intro | rfl)))
  · obtain rfl : k = n := by omega
    repeat' (refine is_split ?_; refine sp_no (by exact dec_f (by omega)) ?_ <;> (intro u; clear u))
    (refine con_end ?_ rfl; intro u; clear u; refine ⟨rfl, rfl, EntGoal.mk ?_ ?_⟩ <;> (repeat' (first | exact trivial | (with_reducible rfl) | apply And.intro | rfl)))

theorem rctake_0 {b : List Int} (h0 : b.length = 0) : CallCon Try.prog 16 [.one (.sl 0 0 b.length)] [.row (ints .u8 b) 1 5 false] (.tup [ctlT 0 (tcC b), .one (.v (.int .i64 (tcE b)))]) [.row (rowsV (tcC b).sh.rows) 5 101 true] := by
  have hn : ¬ tcOk b := fun h => by
    have := getD_pos (b := b) (by have := h.1; omega)
    omega
  rw [tcC_no hn, tcE_0 h0]
  refine con_of_call2 rfl ?_
  refine call_inline Try.func16 rfl rfl ?_
  intro _
  repeat' (refine is_split ?_; refine sp_yes (by exact dec_t (by omega)) ?_ <;> (intro u; clear u))
  all_goals (first | ((refine con_end ?_ rfl; intro u; clear u; refine ⟨rfl, rfl, EntGoal.mk ?_ ?_⟩ <;> (repeat' (first | exact trivial | (with_reducible rfl) | apply And.intro | rfl))); done))
theorem rctake_kind {b : List Int} (hb : Bytes b) (h0 : b.length ≠ 0) (h : b.getD 0 0 < 1 ∨ 6 < b.getD 0 0) : CallCon Try.prog 16 [.one (.sl 0 0 b.length)] [.row (ints .u8 b) 1 5 false] (.tup [ctlT 0 (tcC b), .one (.v (.int .i64 (tcE b)))]) [.row (rowsV (tcC b).sh.rows) 5 101 true] := by
  have hn : ¬ tcOk b := fun q => by have := q.1; omega
  have hd := byte_bd hb 0
  rw [tcC_no hn, tcE_kind h0 h]
  refine con_of_call2 rfl ?_
  refine call_inline Try.func16 rfl rfl ?_
  intro _
  repeat' (first | (refine is_split ?_; refine sp_no (by exact dec_f (by omega)) ?_ <;> (intro u; clear u)) | (refine is_asked ?_; (first | (refine asked _ (ix_eq 0 (by rfl) (by omega)) ?_) | refine asked () ⟨by omega, by omega⟩ ?_); intro u; clear u) | (refine is_call ?_; refine call_inline Try.func45 rfl rfl ?_; intro u; clear u))
  all_goals (first | ((refine con_end ?_ rfl; intro u; clear u; refine ⟨rfl, rfl, EntGoal.mk ?_ ?_⟩ <;> (repeat' (first | exact trivial | (with_reducible rfl) | apply And.intro | rfl))); done))
theorem rctake1 {b : List Int} (hb : Bytes b) (hl : b.length ≤ 100000) (hk : b.getD 0 0 = 1) : CallCon Try.prog 16 [.one (.sl 0 0 b.length)] [.row (ints .u8 b) 1 5 false] (.tup [ctlT 0 (tcC b), .one (.v (.int .i64 (tcE b)))]) [.row (rowsV (tcC b).sh.rows) 5 101 true] := by
  have h0 := getD_pos (b := b) (by omega)
  have hz : szC (b.getD 0 0) = 8 := by rw [hk]; rfl
  have y0 := byte_bd hb 0
  have y1 := byte_bd hb 1
  have y2 := byte_bd hb 2
  have y3 := byte_bd hb 3
  have y4 := byte_bd hb 4
  have y5 := byte_bd hb 5
  have y6 := byte_bd hb 6
  have y7 := byte_bd hb 7
  by_cases hs : b.length < 8
  · have hn : ¬ tcOk b := fun q => by have := q.2.2.1 (by omega); omega
    rw [tcC_no hn, tcE_short (by omega) (by omega) (by omega)]
    refine con_of_call2 rfl ?_
    refine call_inline Try.func16 rfl rfl ?_
    intro _
    repeat' (first | (refine is_split ?_; (first | refine sp_yes (by exact dec_t (by omega)) ?_ | refine sp_no (by exact dec_f (by omega)) ?_) <;> (intro u; clear u)) | (refine is_asked ?_; (first | (refine asked _ (ix_eq 0 (by rfl) (by omega)) ?_) | refine asked () ⟨by omega, by omega⟩ ?_); intro u; clear u) | (refine is_call ?_; refine call_inline Try.func45 rfl rfl ?_; intro u; clear u))
    all_goals (first | ((refine con_end ?_ rfl; intro u; clear u; refine ⟨rfl, rfl, EntGoal.mk ?_ ?_⟩ <;> (repeat' (first | exact trivial | (with_reducible rfl) | apply And.intro | rfl))); done))
  by_cases hg : 8 < b.length
  · have hn : ¬ tcOk b := fun q => by have := q.2.2.1 (by omega); omega
    rw [tcC_no hn, tcE_no (by omega) (by omega) (by omega) (fun q => by have := q.1; omega) hn]
    refine con_of_call2 rfl ?_
    refine call_inline Try.func16 rfl rfl ?_
    intro _
    repeat' (first | (refine is_split ?_; (first | refine sp_yes (by exact dec_t (by omega)) ?_ | refine sp_no (by exact dec_f (by omega)) ?_) <;> (intro u; clear u)) | (refine is_asked ?_; (first | (refine asked _ (ix_eq 0 (by rfl) (by omega)) ?_) | refine asked () ⟨by omega, by omega⟩ ?_); intro u; clear u) | (refine is_call ?_; refine call_inline Try.func45 rfl rfl ?_; intro u; clear u))
    all_goals (first | ((refine con_end ?_ rfl; intro u; clear u; refine ⟨rfl, rfl, EntGoal.mk ?_ ?_⟩ <;> (repeat' (first | exact trivial | (with_reducible rfl) | apply And.intro | rfl))); done))
  have hlen : b.length = 8 := by omega
  have e1 := rtake_num hb (off := 3) (n := 4) (by omega) (by omega)
  have hc : rdC b = ⟨b.getD 0 0, 0, b.getD 1 0, b.getD 2 0, numAt b 3 4, b.getD 7 0 - 1, 0, zeroSh⟩ := by unfold rdC; rw [if_neg (by omega), if_neg (by omega), if_neg (by omega), if_neg (by omega)]
  have hR := refctlrightn_con (c := ⟨b.getD 0 0, 0, b.getD 1 0, b.getD 2 0, numAt b 3 4, b.getD 7 0 - 1, 0, zeroSh⟩) (by show (0 : Int) ≤ 0 ∧ (0 : Int) ≤ 255; decide) rfl
  by_cases hok : okCtl (rdC b)
  · have ht : tcOk b := ⟨by omega, fun q => absurd q (by omega), fun q => by omega, hok⟩
    rw [tcC_yes ht, tcE_yes ht, hc]
    rw [hc] at hok
    have hR := con_yes hR hok
    refine con_of_call2 rfl ?_
    refine call_inline Try.func16 rfl rfl ?_
    intro _
    repeat' (first | (refine is_split ?_; (first | refine sp_yes (by exact dec_t (by omega)) ?_ | refine sp_no (by exact dec_f (by omega)) ?_) <;> (intro u; clear u)) | (refine is_asked ?_; (first | (refine is_spec ?_; (with_reducible refine asked _ (sp_sub (by simp only [lo, hi]; omega) (by simp only [lo, hi]; omega)) ?_)) | (refine is_wrap ?_; refine asked _ (wrap_lohi (by simp only [lo, hi]; omega) (by simp only [lo, hi]; omega)) ?_) | (refine asked _ (slice_at 3 7 (by omega) (by omega) (by omega) (by omega)) ?_) | (refine asked _ (ix_eq 0 (by rfl) (by omega)) ?_) | (refine asked _ (ix_eq 1 (by rfl) (by omega)) ?_) | (refine asked _ (ix_eq 2 (by rfl) (by omega)) ?_) | (refine asked _ (ix_eq 7 (by rfl) (by omega)) ?_) | refine asked () ⟨by omega, by omega⟩ ?_); intro u; clear u) | (refine is_draw ?_; refine draw_step mixed (by kernel_rfl) ?_; intro u; clear u) | (refine is_call ?_; (first | refine call_inline Try.func45 rfl rfl ?_ | refine call_inline Try.func47 rfl rfl ?_ | refine call_auto (e1) (lets_rfl rfl) (by exact ⟨⟨_, rfl, rfl, rfl⟩, trivial⟩) rfl ?_ | refine call_le (by (repeat' (first | exact trivial | apply And.intro | exact rfl)); (first | done | fail)) (hR) (by exact trivial) rfl ?_); intro u; clear u))
    all_goals (first | ((refine con_end ?_ rfl; intro u; clear u; refine ⟨rfl, rfl, EntGoal.mk ?_ ?_⟩ <;> (repeat' (first | exact trivial | (with_reducible rfl) | apply And.intro | rfl))); done))
  · have ht : ¬ tcOk b := fun q => hok q.2.2.2
    rw [tcC_no ht, tcE_no (by omega) (by omega) (by omega) (fun q => by have := q.1; omega) ht]
    rw [hc] at hok
    have hR := con_no hR hok
    refine con_of_call2 rfl ?_
    refine call_inline Try.func16 rfl rfl ?_
    intro _
    repeat' (first | (refine is_split ?_; (first | refine sp_yes (by exact dec_t (by omega)) ?_ | refine sp_no (by exact dec_f (by omega)) ?_) <;> (intro u; clear u)) | (refine is_asked ?_; (first | (refine is_spec ?_; (with_reducible refine asked _ (sp_sub (by simp only [lo, hi]; omega) (by simp only [lo, hi]; omega)) ?_)) | (refine is_wrap ?_; refine asked _ (wrap_lohi (by simp only [lo, hi]; omega) (by simp only [lo, hi]; omega)) ?_) | (refine asked _ (slice_at 3 7 (by omega) (by omega) (by omega) (by omega)) ?_) | (refine asked _ (ix_eq 0 (by rfl) (by omega)) ?_) | (refine asked _ (ix_eq 1 (by rfl) (by omega)) ?_) | (refine asked _ (ix_eq 2 (by rfl) (by omega)) ?_) | (refine asked _ (ix_eq 7 (by rfl) (by omega)) ?_) | refine asked () ⟨by omega, by omega⟩ ?_); intro u; clear u) | (refine is_draw ?_; refine draw_step mixed (by kernel_rfl) ?_; intro u; clear u) | (refine is_call ?_; (first | refine call_inline Try.func45 rfl rfl ?_ | refine call_inline Try.func47 rfl rfl ?_ | refine call_auto (e1) (lets_rfl rfl) (by exact ⟨⟨_, rfl, rfl, rfl⟩, trivial⟩) rfl ?_ | refine call_le (by (repeat' (first | exact trivial | apply And.intro | exact rfl)); (first | done | fail)) (hR) (by exact trivial) rfl ?_); intro u; clear u))
    all_goals (first | ((refine con_end ?_ rfl; intro u; clear u; refine ⟨rfl, rfl, EntGoal.mk ?_ ?_⟩ <;> (repeat' (first | exact trivial | (with_reducible rfl) | apply And.intro | rfl))); done))
theorem rctake2 {b : List Int} (hb : Bytes b) (hl : b.length ≤ 100000) (hk : b.getD 0 0 = 2) : CallCon Try.prog 16 [.one (.sl 0 0 b.length)] [.row (ints .u8 b) 1 5 false] (.tup [ctlT 0 (tcC b), .one (.v (.int .i64 (tcE b)))]) [.row (rowsV (tcC b).sh.rows) 5 101 true] := by
  have h0 := getD_pos (b := b) (by omega)
  have hz : szC (b.getD 0 0) = 8 := by rw [hk]; rfl
  have y0 := byte_bd hb 0
  have y1 := byte_bd hb 1
  have y2 := byte_bd hb 2
  have y3 := byte_bd hb 3
  have y4 := byte_bd hb 4
  have y5 := byte_bd hb 5
  have y6 := byte_bd hb 6
  have y7 := byte_bd hb 7
  by_cases hs : b.length < 8
  · have hn : ¬ tcOk b := fun q => by have := q.2.2.1 (by omega); omega
    rw [tcC_no hn, tcE_short (by omega) (by omega) (by omega)]
    refine con_of_call2 rfl ?_
    refine call_inline Try.func16 rfl rfl ?_
    intro _
    repeat' (first | (refine is_split ?_; (first | refine sp_yes (by exact dec_t (by omega)) ?_ | refine sp_no (by exact dec_f (by omega)) ?_) <;> (intro u; clear u)) | (refine is_asked ?_; (first | (refine asked _ (ix_eq 0 (by rfl) (by omega)) ?_) | refine asked () ⟨by omega, by omega⟩ ?_); intro u; clear u) | (refine is_call ?_; refine call_inline Try.func45 rfl rfl ?_; intro u; clear u))
    all_goals (first | ((refine con_end ?_ rfl; intro u; clear u; refine ⟨rfl, rfl, EntGoal.mk ?_ ?_⟩ <;> (repeat' (first | exact trivial | (with_reducible rfl) | apply And.intro | rfl))); done))
  by_cases hg : 8 < b.length
  · have hn : ¬ tcOk b := fun q => by have := q.2.2.1 (by omega); omega
    rw [tcC_no hn, tcE_no (by omega) (by omega) (by omega) (fun q => by have := q.1; omega) hn]
    refine con_of_call2 rfl ?_
    refine call_inline Try.func16 rfl rfl ?_
    intro _
    repeat' (first | (refine is_split ?_; (first | refine sp_yes (by exact dec_t (by omega)) ?_ | refine sp_no (by exact dec_f (by omega)) ?_) <;> (intro u; clear u)) | (refine is_asked ?_; (first | (refine asked _ (ix_eq 0 (by rfl) (by omega)) ?_) | refine asked () ⟨by omega, by omega⟩ ?_); intro u; clear u) | (refine is_call ?_; refine call_inline Try.func45 rfl rfl ?_; intro u; clear u))
    all_goals (first | ((refine con_end ?_ rfl; intro u; clear u; refine ⟨rfl, rfl, EntGoal.mk ?_ ?_⟩ <;> (repeat' (first | exact trivial | (with_reducible rfl) | apply And.intro | rfl))); done))
  have hlen : b.length = 8 := by omega
  have e1 := rtake_num hb (off := 3) (n := 4) (by omega) (by omega)
  have hc : rdC b = ⟨b.getD 0 0, 0, b.getD 1 0, b.getD 2 0, numAt b 3 4, b.getD 7 0 - 1, 0, zeroSh⟩ := by unfold rdC; rw [if_neg (by omega), if_neg (by omega), if_neg (by omega), if_neg (by omega)]
  have hR := refctlrightn_con (c := ⟨b.getD 0 0, 0, b.getD 1 0, b.getD 2 0, numAt b 3 4, b.getD 7 0 - 1, 0, zeroSh⟩) (by show (0 : Int) ≤ 0 ∧ (0 : Int) ≤ 255; decide) rfl
  by_cases hok : okCtl (rdC b)
  · have ht : tcOk b := ⟨by omega, fun q => absurd q (by omega), fun q => by omega, hok⟩
    rw [tcC_yes ht, tcE_yes ht, hc]
    rw [hc] at hok
    have hR := con_yes hR hok
    refine con_of_call2 rfl ?_
    refine call_inline Try.func16 rfl rfl ?_
    intro _
    repeat' (first | (refine is_split ?_; (first | refine sp_yes (by exact dec_t (by omega)) ?_ | refine sp_no (by exact dec_f (by omega)) ?_) <;> (intro u; clear u)) | (refine is_asked ?_; (first | (refine is_spec ?_; (with_reducible refine asked _ (sp_sub (by simp only [lo, hi]; omega) (by simp only [lo, hi]; omega)) ?_)) | (refine is_wrap ?_; refine asked _ (wrap_lohi (by simp only [lo, hi]; omega) (by simp only [lo, hi]; omega)) ?_) | (refine asked _ (slice_at 3 7 (by omega) (by omega) (by omega) (by omega)) ?_) | (refine asked _ (ix_eq 0 (by rfl) (by omega)) ?_) | (refine asked _ (ix_eq 1 (by rfl) (by omega)) ?_) | (refine asked _ (ix_eq 2 (by rfl) (by omega)) ?_) | (refine asked _ (ix_eq 7 (by rfl) (by omega)) ?_) | refine asked () ⟨by omega, by omega⟩ ?_); intro u; clear u) | (refine is_draw ?_; refine draw_step mixed (by kernel_rfl) ?_; intro u; clear u) | (refine is_call ?_; (first | refine call_inline Try.func45 rfl rfl ?_ | refine call_inline Try.func47 rfl rfl ?_ | refine call_auto (e1) (lets_rfl rfl) (by exact ⟨⟨_, rfl, rfl, rfl⟩, trivial⟩) rfl ?_ | refine call_le (by (repeat' (first | exact trivial | apply And.intro | exact rfl)); (first | done | fail)) (hR) (by exact trivial) rfl ?_); intro u; clear u))
    all_goals (first | ((refine con_end ?_ rfl; intro u; clear u; refine ⟨rfl, rfl, EntGoal.mk ?_ ?_⟩ <;> (repeat' (first | exact trivial | (with_reducible rfl) | apply And.intro | rfl))); done))
  · have ht : ¬ tcOk b := fun q => hok q.2.2.2
    rw [tcC_no ht, tcE_no (by omega) (by omega) (by omega) (fun q => by have := q.1; omega) ht]
    rw [hc] at hok
    have hR := con_no hR hok
    refine con_of_call2 rfl ?_
    refine call_inline Try.func16 rfl rfl ?_
    intro _
    repeat' (first | (refine is_split ?_; (first | refine sp_yes (by exact dec_t (by omega)) ?_ | refine sp_no (by exact dec_f (by omega)) ?_) <;> (intro u; clear u)) | (refine is_asked ?_; (first | (refine is_spec ?_; (with_reducible refine asked _ (sp_sub (by simp only [lo, hi]; omega) (by simp only [lo, hi]; omega)) ?_)) | (refine is_wrap ?_; refine asked _ (wrap_lohi (by simp only [lo, hi]; omega) (by simp only [lo, hi]; omega)) ?_) | (refine asked _ (slice_at 3 7 (by omega) (by omega) (by omega) (by omega)) ?_) | (refine asked _ (ix_eq 0 (by rfl) (by omega)) ?_) | (refine asked _ (ix_eq 1 (by rfl) (by omega)) ?_) | (refine asked _ (ix_eq 2 (by rfl) (by omega)) ?_) | (refine asked _ (ix_eq 7 (by rfl) (by omega)) ?_) | refine asked () ⟨by omega, by omega⟩ ?_); intro u; clear u) | (refine is_draw ?_; refine draw_step mixed (by kernel_rfl) ?_; intro u; clear u) | (refine is_call ?_; (first | refine call_inline Try.func45 rfl rfl ?_ | refine call_inline Try.func47 rfl rfl ?_ | refine call_auto (e1) (lets_rfl rfl) (by exact ⟨⟨_, rfl, rfl, rfl⟩, trivial⟩) rfl ?_ | refine call_le (by (repeat' (first | exact trivial | apply And.intro | exact rfl)); (first | done | fail)) (hR) (by exact trivial) rfl ?_); intro u; clear u))
    all_goals (first | ((refine con_end ?_ rfl; intro u; clear u; refine ⟨rfl, rfl, EntGoal.mk ?_ ?_⟩ <;> (repeat' (first | exact trivial | (with_reducible rfl) | apply And.intro | rfl))); done))
theorem rctake3 {b : List Int} (hb : Bytes b) (hl : b.length ≤ 100000) (hk : b.getD 0 0 = 3) : CallCon Try.prog 16 [.one (.sl 0 0 b.length)] [.row (ints .u8 b) 1 5 false] (.tup [ctlT 0 (tcC b), .one (.v (.int .i64 (tcE b)))]) [.row (rowsV (tcC b).sh.rows) 5 101 true] := by
  have h0 := getD_pos (b := b) (by omega)
  have hz : szC (b.getD 0 0) = 7 := by rw [hk]; rfl
  have y0 := byte_bd hb 0
  have y1 := byte_bd hb 1
  have y2 := byte_bd hb 2
  have y3 := byte_bd hb 3
  have y4 := byte_bd hb 4
  have y5 := byte_bd hb 5
  have y6 := byte_bd hb 6
  have y7 := byte_bd hb 7
  by_cases hs : b.length < 7
  · have hn : ¬ tcOk b := fun q => by have := q.2.2.1 (by omega); omega
    rw [tcC_no hn, tcE_short (by omega) (by omega) (by omega)]
    refine con_of_call2 rfl ?_
    refine call_inline Try.func16 rfl rfl ?_
    intro _
    repeat' (first | (refine is_split ?_; (first | refine sp_yes (by exact dec_t (by omega)) ?_ | refine sp_no (by exact dec_f (by omega)) ?_) <;> (intro u; clear u)) | (refine is_asked ?_; (first | (refine asked _ (ix_eq 0 (by rfl) (by omega)) ?_) | refine asked () ⟨by omega, by omega⟩ ?_); intro u; clear u) | (refine is_call ?_; refine call_inline Try.func45 rfl rfl ?_; intro u; clear u))
    all_goals (first | ((refine con_end ?_ rfl; intro u; clear u; refine ⟨rfl, rfl, EntGoal.mk ?_ ?_⟩ <;> (repeat' (first | exact trivial | (with_reducible rfl) | apply And.intro | rfl))); done))
  by_cases hg : 7 < b.length
  · have hn : ¬ tcOk b := fun q => by have := q.2.2.1 (by omega); omega
    rw [tcC_no hn, tcE_no (by omega) (by omega) (by omega) (fun q => by have := q.1; omega) hn]
    refine con_of_call2 rfl ?_
    refine call_inline Try.func16 rfl rfl ?_
    intro _
    repeat' (first | (refine is_split ?_; (first | refine sp_yes (by exact dec_t (by omega)) ?_ | refine sp_no (by exact dec_f (by omega)) ?_) <;> (intro u; clear u)) | (refine is_asked ?_; (first | (refine asked _ (ix_eq 0 (by rfl) (by omega)) ?_) | refine asked () ⟨by omega, by omega⟩ ?_); intro u; clear u) | (refine is_call ?_; refine call_inline Try.func45 rfl rfl ?_; intro u; clear u))
    all_goals (first | ((refine con_end ?_ rfl; intro u; clear u; refine ⟨rfl, rfl, EntGoal.mk ?_ ?_⟩ <;> (repeat' (first | exact trivial | (with_reducible rfl) | apply And.intro | rfl))); done))
  have hlen : b.length = 7 := by omega
  have e1 := rtake_num hb (off := 3) (n := 4) (by omega) (by omega)
  have hc : rdC b = ⟨b.getD 0 0, 0, b.getD 1 0, b.getD 2 0, numAt b 3 4, 0, 0, zeroSh⟩ := by unfold rdC; rw [if_neg (by omega), if_neg (by omega), if_neg (by omega), if_pos hk]
  have hR := refctlrightn_con (c := ⟨b.getD 0 0, 0, b.getD 1 0, b.getD 2 0, numAt b 3 4, 0, 0, zeroSh⟩) (by show (0 : Int) ≤ 0 ∧ (0 : Int) ≤ 255; decide) rfl
  by_cases hok : okCtl (rdC b)
  · have ht : tcOk b := ⟨by omega, fun q => absurd q (by omega), fun q => by omega, hok⟩
    rw [tcC_yes ht, tcE_yes ht, hc]
    rw [hc] at hok
    have hR := con_yes hR hok
    refine con_of_call2 rfl ?_
    refine call_inline Try.func16 rfl rfl ?_
    intro _
    repeat' (first | (refine is_split ?_; (first | refine sp_yes (by exact dec_t (by omega)) ?_ | refine sp_no (by exact dec_f (by omega)) ?_) <;> (intro u; clear u)) | (refine is_asked ?_; (first | (refine is_wrap ?_; refine asked _ (wrap_lohi (by simp only [lo, hi]; omega) (by simp only [lo, hi]; omega)) ?_) | (refine asked _ (slice_at 3 7 (by omega) (by omega) (by omega) (by omega)) ?_) | (refine asked _ (ix_eq 0 (by rfl) (by omega)) ?_) | (refine asked _ (ix_eq 1 (by rfl) (by omega)) ?_) | (refine asked _ (ix_eq 2 (by rfl) (by omega)) ?_) | refine asked () ⟨by omega, by omega⟩ ?_); intro u; clear u) | (refine is_draw ?_; refine draw_step mixed (by kernel_rfl) ?_; intro u; clear u) | (refine is_call ?_; (first | refine call_inline Try.func45 rfl rfl ?_ | refine call_inline Try.func47 rfl rfl ?_ | refine call_auto (e1) (lets_rfl rfl) (by exact ⟨⟨_, rfl, rfl, rfl⟩, trivial⟩) rfl ?_ | refine call_le (by (repeat' (first | exact trivial | apply And.intro | exact rfl)); (first | done | fail)) (hR) (by exact trivial) rfl ?_); intro u; clear u))
    all_goals (first | ((refine con_end ?_ rfl; intro u; clear u; refine ⟨rfl, rfl, EntGoal.mk ?_ ?_⟩ <;> (repeat' (first | exact trivial | (with_reducible rfl) | apply And.intro | rfl))); done))
  · have ht : ¬ tcOk b := fun q => hok q.2.2.2
    rw [tcC_no ht, tcE_no (by omega) (by omega) (by omega) (fun q => by have := q.1; omega) ht]
    rw [hc] at hok
    have hR := con_no hR hok
    refine con_of_call2 rfl ?_
    refine call_inline Try.func16 rfl rfl ?_
    intro _
    repeat' (first | (refine is_split ?_; (first | refine sp_yes (by exact dec_t (by omega)) ?_ | refine sp_no (by exact dec_f (by omega)) ?_) <;> (intro u; clear u)) | (refine is_asked ?_; (first | (refine is_wrap ?_; refine asked _ (wrap_lohi (by simp only [lo, hi]; omega) (by simp only [lo, hi]; omega)) ?_) | (refine asked _ (slice_at 3 7 (by omega) (by omega) (by omega) (by omega)) ?_) | (refine asked _ (ix_eq 0 (by rfl) (by omega)) ?_) | (refine asked _ (ix_eq 1 (by rfl) (by omega)) ?_) | (refine asked _ (ix_eq 2 (by rfl) (by omega)) ?_) | refine asked () ⟨by omega, by omega⟩ ?_); intro u; clear u) | (refine is_draw ?_; refine draw_step mixed (by kernel_rfl) ?_; intro u; clear u) | (refine is_call ?_; (first | refine call_inline Try.func45 rfl rfl ?_ | refine call_inline Try.func47 rfl rfl ?_ | refine call_auto (e1) (lets_rfl rfl) (by exact ⟨⟨_, rfl, rfl, rfl⟩, trivial⟩) rfl ?_ | refine call_le (by (repeat' (first | exact trivial | apply And.intro | exact rfl)); (first | done | fail)) (hR) (by exact trivial) rfl ?_); intro u; clear u))
    all_goals (first | ((refine con_end ?_ rfl; intro u; clear u; refine ⟨rfl, rfl, EntGoal.mk ?_ ?_⟩ <;> (repeat' (first | exact trivial | (with_reducible rfl) | apply And.intro | rfl))); done))
theorem rctake4 {b : List Int} (hb : Bytes b) (hl : b.length ≤ 100000) (hk : b.getD 0 0 = 4) : CallCon Try.prog 16 [.one (.sl 0 0 b.length)] [.row (ints .u8 b) 1 5 false] (.tup [ctlT 0 (tcC b), .one (.v (.int .i64 (tcE b)))]) [.row (rowsV (tcC b).sh.rows) 5 101 true] := by
  have h0 := getD_pos (b := b) (by omega)
  have hz : szC (b.getD 0 0) = 8 := by rw [hk]; rfl
  have y0 := byte_bd hb 0
  have y1 := byte_bd hb 1
  have y2 := byte_bd hb 2
  have y3 := byte_bd hb 3
  have y4 := byte_bd hb 4
  have y5 := byte_bd hb 5
  have y6 := byte_bd hb 6
  have y7 := byte_bd hb 7
  by_cases hs : b.length < 8
  · have hn : ¬ tcOk b := fun q => by have := q.2.2.1 (by omega); omega
    rw [tcC_no hn, tcE_short (by omega) (by omega) (by omega)]
    refine con_of_call2 rfl ?_
    refine call_inline Try.func16 rfl rfl ?_
    intro _
    repeat' (first | (refine is_split ?_; (first | refine sp_yes (by exact dec_t (by omega)) ?_ | refine sp_no (by exact dec_f (by omega)) ?_) <;> (intro u; clear u)) | (refine is_asked ?_; (first | (refine asked _ (ix_eq 0 (by rfl) (by omega)) ?_) | refine asked () ⟨by omega, by omega⟩ ?_); intro u; clear u) | (refine is_call ?_; refine call_inline Try.func45 rfl rfl ?_; intro u; clear u))
    all_goals (first | ((refine con_end ?_ rfl; intro u; clear u; refine ⟨rfl, rfl, EntGoal.mk ?_ ?_⟩ <;> (repeat' (first | exact trivial | (with_reducible rfl) | apply And.intro | rfl))); done))
  by_cases hg : 8 < b.length
  · have hn : ¬ tcOk b := fun q => by have := q.2.2.1 (by omega); omega
    rw [tcC_no hn, tcE_no (by omega) (by omega) (by omega) (fun q => by have := q.1; omega) hn]
    refine con_of_call2 rfl ?_
    refine call_inline Try.func16 rfl rfl ?_
    intro _
    repeat' (first | (refine is_split ?_; (first | refine sp_yes (by exact dec_t (by omega)) ?_ | refine sp_no (by exact dec_f (by omega)) ?_) <;> (intro u; clear u)) | (refine is_asked ?_; (first | (refine asked _ (ix_eq 0 (by rfl) (by omega)) ?_) | refine asked () ⟨by omega, by omega⟩ ?_); intro u; clear u) | (refine is_call ?_; refine call_inline Try.func45 rfl rfl ?_; intro u; clear u))
    all_goals (first | ((refine con_end ?_ rfl; intro u; clear u; refine ⟨rfl, rfl, EntGoal.mk ?_ ?_⟩ <;> (repeat' (first | exact trivial | (with_reducible rfl) | apply And.intro | rfl))); done))
  have hlen : b.length = 8 := by omega
  have e1 := rtake_num hb (off := 3) (n := 4) (by omega) (by omega)
  have hc : rdC b = ⟨b.getD 0 0, b.getD 7 0, b.getD 1 0, b.getD 2 0, numAt b 3 4, 0, 0, zeroSh⟩ := by unfold rdC; rw [if_neg (by omega), if_neg (by omega), if_pos hk]
  have hR := refctlrightn_con (c := ⟨b.getD 0 0, b.getD 7 0, b.getD 1 0, b.getD 2 0, numAt b 3 4, 0, 0, zeroSh⟩) (by show (0 : Int) ≤ b.getD 7 0 ∧ b.getD 7 0 ≤ 255; omega) rfl
  by_cases hok : okCtl (rdC b)
  · have ht : tcOk b := ⟨by omega, fun q => absurd q (by omega), fun q => by omega, hok⟩
    rw [tcC_yes ht, tcE_yes ht, hc]
    rw [hc] at hok
    have hR := con_yes hR hok
    refine con_of_call2 rfl ?_
    refine call_inline Try.func16 rfl rfl ?_
    intro _
    repeat' (first | (refine is_split ?_; (first | refine sp_yes (by exact dec_t (by omega)) ?_ | refine sp_no (by exact dec_f (by omega)) ?_) <;> (intro u; clear u)) | (refine is_asked ?_; (first | (refine is_wrap ?_; refine asked _ (wrap_lohi (by simp only [lo, hi]; omega) (by simp only [lo, hi]; omega)) ?_) | (refine asked _ (slice_at 3 7 (by omega) (by omega) (by omega) (by omega)) ?_) | (refine asked _ (ix_eq 0 (by rfl) (by omega)) ?_) | (refine asked _ (ix_eq 1 (by rfl) (by omega)) ?_) | (refine asked _ (ix_eq 2 (by rfl) (by omega)) ?_) | (refine asked _ (ix_eq 7 (by rfl) (by omega)) ?_) | refine asked () ⟨by omega, by omega⟩ ?_); intro u; clear u) | (refine is_draw ?_; refine draw_step mixed (by kernel_rfl) ?_; intro u; clear u) | (refine is_call ?_; (first | refine call_inline Try.func45 rfl rfl ?_ | refine call_inline Try.func47 rfl rfl ?_ | refine call_auto (e1) (lets_rfl rfl) (by exact ⟨⟨_, rfl, rfl, rfl⟩, trivial⟩) rfl ?_ | refine call_le (by (repeat' (first | exact trivial | apply And.intro | exact rfl)); (first | done | fail)) (hR) (by exact trivial) rfl ?_); intro u; clear u))
    all_goals (first | ((refine con_end ?_ rfl; intro u; clear u; refine ⟨rfl, rfl, EntGoal.mk ?_ ?_⟩ <;> (repeat' (first | exact trivial | (with_reducible rfl) | apply And.intro | rfl))); done))
  · have ht : ¬ tcOk b := fun q => hok q.2.2.2
    rw [tcC_no ht, tcE_no (by omega) (by omega) (by omega) (fun q => by have := q.1; omega) ht]
    rw [hc] at hok
    have hR := con_no hR hok
    refine con_of_call2 rfl ?_
    refine call_inline Try.func16 rfl rfl ?_
    intro _
    repeat' (first | (refine is_split ?_; (first | refine sp_yes (by exact dec_t (by omega)) ?_ | refine sp_no (by exact dec_f (by omega)) ?_) <;> (intro u; clear u)) | (refine is_asked ?_; (first | (refine is_wrap ?_; refine asked _ (wrap_lohi (by simp only [lo, hi]; omega) (by simp only [lo, hi]; omega)) ?_) | (refine asked _ (slice_at 3 7 (by omega) (by omega) (by omega) (by omega)) ?_) | (refine asked _ (ix_eq 0 (by rfl) (by omega)) ?_) | (refine asked _ (ix_eq 1 (by rfl) (by omega)) ?_) | (refine asked _ (ix_eq 2 (by rfl) (by omega)) ?_) | (refine asked _ (ix_eq 7 (by rfl) (by omega)) ?_) | refine asked () ⟨by omega, by omega⟩ ?_); intro u; clear u) | (refine is_draw ?_; refine draw_step mixed (by kernel_rfl) ?_; intro u; clear u) | (refine is_call ?_; (first | refine call_inline Try.func45 rfl rfl ?_ | refine call_inline Try.func47 rfl rfl ?_ | refine call_auto (e1) (lets_rfl rfl) (by exact ⟨⟨_, rfl, rfl, rfl⟩, trivial⟩) rfl ?_ | refine call_le (by (repeat' (first | exact trivial | apply And.intro | exact rfl)); (first | done | fail)) (hR) (by exact trivial) rfl ?_); intro u; clear u))
    all_goals (first | ((refine con_end ?_ rfl; intro u; clear u; refine ⟨rfl, rfl, EntGoal.mk ?_ ?_⟩ <;> (repeat' (first | exact trivial | (with_reducible rfl) | apply And.intro | rfl))); done))
theorem rctake5e60 {b : List Int} (hb : Bytes b) (hl : b.length ≤ 100000) (hk : b.getD 0 0 = 5) (hs : ¬ b.length < 2) {sh : Sh} (hT : CallCon Try.prog 46 [.one (.sl 0 2 (b.length - 2))] [.row (ints .u8 b) 1 5 false] (.tup [shT 0 sh, .one (.v (.int .i64 60))]) [.row (rowsV sh.rows) 5 101 true]) : CallCon Try.prog 16 [.one (.sl 0 0 b.length)] [.row (ints .u8 b) 1 5 false] (.tup [ctlT 0 zeroCtl, .one (.v (.int .i64 60))]) [.row (rowsV zeroCtl.sh.rows) 5 101 true] := by
  have hT := con_n2 hT
  have y0 := byte_bd hb 0
  have y1 := byte_bd hb 1
  have y2 := byte_bd hb 2
  have y3 := byte_bd hb 3
  have y4 := byte_bd hb 4
  have y5 := byte_bd hb 5
  have y6 := byte_bd hb 6
  have y7 := byte_bd hb 7
  refine con_of_call2 rfl ?_
  refine call_inline Try.func16 rfl rfl ?_
  intro _
  repeat' (first | (refine is_split ?_; (first | refine sp_yes (by exact dec_t (by omega)) ?_ | refine sp_no (by exact dec_f (by omega)) ?_) <;> (intro u; clear u)) | (refine is_asked ?_; (first | (refine asked _ (slice_at 2 b.length (by omega) (by omega) (by omega) (by omega)) ?_) | (refine asked _ (ix_eq 0 (by rfl) (by omega)) ?_) | refine asked () ⟨by omega, by omega⟩ ?_); intro u; clear u) | (refine is_call ?_; (first | refine call_inline Try.func45 rfl rfl ?_ | refine call_auto (hT) (lets_rfl rfl) (by exact ⟨⟨_, rfl, rfl, rfl⟩, trivial⟩) rfl ?_); intro u; clear u))
  all_goals (first | ((refine con_end ?_ rfl; intro u; clear u; refine ⟨rfl, rfl, EntGoal.mk ?_ ?_⟩ <;> (repeat' (first | exact trivial | (with_reducible rfl) | apply And.intro | rfl))); done))
theorem rctake5e61 {b : List Int} (hb : Bytes b) (hl : b.length ≤ 100000) (hk : b.getD 0 0 = 5) (hs : ¬ b.length < 2) {sh : Sh} (hT : CallCon Try.prog 46 [.one (.sl 0 2 (b.length - 2))] [.row (ints .u8 b) 1 5 false] (.tup [shT 0 sh, .one (.v (.int .i64 61))]) [.row (rowsV sh.rows) 5 101 true]) : CallCon Try.prog 16 [.one (.sl 0 0 b.length)] [.row (ints .u8 b) 1 5 false] (.tup [ctlT 0 zeroCtl, .one (.v (.int .i64 61))]) [.row (rowsV zeroCtl.sh.rows) 5 101 true] := by
  have hT := con_n2 hT
  have y0 := byte_bd hb 0
  have y1 := byte_bd hb 1
  have y2 := byte_bd hb 2
  have y3 := byte_bd hb 3
  have y4 := byte_bd hb 4
  have y5 := byte_bd hb 5
  have y6 := byte_bd hb 6
  have y7 := byte_bd hb 7
  refine con_of_call2 rfl ?_
  refine call_inline Try.func16 rfl rfl ?_
  intro _
  repeat' (first | (refine is_split ?_; (first | refine sp_yes (by exact dec_t (by omega)) ?_ | refine sp_no (by exact dec_f (by omega)) ?_) <;> (intro u; clear u)) | (refine is_asked ?_; (first | (refine asked _ (slice_at 2 b.length (by omega) (by omega) (by omega) (by omega)) ?_) | (refine asked _ (ix_eq 0 (by rfl) (by omega)) ?_) | refine asked () ⟨by omega, by omega⟩ ?_); intro u; clear u) | (refine is_call ?_; (first | refine call_inline Try.func45 rfl rfl ?_ | refine call_auto (hT) (lets_rfl rfl) (by exact ⟨⟨_, rfl, rfl, rfl⟩, trivial⟩) rfl ?_); intro u; clear u))
  all_goals (first | ((refine con_end ?_ rfl; intro u; clear u; refine ⟨rfl, rfl, EntGoal.mk ?_ ?_⟩ <;> (repeat' (first | exact trivial | (with_reducible rfl) | apply And.intro | rfl))); done))
theorem rctake5y {b : List Int} (hb : Bytes b) (hl : b.length ≤ 100000) (hk : b.getD 0 0 = 5) (hs : ¬ b.length < 2) {sh : Sh} (hl2 : sh.rows.length ≤ 1000000) (hT : CallCon Try.prog 46 [.one (.sl 0 2 (b.length - 2))] [.row (ints .u8 b) 1 5 false] (.tup [shT 0 sh, .one (.v (.int .i64 0))]) [.row (rowsV sh.rows) 5 101 true]) (hok : okCtl ⟨b.getD 0 0, 0, b.getD 1 0, 0, 0, 0, 0, sh⟩) : CallCon Try.prog 16 [.one (.sl 0 0 b.length)] [.row (ints .u8 b) 1 5 false] (.tup [ctlT 0 (⟨b.getD 0 0, 0, b.getD 1 0, 0, 0, 0, 0, sh⟩ : Ctl), .one (.v (.int .i64 0))]) [.row (rowsV sh.rows) 5 101 true] := by
  have hT := con_n2 hT
  have y0 := byte_bd hb 0
  have y1 := byte_bd hb 1
  have y2 := byte_bd hb 2
  have y3 := byte_bd hb 3
  have y4 := byte_bd hb 4
  have y5 := byte_bd hb 5
  have y6 := byte_bd hb 6
  have y7 := byte_bd hb 7
  have hR := con_yes (refctlright_con (c := ⟨b.getD 0 0, 0, b.getD 1 0, 0, 0, 0, 0, sh⟩) (by show (0 : Int) ≤ 0 ∧ (0 : Int) ≤ 255; decide) hl2) hok
  refine con_of_call2 rfl ?_
  refine call_inline Try.func16 rfl rfl ?_
  intro _
  repeat' (first | (refine is_split ?_; (first | refine sp_yes (by exact dec_t (by omega)) ?_ | refine sp_no (by exact dec_f (by omega)) ?_) <;> (intro u; clear u)) | (refine is_asked ?_; (first | (refine is_wrap ?_; refine asked _ (wrap_lohi (by simp only [lo, hi]; omega) (by simp only [lo, hi]; omega)) ?_) | (refine asked _ (slice_at 2 b.length (by omega) (by omega) (by omega) (by omega)) ?_) | (refine asked _ (ix_eq 0 (by rfl) (by omega)) ?_) | (refine asked _ (ix_eq 1 (by rfl) (by omega)) ?_) | refine asked () ⟨by omega, by omega⟩ ?_); intro u; clear u) | (refine is_draw ?_; refine draw_step mixed (by kernel_rfl) ?_; intro u; clear u) | (refine is_call ?_; (first | refine call_inline Try.func45 rfl rfl ?_ | refine call_auto (hT) (lets_rfl rfl) (by exact ⟨⟨_, rfl, rfl, rfl⟩, trivial⟩) rfl ?_ | refine call_le (by (repeat' (first | exact trivial | apply And.intro | exact rfl)); (first | done | fail)) (hR) (by exact ⟨⟨_, rfl, rfl, rfl⟩, trivial⟩) rfl ?_); intro u; clear u))
  all_goals (first | ((refine con_end ?_ rfl; intro u; clear u; refine ⟨rfl, rfl, EntGoal.mk ?_ ?_⟩ <;> (repeat' (first | exact trivial | (with_reducible rfl) | apply And.intro | rfl))); done))
theorem rctake5n {b : List Int} (hb : Bytes b) (hl : b.length ≤ 100000) (hk : b.getD 0 0 = 5) (hs : ¬ b.length < 2) {sh : Sh} (hl2 : sh.rows.length ≤ 1000000) (hT : CallCon Try.prog 46 [.one (.sl 0 2 (b.length - 2))] [.row (ints .u8 b) 1 5 false] (.tup [shT 0 sh, .one (.v (.int .i64 0))]) [.row (rowsV sh.rows) 5 101 true]) (hok : ¬ okCtl ⟨b.getD 0 0, 0, b.getD 1 0, 0, 0, 0, 0, sh⟩) : CallCon Try.prog 16 [.one (.sl 0 0 b.length)] [.row (ints .u8 b) 1 5 false] (.tup [ctlT 0 zeroCtl, .one (.v (.int .i64 60))]) [.row (rowsV zeroCtl.sh.rows) 5 101 true] := by
  have hT := con_n2 hT
  have y0 := byte_bd hb 0
  have y1 := byte_bd hb 1
  have y2 := byte_bd hb 2
  have y3 := byte_bd hb 3
  have y4 := byte_bd hb 4
  have y5 := byte_bd hb 5
  have y6 := byte_bd hb 6
  have y7 := byte_bd hb 7
  have hR := con_no (refctlright_con (c := ⟨b.getD 0 0, 0, b.getD 1 0, 0, 0, 0, 0, sh⟩) (by show (0 : Int) ≤ 0 ∧ (0 : Int) ≤ 255; decide) hl2) hok
  refine con_of_call2 rfl ?_
  refine call_inline Try.func16 rfl rfl ?_
  intro _
  repeat' (first | (refine is_split ?_; (first | refine sp_yes (by exact dec_t (by omega)) ?_ | refine sp_no (by exact dec_f (by omega)) ?_) <;> (intro u; clear u)) | (refine is_asked ?_; (first | (refine is_wrap ?_; refine asked _ (wrap_lohi (by simp only [lo, hi]; omega) (by simp only [lo, hi]; omega)) ?_) | (refine asked _ (slice_at 2 b.length (by omega) (by omega) (by omega) (by omega)) ?_) | (refine asked _ (ix_eq 0 (by rfl) (by omega)) ?_) | (refine asked _ (ix_eq 1 (by rfl) (by omega)) ?_) | refine asked () ⟨by omega, by omega⟩ ?_); intro u; clear u) | (refine is_draw ?_; refine draw_step mixed (by kernel_rfl) ?_; intro u; clear u) | (refine is_call ?_; (first | refine call_inline Try.func45 rfl rfl ?_ | refine call_auto (hT) (lets_rfl rfl) (by exact ⟨⟨_, rfl, rfl, rfl⟩, trivial⟩) rfl ?_ | refine call_le (by (repeat' (first | exact trivial | apply And.intro | exact rfl)); (first | done | fail)) (hR) (by exact ⟨⟨_, rfl, rfl, rfl⟩, trivial⟩) rfl ?_); intro u; clear u))
  all_goals (first | ((refine con_end ?_ rfl; intro u; clear u; refine ⟨rfl, rfl, EntGoal.mk ?_ ?_⟩ <;> (repeat' (first | exact trivial | (with_reducible rfl) | apply And.intro | rfl))); done))
theorem rctake5 {b : List Int} (hb : Bytes b) (hl : b.length ≤ 100000) (hk : b.getD 0 0 = 5) : CallCon Try.prog 16 [.one (.sl 0 0 b.length)] [.row (ints .u8 b) 1 5 false] (.tup [ctlT 0 (tcC b), .one (.v (.int .i64 (tcE b)))]) [.row (rowsV (tcC b).sh.rows) 5 101 true] := by
  have h0 := getD_pos (b := b) (by omega)
  have hz : szC (b.getD 0 0) = 2 := by rw [hk]; rfl
  have y0 := byte_bd hb 0
  have y1 := byte_bd hb 1
  have y2 := byte_bd hb 2
  have y3 := byte_bd hb 3
  have y4 := byte_bd hb 4
  have y5 := byte_bd hb 5
  have y6 := byte_bd hb 6
  have y7 := byte_bd hb 7
  by_cases hs : b.length < 2
  · have hn : ¬ tcOk b := fun q => by have := q.2.1 (by omega); omega
    rw [tcC_no hn, tcE_short (by omega) (by omega) (by omega)]
    refine con_of_call2 rfl ?_
    refine call_inline Try.func16 rfl rfl ?_
    intro _
    repeat' (first | (refine is_split ?_; (first | refine sp_yes (by exact dec_t (by omega)) ?_ | refine sp_no (by exact dec_f (by omega)) ?_) <;> (intro u; clear u)) | (refine is_asked ?_; (first | (refine asked _ (ix_eq 0 (by rfl) (by omega)) ?_) | refine asked () ⟨by omega, by omega⟩ ?_); intro u; clear u) | (refine is_call ?_; refine call_inline Try.func45 rfl rfl ?_; intro u; clear u))
    all_goals (first | ((refine con_end ?_ rfl; intro u; clear u; refine ⟨rfl, rfl, EntGoal.mk ?_ ?_⟩ <;> (repeat' (first | exact trivial | (with_reducible rfl) | apply And.intro | rfl))); done))
  have hT := reftake_off hb hl (p := 2) (n := b.length - 2) (by omega)
  have hl2 : (tkSh (b.drop 2)).rows.length ≤ 1000000 := tkSh_len (by rw [List.length_drop]; omega)
  by_cases he : tkE (b.drop 2) = 0
  rotate_left
  · have hn : ¬ tcOk b := fun q => he (q.2.1 hk).2
    rw [tcC_no hn, tcE_sheet (by omega) (by omega) (by omega) ⟨hk, he⟩]
    rcases tkE_cases (b.drop 2) with e | e | e
    · exact absurd e he
    · rw [e] at hT ⊢; exact rctake5e60 hb hl hk hs hT
    · rw [e] at hT ⊢; exact rctake5e61 hb hl hk hs hT
  rw [he] at hT
  have hc : rdC b = ⟨b.getD 0 0, 0, b.getD 1 0, 0, 0, 0, 0, tkSh (b.drop 2)⟩ := by unfold rdC; rw [if_neg (by omega), if_pos hk]
  by_cases hok : okCtl (rdC b)
  · have ht : tcOk b := ⟨by omega, fun q => ⟨by omega, he⟩, fun q => by omega, hok⟩
    rw [tcC_yes ht, tcE_yes ht, hc]
    rw [hc] at hok
    exact rctake5y hb hl hk hs hl2 hT hok
  · have ht : ¬ tcOk b := fun q => hok q.2.2.2
    rw [tcC_no ht, tcE_no (by omega) (by omega) (by omega) (fun q => q.2 he) ht]
    rw [hc] at hok
    exact rctake5n hb hl hk hs hl2 hT hok
theorem rctake6 {b : List Int} (hb : Bytes b) (hl : b.length ≤ 100000) (hk : b.getD 0 0 = 6) : CallCon Try.prog 16 [.one (.sl 0 0 b.length)] [.row (ints .u8 b) 1 5 false] (.tup [ctlT 0 (tcC b), .one (.v (.int .i64 (tcE b)))]) [.row (rowsV (tcC b).sh.rows) 5 101 true] := by
  have h0 := getD_pos (b := b) (by omega)
  have hz : szC (b.getD 0 0) = 8 := by rw [hk]; rfl
  have y0 := byte_bd hb 0
  have y1 := byte_bd hb 1
  have y2 := byte_bd hb 2
  have y3 := byte_bd hb 3
  have y4 := byte_bd hb 4
  have y5 := byte_bd hb 5
  have y6 := byte_bd hb 6
  have y7 := byte_bd hb 7
  by_cases hs : b.length < 8
  · have hn : ¬ tcOk b := fun q => by have := q.2.2.1 (by omega); omega
    rw [tcC_no hn, tcE_short (by omega) (by omega) (by omega)]
    refine con_of_call2 rfl ?_
    refine call_inline Try.func16 rfl rfl ?_
    intro _
    repeat' (first | (refine is_split ?_; (first | refine sp_yes (by exact dec_t (by omega)) ?_ | refine sp_no (by exact dec_f (by omega)) ?_) <;> (intro u; clear u)) | (refine is_asked ?_; (first | (refine asked _ (ix_eq 0 (by rfl) (by omega)) ?_) | refine asked () ⟨by omega, by omega⟩ ?_); intro u; clear u) | (refine is_call ?_; refine call_inline Try.func45 rfl rfl ?_; intro u; clear u))
    all_goals (first | ((refine con_end ?_ rfl; intro u; clear u; refine ⟨rfl, rfl, EntGoal.mk ?_ ?_⟩ <;> (repeat' (first | exact trivial | (with_reducible rfl) | apply And.intro | rfl))); done))
  by_cases hg : 8 < b.length
  · have hn : ¬ tcOk b := fun q => by have := q.2.2.1 (by omega); omega
    rw [tcC_no hn, tcE_no (by omega) (by omega) (by omega) (fun q => by have := q.1; omega) hn]
    refine con_of_call2 rfl ?_
    refine call_inline Try.func16 rfl rfl ?_
    intro _
    repeat' (first | (refine is_split ?_; (first | refine sp_yes (by exact dec_t (by omega)) ?_ | refine sp_no (by exact dec_f (by omega)) ?_) <;> (intro u; clear u)) | (refine is_asked ?_; (first | (refine asked _ (ix_eq 0 (by rfl) (by omega)) ?_) | refine asked () ⟨by omega, by omega⟩ ?_); intro u; clear u) | (refine is_call ?_; refine call_inline Try.func45 rfl rfl ?_; intro u; clear u))
    all_goals (first | ((refine con_end ?_ rfl; intro u; clear u; refine ⟨rfl, rfl, EntGoal.mk ?_ ?_⟩ <;> (repeat' (first | exact trivial | (with_reducible rfl) | apply And.intro | rfl))); done))
  have hlen : b.length = 8 := by omega
  have e1 := rtake_num hb (off := 2) (n := 6) (by omega) (by omega)
  have hc : rdC b = ⟨b.getD 0 0, 0, b.getD 1 0, 0, 0, 0, numAt b 2 6, zeroSh⟩ := by unfold rdC; rw [if_pos hk]
  have hR := refctlrightn_con (c := ⟨b.getD 0 0, 0, b.getD 1 0, 0, 0, 0, numAt b 2 6, zeroSh⟩) (by show (0 : Int) ≤ 0 ∧ (0 : Int) ≤ 255; decide) rfl
  by_cases hok : okCtl (rdC b)
  · have ht : tcOk b := ⟨by omega, fun q => absurd q (by omega), fun q => by omega, hok⟩
    rw [tcC_yes ht, tcE_yes ht, hc]
    rw [hc] at hok
    have hR := con_yes hR hok
    refine con_of_call2 rfl ?_
    refine call_inline Try.func16 rfl rfl ?_
    intro _
    repeat' (first | (refine is_split ?_; (first | refine sp_yes (by exact dec_t (by omega)) ?_ | refine sp_no (by exact dec_f (by omega)) ?_) <;> (intro u; clear u)) | (refine is_asked ?_; (first | (refine is_wrap ?_; refine asked _ (wrap_lohi (by simp only [lo, hi]; omega) (by simp only [lo, hi]; omega)) ?_) | (refine asked _ (slice_at 2 8 (by omega) (by omega) (by omega) (by omega)) ?_) | (refine asked _ (ix_eq 0 (by rfl) (by omega)) ?_) | (refine asked _ (ix_eq 1 (by rfl) (by omega)) ?_) | refine asked () ⟨by omega, by omega⟩ ?_); intro u; clear u) | (refine is_draw ?_; refine draw_step mixed (by kernel_rfl) ?_; intro u; clear u) | (refine is_call ?_; (first | refine call_inline Try.func45 rfl rfl ?_ | refine call_inline Try.func47 rfl rfl ?_ | refine call_auto (e1) (lets_rfl rfl) (by exact ⟨⟨_, rfl, rfl, rfl⟩, trivial⟩) rfl ?_ | refine call_le (by (repeat' (first | exact trivial | apply And.intro | exact rfl)); (first | done | fail)) (hR) (by exact trivial) rfl ?_); intro u; clear u))
    all_goals (first | ((refine con_end ?_ rfl; intro u; clear u; refine ⟨rfl, rfl, EntGoal.mk ?_ ?_⟩ <;> (repeat' (first | exact trivial | (with_reducible rfl) | apply And.intro | rfl))); done))
  · have ht : ¬ tcOk b := fun q => hok q.2.2.2
    rw [tcC_no ht, tcE_no (by omega) (by omega) (by omega) (fun q => by have := q.1; omega) ht]
    rw [hc] at hok
    have hR := con_no hR hok
    refine con_of_call2 rfl ?_
    refine call_inline Try.func16 rfl rfl ?_
    intro _
    repeat' (first | (refine is_split ?_; (first | refine sp_yes (by exact dec_t (by omega)) ?_ | refine sp_no (by exact dec_f (by omega)) ?_) <;> (intro u; clear u)) | (refine is_asked ?_; (first | (refine is_wrap ?_; refine asked _ (wrap_lohi (by simp only [lo, hi]; omega) (by simp only [lo, hi]; omega)) ?_) | (refine asked _ (slice_at 2 8 (by omega) (by omega) (by omega) (by omega)) ?_) | (refine asked _ (ix_eq 0 (by rfl) (by omega)) ?_) | (refine asked _ (ix_eq 1 (by rfl) (by omega)) ?_) | refine asked () ⟨by omega, by omega⟩ ?_); intro u; clear u) | (refine is_draw ?_; refine draw_step mixed (by kernel_rfl) ?_; intro u; clear u) | (refine is_call ?_; (first | refine call_inline Try.func45 rfl rfl ?_ | refine call_inline Try.func47 rfl rfl ?_ | refine call_auto (e1) (lets_rfl rfl) (by exact ⟨⟨_, rfl, rfl, rfl⟩, trivial⟩) rfl ?_ | refine call_le (by (repeat' (first | exact trivial | apply And.intro | exact rfl)); (first | done | fail)) (hR) (by exact trivial) rfl ?_); intro u; clear u))
    all_goals (first | ((refine con_end ?_ rfl; intro u; clear u; refine ⟨rfl, rfl, EntGoal.mk ?_ ?_⟩ <;> (repeat' (first | exact trivial | (with_reducible rfl) | apply And.intro | rfl))); done))
theorem rctake_con {b : List Int} (hb : Bytes b) (hl : b.length ≤ 100000) : CallCon Try.prog 16 [.one (.sl 0 0 b.length)] [.row (ints .u8 b) 1 5 false] (.tup [ctlT 0 (tcC b), .one (.v (.int .i64 (tcE b)))]) [.row (rowsV (tcC b).sh.rows) 5 101 true] := by
  by_cases h0 : b.length = 0
  · exact rctake_0 h0
  by_cases h : b.getD 0 0 < 1 ∨ 6 < b.getD 0 0
  · exact rctake_kind hb h0 h
  have q : b.getD 0 0 = 1 ∨ b.getD 0 0 = 2 ∨ b.getD 0 0 = 3 ∨ b.getD 0 0 = 4 ∨ b.getD 0 0 = 5 ∨ b.getD 0 0 = 6 := by omega
  rcases q with q | q | q | q | q | q
  · exact rctake1 hb hl q
  · exact rctake2 hb hl q
  · exact rctake3 hb hl q
  · exact rctake4 hb hl q
  · exact rctake5 hb hl q
  · exact rctake6 hb hl q
end Go.Proofs.S19
