/- Contracts of functions of the program, or a row of the seat, proved out of them. No condition beyond those that stand in each statement. -/
import Derived.Test.YtahoihfbjlgpgaaS08gHn
import Derived.Test.YtahoihfbjlgpgaaS08gHf
namespace Go.Proofs.S08
open Go Go.SE
set_option maxRecDepth 100000
set_option maxHeartbeats 4000000
attribute [local irreducible] specI

theorem tells0_con {c s : Int} (hc : byte c) (hs : byte s) {b : List Int} (hb : Bytes b) (hl : b.length ≤ 100) {t u : Tu} (ht : t.Wf) (hu : u.Wf) : CallCon Try.prog 6 [.one (.v (.int .u8 c)), .one (.v (.int .u8 s)), .one (.sl 0 0 b.length), tuT t, tuT u, .one (.sl 1 0 0)] [.row (ints .u8 b) 1 5 false, .row (tusV []) 4 31 false] (.t (.one (.v (.bool true)))) [] := by
  have hB := tubytes_con ht
  have hRO := refof_con ht
  refine con_of_call2 rfl ?_
  refine call_inline Try.func6 rfl rfl ?_
  intro _
  repeat' (first | (refine is_split ?_; refine sp_no (by (first | rfl | exact dec_f (by omega))) ?_ <;> (intro u; clear u)) | (refine is_call ?_; (first | refine call_inline Try.func18 rfl rfl ?_ | refine call_inline Try.func19 rfl rfl ?_); intro u; clear u))
  refine is_loop ?_
  refine loop_step ?_
  intro u
  clear u
  repeat' (first | (refine is_call (f := 37) ?_; refine call_load32 load32 rfl rfl ?_; intro u; clear u) | (refine is_draw (id := 5) ?_; refine mask_start mixed rfl ?_) | (refine is_mask ?_; (first | (refine mask_take 0 (by rfl) (by show still Try.prog _ = true; decide +kernel) (by decide +kernel) ?_; intro u; clear u) | (refine mask_take 1 (by rfl) (by show still Try.prog _ = true; decide +kernel) (by decide +kernel) ?_; intro u; clear u) | (refine mask_take 2 (by rfl) (by show still Try.prog _ = true; decide +kernel) (by decide +kernel) ?_; intro u; clear u) | (refine mask_take 3 (by rfl) (by show still Try.prog _ = true; decide +kernel) (by decide +kernel) ?_; intro u; clear u) | (refine mask_take 5 (by rfl) (by show still Try.prog _ = true; decide +kernel) (by decide +kernel) ?_; intro u; clear u) | (refine mask_take 6 (by rfl) (by show still Try.prog _ = true; decide +kernel) (by decide +kernel) ?_; intro u; clear u) | (refine mask_take 8 (by rfl) (by show still Try.prog _ = true; decide +kernel) (by decide +kernel) ?_; intro u; clear u) | (refine mask_take 9 (by rfl) (by show still Try.prog _ = true; decide +kernel) (by decide +kernel) ?_; intro u; clear u) | (refine mask_take 10 (by rfl) (by show still Try.prog _ = true; decide +kernel) (by decide +kernel) ?_; intro u; clear u) | (refine mask_take 13 (by rfl) (by show still Try.prog _ = true; decide +kernel) (by decide +kernel) ?_; intro u; clear u) | (refine mask_take 14 (by rfl) (by show still Try.prog _ = true; decide +kernel) (by decide +kernel) ?_; intro u; clear u) | (refine mask_step 4 (by rfl) (by decide +kernel) ?_; intro u; clear u) | (refine mask_step 7 (by rfl) (by decide +kernel) ?_; intro u; clear u) | (refine mask_step 11 (by rfl) (by decide +kernel) ?_; intro u; clear u) | (refine mask_step 12 (by rfl) (by decide +kernel) ?_; intro u; clear u))) | (refine is_mask ?_; (refine held_start [15, 17] ?_; refine is_held ?_)) | (refine is_held ?_; (first | (refine held_load [15, 17] 15 _ (by rfl) (.head _) rfl (by decide +kernel) ?_; intro u; clear u) | (refine held_load [15, 17] 17 _ (by rfl) (.tail _ (.head _)) rfl (by decide +kernel) ?_; intro u; clear u) | (refine held_step [15, 17] 16 (by rfl) rfl (by decide +kernel) ?_; intro u; clear u))) | (refine is_draw (id := 3) ?_; refine mask_start mixed rfl ?_) | (refine is_mask ?_; (refine held_start [2] ?_; refine is_held ?_)) | (refine is_held ?_; (first | (refine held_load [2] 2 _ (by rfl) (.head _) rfl (by decide +kernel) ?_; intro u; clear u) | (refine held_step [2] 1 (by rfl) rfl (by decide +kernel) ?_; intro u; clear u))) | (refine is_call (f := 56) ?_; refine once_first (.n .u32 0 :: .n .i32 1 :: .n .u32 0 :: .n .i32 0 :: rep [.n .u8 0] 256) onceFirst rfl rfl rfl rfl (by rfl) ?_; intro u; clear u) | (refine is_split ?_; refine sp_no (by rfl) ?_ <;> (intro u; clear u)) | (refine is_call ?_; (first | refine call_inline Try.func20 rfl rfl ?_ | refine call_inline Try.func21 rfl rfl ?_ | refine call_inline Try.func38 rfl rfl ?_ | refine call_inline Try.func57 rfl rfl ?_); intro u; clear u))
  refine loop_keep (fun k : Nat => 256 - k) (fun k => k ≤ 256) [0] (fun k => [(2, .t (.one (.v (.int .i64 k))))]) (fun k => [(4, .box (hshS 0 1 0 k) 1 76)]) (fun _ => []) [] 0 0 (Nat.zero_le _) ?_ ?_
  · (intro u; clear u; refine ⟨rfl, rfl, EntGoal.mk ?_ ?_⟩ <;> (repeat' (first | exact trivial | (with_reducible rfl) | apply And.intro | rfl)))
  intro k hk u
  clear u
  by_cases hc2 : k < 256
  · have hT := turn_con (c := (k : Int)) ⟨by omega, by omega⟩
    repeat' (first | (refine is_split ?_; refine sp_yes (by exact dec_t (by omega)) ?_ <;> (intro u; clear u)) | (refine is_asked ?_; (first | (refine is_spec ?_; (with_reducible refine asked _ (sp_add (by simp only [lo, hi]; omega) (by simp only [lo, hi]; omega)) ?_)) | (refine is_wrap ?_; refine asked _ (wrap_lohi (by simp only [lo, hi]; omega) (by simp only [lo, hi]; omega)) ?_) | (refine asked _ (tab_put (d := 0) (m := 1) (n := 0) k hc2 (by rfl) (by show 0 + 4 + Int.toNat (k : Int) * 1 = 4 + k; omega)) ?_) | refine asked () ⟨by omega, by omega⟩ ?_); intro u; clear u) | (refine is_draw ?_; refine draw_step mixed (by kernel_rfl) ?_; intro u; clear u) | (refine is_dcall ?_; refine dcall_auto (hT) (lets_rfl rfl) (by exact trivial) rfl ?_; intro u; clear u))
    refine again (k + 1) (by omega) (by omega) ?_
    (intro u; clear u; refine ⟨rfl, rfl, EntGoal.mk ?_ ?_⟩ <;> (repeat' (first | exact trivial | (with_reducible rfl) | apply And.intro | rfl)))
  obtain rfl : k = 256 := by omega
  repeat' (first | (refine is_kept ?_; refine Kept.mk ?_ ?_; focus (repeat' (first | exact trivial | apply And.intro | exact rfl))) | (refine is_held ?_; (first | (refine held_step [2] 3 (by rfl) rfl (by decide +kernel) ?_; intro u; clear u) | (refine held_step [2] 4 (by rfl) rfl (by decide +kernel) ?_; intro u; clear u))) | (refine is_call (f := 58) ?_; refine call_add32 (l := hshS 0 1 1 256) add32 rfl rfl rfl (by rfl) ?_; intro u; clear u) | (refine once_end (hshS 1 0 1 256) rfl rfl rfl rfl (by rfl) ?_; intro u; clear u) | (refine is_split ?_; refine sp_no (by rfl) ?_ <;> (intro u; clear u)) | (refine is_range ?_; refine range_step rfl rfl ?_; intro u; clear u) | (refine is_call ?_; (first | refine call_auto (hB) (lets_rfl rfl) (by exact trivial) rfl ?_ | refine call_inline Try.func32 rfl rfl ?_ | refine call_inline Try.func53 rfl rfl ?_ | refine call_inline Try.func70 rfl rfl ?_); intro u; clear u))
  refine loop_keep (fun k : Nat => 12 - k) (fun k => k ≤ 12) [0, 2, 3, 7, 8] (fun k => [(9, .t (.one (.v (.int .i64 k))))]) (fun k => [(8, .box [.v (.int .u8 (goB 0 ((tuB t).take k)))] 1 5), (10, .box [.v (.int .u8 (goB 0 ((tuB t).take k)))] 1 5)]) (fun _ => [(13, [], [4, 10])]) [] 0 0 (Nat.zero_le _) ?_ ?_
  · (intro u; clear u; refine ⟨rfl, rfl, EntGoal.mk ?_ ?_⟩ <;> (repeat' (first | exact trivial | (with_reducible rfl) | apply And.intro | rfl)))
  intro k hk u
  clear u
  by_cases hc3 : k < 12
  · have hl : (tuB t).length = 12 := rfl
    have ha := goB_byte (s := 0) ⟨by decide, by decide⟩ (bytes_take (tuB_bytes t) k)
    have hx := getD_byte (tuB_bytes t) k
    have hxr := xr_byte ha hx
    obtain ⟨a1, a2⟩ := ha
    obtain ⟨x1, x2⟩ := hx
    obtain ⟨y1, y2⟩ := hxr
    repeat' (first | (refine is_split ?_; refine sp_yes (by exact dec_t (by omega)) ?_ <;> (intro u; clear u)) | (refine is_asked ?_; (first | (refine is_spec ?_; (first | (refine asked (xr _ _) (sp_xor rfl (by omega) (by simp only [hi]; omega) (by omega) (by simp only [hi]; omega)) ?_) | (with_reducible refine asked _ (sp_add (by simp only [lo, hi]; omega) (by simp only [lo, hi]; omega)) ?_))) | (refine asked _ (ix_eq k (by show (0 + Int.toNat (k : Int)) * 1 = _; omega) (by omega)) ?_) | (refine asked _ (tab_get (d := 1) (m := 0) (n := 1) (c := xr (goB 0 ((tuB t).take k)) ((tuB t).getD k 0)) ⟨y1, y2⟩ (by rfl) (by show 0 + 4 + Int.toNat _ * 1 = _; omega)) ?_) | refine asked () ⟨by omega, by omega⟩ ?_); intro u; clear u) | (refine is_yield ?_; refine yield_step rfl rfl rfl rfl ?_; intro u; clear u) | (refine is_call ?_; refine call_inline Try.func59 rfl rfl ?_; intro u; clear u))
    refine again (k + 1) (by omega) (by omega) ?_
    (intro u; clear u; refine ⟨rfl, rfl, EntGoal.mk ?_ ?_⟩ <;> (repeat' (first | exact trivial | (with_reducible rfl) | apply And.intro | rfl)))
    all_goals exact (goB_succ (by rw [hl]; omega)).symm
  obtain rfl : k = 12 := by omega
  rw [show (tuB t).take 12 = tuB t from rfl]
  have hF := folded_con (sumT_byte t)
  repeat' (first | (refine is_held ?_; (first | (refine held_end (by decide +kernel) ?_; intro u; clear u) | (refine held_step [15, 17] 18 (by rfl) rfl (by decide +kernel) ?_; intro u; clear u) | (refine held_step [15, 17] 19 (by rfl) rfl (by decide +kernel) ?_; intro u; clear u) | (refine held_step [15, 17] 20 (by rfl) rfl (by decide +kernel) ?_; intro u; clear u) | (refine held_step [15, 17] 21 (by rfl) rfl (by decide +kernel) ?_; intro u; clear u) | (refine held_step [15, 17] 22 (by rfl) rfl (by decide +kernel) ?_; intro u; clear u) | (refine held_step [15, 17] 23 (by rfl) rfl (by decide +kernel) ?_; intro u; clear u) | (refine held_step [15, 17] 24 (by rfl) rfl (by decide +kernel) ?_; intro u; clear u) | (refine held_step [15, 17] 25 (by rfl) rfl (by decide +kernel) ?_; intro u; clear u))) | (refine is_kept ?_; refine Kept.mk ?_ ?_; focus (repeat' (first | exact trivial | apply And.intro | exact rfl))) | (refine is_held ?_; (first | (refine held_step [2] 5 (by rfl) rfl (by decide +kernel) ?_; intro u; clear u) | (refine held_step [2] 6 (by rfl) rfl (by decide +kernel) ?_; intro u; clear u))) | (refine is_call (f := 37) ?_; refine call_load32 load32 rfl rfl ?_; intro u; clear u) | (refine is_split ?_; refine sp_no (by (first | rfl | exact ndec_f (by omega))) ?_ <;> (intro u; clear u)) | (refine is_call ?_; (first | refine call_auto (hF) (lets_rfl rfl) (by exact trivial) rfl ?_ | refine call_auto (hRO) (lets_rfl rfl) (by exact trivial) rfl ?_ | refine call_inline Try.func20 rfl rfl ?_); intro u; clear u))
  refine is_loop ?_
  refine loop_step ?_
  intro u
  clear u
  have c1 := turn_con hc
  have c2 := refturn_con hc
  have c3 := unturn_con hc
  have c4 := refunturn_con hc
  have c5 := go_con hs hb (by omega) 0 b.length rfl rfl
  have c6 := refgo_con hs hb (by omega) b.length rfl
  have c7 := sum_con ht
  have c8 := refsum_con ht
  have c9 := of_con ht
  have c10 := same_con ht hu
  have c11 := refsame_con ht hu
  repeat' (first | (refine is_split ?_; (first | (refine sp_yes (beq_self_eq_true _) ?_) | refine sp_yes (by exact dec_t (by omega)) ?_ | refine sp_no (by rfl) ?_) <;> (intro u; clear u)) | (refine is_draw ?_; refine draw_step mixed (by kernel_rfl) ?_; intro u; clear u) | (refine is_dcall ?_; (first | refine dcall_auto (c1) (lets_rfl rfl) (by exact trivial) rfl ?_ | refine dcall_auto (c2) (lets_rfl rfl) (by exact trivial) rfl ?_ | refine dcall_auto (c3) (lets_rfl rfl) (by exact trivial) rfl ?_ | refine dcall_auto (c4) (lets_rfl rfl) (by exact trivial) rfl ?_ | refine dcall_auto (c5) (lets_rfl rfl) (by exact ⟨⟨_, rfl, rfl, rfl⟩, trivial⟩) rfl ?_ | refine dcall_auto (c6) (lets_rfl rfl) (by exact ⟨⟨_, rfl, rfl, rfl⟩, trivial⟩) rfl ?_ | refine dcall_auto (c7) (lets_rfl rfl) (by exact trivial) rfl ?_ | refine dcall_auto (c8) (lets_rfl rfl) (by exact trivial) rfl ?_ | refine dcall_auto (c9) (lets_rfl rfl) (by exact trivial) rfl ?_ | refine dcall_auto (hRO) (lets_rfl rfl) (by exact trivial) rfl ?_ | refine dcall_auto (c10) (lets_rfl rfl) (by exact trivial) rfl ?_ | refine dcall_auto (c11) (lets_rfl rfl) (by exact trivial) rfl ?_ | refine dcall_auto (wakes_con) (lets_rfl rfl) (by exact trivial) rfl ?_); intro u; clear u))
  all_goals (first | ((refine con_end ?_ rfl; intro u; clear u; refine ⟨rfl, rfl, EntGoal.mk ?_ ?_⟩ <;> (repeat' (first | exact trivial | (with_reducible rfl) | apply And.intro | rfl))); done))
end Go.Proofs.S08
