/- Contracts of functions of the program, or a row of the seat, proved out of them. No condition beyond those that stand in each statement. -/
import Derived.Test.YtiijiofhofkhkaaS19gP
namespace Go.Proofs.S19
open Go Go.SE
set_option maxRecDepth 100000
set_option maxHeartbeats 4000000
attribute [local irreducible] specI

theorem bytes_app {L B : List Int} {n k : Nat} {news : List Value} (hn : L.length = n) (hk : B.length = k) (h : n + k ≤ 100000) (hnews : news = ints .u8 B) : ints .u8 L ++ news = ints .u8 (L ++ B) ∧ (ints .u8 L).length = n * 1 ∧ news.length = k * 1 ∧ n + k ≤ maxLen ∧ (n + k) * 1 ≤ 140737488355328 := by
  subst hnews
  exact ⟨by rw [ints_app], by rw [ints_length]; omega, by rw [ints_length]; omega, by unfold maxLen; omega, by omega⟩

theorem put6_con (x : Int) : CallCon Try.prog 76 [.one (.v (.int .i64 x)), .one (.n .i64 6)] [] (.t (.one (.sl 0 0 6))) [.row (ints .u8 (be6 x)) 1 5 true] := by
  refine con_of_call2 rfl ?_
  refine call_inline Try.func76 rfl rfl ?_
  intro _
  repeat' (first | (refine is_asked ?_; refine is_wrap (k := .u8) ?_; refine asked _ (wrap_u8' _) ?_; intro u; clear u) | (refine is_asked ?_; (first | (refine is_spec ?_; (refine is_op (op := .shr) ?_; (first | refine asked _ (sp_shrL 8 256 (by decide) (by rfl) (by decide)) ?_ | refine asked _ (sp_shrL 16 65536 (by decide) (by rfl) (by decide)) ?_ | refine asked _ (sp_shrL 24 16777216 (by decide) (by rfl) (by decide)) ?_ | refine asked _ (sp_shrL 0 1 (by decide) (by rfl) (by decide)) ?_ | refine asked _ (sp_shrL 32 4294967296 (by decide) (by rfl) (by decide)) ?_ | refine asked _ (sp_shrL 40 1099511627776 (by decide) (by rfl) (by decide)) ?_))) | (refine asked _ (byte_app (by simp) (by omega)) ?_) | (refine asked _ byte_app0 ?_)); intro u; clear u) | (refine is_loop ?_; refine loop_step ?_; intro u; clear u))
  (refine con_end ?_ rfl; intro u; clear u; refine ⟨rfl, rfl, EntGoal.mk ?_ ?_⟩ <;> (repeat' (first | exact trivial | (with_reducible rfl) | apply And.intro | rfl)))
  all_goals rfl
theorem put4_con (x : Int) : CallCon Try.prog 76 [.one (.v (.int .i64 x)), .one (.n .i64 4)] [] (.t (.one (.sl 0 0 4))) [.row (ints .u8 (be4 x)) 1 5 true] := by
  refine con_of_call2 rfl ?_
  refine call_inline Try.func76 rfl rfl ?_
  intro _
  repeat' (first | (refine is_asked ?_; refine is_wrap (k := .u8) ?_; refine asked _ (wrap_u8' _) ?_; intro u; clear u) | (refine is_asked ?_; (first | (refine is_spec ?_; (refine is_op (op := .shr) ?_; (first | refine asked _ (sp_shrL 8 256 (by decide) (by rfl) (by decide)) ?_ | refine asked _ (sp_shrL 16 65536 (by decide) (by rfl) (by decide)) ?_ | refine asked _ (sp_shrL 24 16777216 (by decide) (by rfl) (by decide)) ?_ | refine asked _ (sp_shrL 0 1 (by decide) (by rfl) (by decide)) ?_))) | (refine asked _ (byte_app (by simp) (by omega)) ?_) | (refine asked _ byte_app0 ?_)); intro u; clear u) | (refine is_loop ?_; refine loop_step ?_; intro u; clear u))
  (refine con_end ?_ rfl; intro u; clear u; refine ⟨rfl, rfl, EntGoal.mk ?_ ?_⟩ <;> (repeat' (first | exact trivial | (with_reducible rfl) | apply And.intro | rfl)))
  all_goals rfl

theorem refput_con (s : Sh) (hl : s.rows.length ≤ 1000000) : CallCon Try.prog 42 [shT 0 s] [.row (rowsV s.rows) 5 101 false] (.tup [.one (.sl 0 0 (putSh s).length), .one (.v (.int .i64 (putE s)))]) [.row (ints .u8 (putSh s)) 1 5 true] := by
  have hR := shref_con s hl
  by_cases hok : okSh s
  rotate_left
  · rw [show putSh s = [] by unfold putSh; rw [if_neg hok], show putE s = 2 by unfold putE; rw [if_neg hok]]
    have hR2 := con_no hR hok
    refine con_of_call2 rfl ?_
    refine call_inline Try.func42 rfl rfl ?_
    intro _
    repeat' (refine is_call ?_; refine call_auto (hR2) (lets_rfl rfl) (by exact ⟨⟨_, rfl, rfl, rfl⟩, trivial⟩) rfl ?_; intro u; clear u)
    all_goals (refine con_end ?_ rfl; intro u; clear u; refine ⟨rfl, rfl, EntGoal.mk ?_ ?_⟩ <;> (repeat' (first | exact trivial | (with_reducible rfl) | apply And.intro | rfl)))
  rw [show putSh s = putL s by unfold putSh; rw [if_pos hok], show putE s = 0 by unfold putE; rw [if_pos hok]]
  have hR2 := con_yes hR hok
  have hh := hok.1
  unfold okHd at hh
  refine con_of_call2 rfl ?_
  refine call_inline Try.func42 rfl rfl ?_
  intro _
  repeat' (first | (refine is_asked ?_; refine is_wrap (k := .u8) ?_; refine asked _ (wrap_u8' _) ?_; intro u; clear u) | (refine is_asked ?_; (first | (refine is_spec ?_; (with_reducible refine asked _ (sp_add (by simp only [lo, hi]; omega) (by simp only [lo, hi]; omega)) ?_)) | refine asked _ (append_ask rfl rfl (by decide) (by decide)) ?_); intro u; clear u) | (refine is_draw ?_; refine draw_step mixed (by kernel_rfl) ?_; intro u; clear u) | (refine is_call ?_; refine call_auto (hR2) (lets_rfl rfl) (by exact ⟨⟨_, rfl, rfl, rfl⟩, trivial⟩) rfl ?_; intro u; clear u) | (refine is_dcall ?_; (first | refine dcall_auto (put6_con (s.base + 1)) (lets_rfl rfl) (by exact trivial) rfl ?_ | refine dcall_auto (put6_con s.to) (lets_rfl rfl) (by exact trivial) rfl ?_); intro u; clear u))
  refine loop_keep (fun k : Nat => s.rows.length - k) (fun k => k ≤ s.rows.length) [1] (fun k => [(5, .t (.one (.v (.int .i64 k)))), (4, .t (.one (.sl 7 0 (putK s k).length)))]) (fun k => [(7, .row (ints .u8 (putK s k)) 1 5 true)]) (fun _ => []) [2, 3, 4, 5, 6] 1 0 (by omega) ?_ ?_
  · (intro u; clear u; refine ⟨rfl, rfl, EntGoal.mk ?_ ?_⟩ <;> (repeat' (first | exact trivial | (with_reducible rfl) | apply And.intro | rfl)))
    all_goals first | rfl | (simp [putK, putHd, be1, be6, ints]; done) | skip
  intro k hk u
  clear u
  have hlen := putK_len s k
  by_cases hc : k < s.rows.length
  · have h3 := hok.2.2 k hc
    unfold okAt okE at h3
    have e1 := put4_con (rAt s.rows k).ent.gen
    have e2 := put6_con (rAt s.rows k).ent.tick
    repeat' (first | (refine is_asked ?_; refine is_wrap (k := .u8) ?_; refine asked _ (wrap_u8' _) ?_; intro u; clear u) | (refine is_split ?_; refine sp_yes (by exact dec_t (by omega)) ?_ <;> (intro u; clear u)) | (refine is_asked ?_; (first | (refine is_spec ?_; (with_reducible refine asked _ (sp_add (by simp only [lo, hi]; omega) (by simp only [lo, hi]; omega)) ?_)) | (refine asked _ (row_ask s.rows k (by show (0 + Int.toNat (k : Int)) * 5 = _; omega) (by omega)) ?_) | (refine asked _ (bytes_app (B := [_, _, _]) (by simp) rfl (by omega) rfl) ?_) | (refine asked _ (bytes_app (B := be4 (rAt s.rows k).ent.gen) (by simp) rfl (by omega) rfl) ?_) | (refine asked _ (bytes_app (B := be6 (rAt s.rows k).ent.tick) (by simp [be4]) rfl (by omega) rfl) ?_) | refine asked () ⟨by omega, by omega⟩ ?_); intro u; clear u) | (refine is_draw ?_; refine draw_step mixed (by kernel_rfl) ?_; intro u; clear u) | (refine is_dcall ?_; (first | refine dcall_auto (e1) (lets_rfl rfl) (by exact trivial) rfl ?_ | refine dcall_auto (e2) (lets_rfl rfl) (by exact trivial) rfl ?_); intro u; clear u))
    refine again (k + 1) (by omega) (by omega) ?_
    (intro u; clear u; refine ⟨rfl, rfl, EntGoal.mk ?_ ?_⟩ <;> (repeat' (first | exact trivial | (with_reducible rfl) | apply And.intro | rfl)))
    all_goals simp [putK, putRow, be1, be4, be6]
  · obtain rfl : k = s.rows.length := by omega
    repeat' (refine is_split ?_; refine sp_no (by exact dec_f (by omega)) ?_ <;> (intro u; clear u))
    (refine con_end ?_ rfl; intro u; clear u; refine ⟨rfl, rfl, EntGoal.mk ?_ ?_⟩ <;> (repeat' (first | exact trivial | (with_reducible rfl) | apply And.intro | rfl)))
