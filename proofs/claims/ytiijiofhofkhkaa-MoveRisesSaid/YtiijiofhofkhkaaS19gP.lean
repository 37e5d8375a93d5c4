/- Contracts of functions of the program, or a row of the seat, proved out of them. No condition beyond those that stand in each statement. -/
import Derived.Test.YtiijiofhofkhkaaS19gB
namespace Go.Proofs.S19
open Go Go.SE
set_option maxRecDepth 100000
set_option maxHeartbeats 4000000
attribute [local irreducible] specI

def be1 (x : Int) : List Int := [x / 1 % 256]
def be4 (x : Int) : List Int := [x / 16777216 % 256, x / 65536 % 256, x / 256 % 256, x / 1 % 256]
def be6 (x : Int) : List Int := [x / 1099511627776 % 256, x / 4294967296 % 256, x / 16777216 % 256, x / 65536 % 256, x / 256 % 256, x / 1 % 256]
def putRow (r : Row) : List Int := be1 r.bkt ++ (be1 (r.ent.cur + 1) ++ (be1 (r.ent.prev + 1) ++ (be4 r.ent.gen ++ be6 r.ent.tick)))
def putHd (s : Sh) : List Int := be6 (s.base + 1) ++ (be6 s.to ++ be1 s.rows.length)
def putK (s : Sh) : Nat → List Int
  | 0 => putHd s
  | k + 1 => putK s k ++ putRow (rAt s.rows k)
def putL (s : Sh) : List Int := putK s s.rows.length
def putSh (s : Sh) : List Int := if okSh s then putL s else []
def putE (s : Sh) : Int := if okSh s then 0 else 2
theorem putK_len (s : Sh) : ∀ k, (putK s k).length = 13 + 13 * k
  | 0 => rfl
  | k + 1 => by
    show (putK s k ++ putRow (rAt s.rows k)).length = _
    rw [List.length_append, putK_len s k]
    show _ + 13 = _
    omega

theorem ints_app (k : IntKind) : ∀ (A B : List Int), ints k (A ++ B) = ints k A ++ ints k B
  | [], _ => rfl
  | x :: A, B => by simp only [List.cons_append, ints, ints_app k A B]
theorem byte_app {L : List Int} {x : Int} {n : Nat} (hn : L.length = n) (h : n ≤ 100000) : ints .u8 L ++ [Value.int .u8 x] = ints .u8 (L ++ [x]) ∧ (ints .u8 L).length = n * 1 ∧ [Value.int .u8 x].length = 1 * 1 ∧ n + 1 ≤ maxLen ∧ (n + 1) * 1 ≤ 140737488355328 :=
  ⟨by rw [ints_app]; rfl, by rw [ints_length]; omega, rfl, by unfold maxLen; omega, by omega⟩
theorem byte_app0 {x : Int} : [] ++ [Value.int .u8 x] = ints .u8 [x] ∧ ([] : List Value).length = 0 * 1 ∧ [Value.int .u8 x].length = 1 * 1 ∧ 0 + 1 ≤ maxLen ∧ (0 + 1) * 1 ≤ 140737488355328 :=
  ⟨rfl, rfl, rfl, by unfold maxLen; omega, by omega⟩

theorem put_con (s : Sh) (hl : s.rows.length ≤ 1000000) : CallCon Try.prog 41 [shT 0 s] [.row (rowsV s.rows) 5 101 false] (.tup [.one (.sl 0 0 (putSh s).length), .one (.v (.int .i64 (putE s)))]) [.row (ints .u8 (putSh s)) 1 5 true] := by
  have hR := shright_con s hl
  by_cases hok : okSh s
  rotate_left
  · rw [show putSh s = [] by unfold putSh; rw [if_neg hok], show putE s = 2 by unfold putE; rw [if_neg hok]]
    have hR2 := con_no hR hok
    refine con_of_call2 rfl ?_
    refine call_inline Try.func41 rfl rfl ?_
    intro _
    repeat' (refine is_call ?_; refine call_auto (hR2) (lets_rfl rfl) (by exact ⟨⟨_, rfl, rfl, rfl⟩, trivial⟩) rfl ?_; intro u; clear u)
    all_goals (refine con_end ?_ rfl; intro u; clear u; refine ⟨rfl, rfl, EntGoal.mk ?_ ?_⟩ <;> (repeat' (first | exact trivial | (with_reducible rfl) | apply And.intro | rfl)))
  rw [show putSh s = putL s by unfold putSh; rw [if_pos hok], show putE s = 0 by unfold putE; rw [if_pos hok]]
  have hR2 := con_yes hR hok
  have hh := hok.1
  unfold okHd at hh
  refine con_of_call2 rfl ?_
  refine call_inline Try.func41 rfl rfl ?_
  intro _
  repeat' (first | (refine is_asked ?_; refine is_wrap (k := .u8) ?_; refine asked _ (wrap_u8' _) ?_; intro u; clear u) | (refine is_loop (c := .seq (.seq (.region 6 _ _) _) _) ?_; refine loop_step ?_; intro u; clear u) | (refine is_asked ?_; (first | (refine is_spec ?_; (first | (with_reducible refine asked _ (sp_add (by simp only [lo, hi]; omega) (by simp only [lo, hi]; omega)) ?_) | (refine is_op (op := .shr) ?_; (first | refine asked _ (sp_shrL 8 256 (by decide) (by rfl) (by decide)) ?_ | refine asked _ (sp_shrL 16 65536 (by decide) (by rfl) (by decide)) ?_ | refine asked _ (sp_shrL 24 16777216 (by decide) (by rfl) (by decide)) ?_ | refine asked _ (sp_shrL 0 1 (by decide) (by rfl) (by decide)) ?_ | refine asked _ (sp_shrL 32 4294967296 (by decide) (by rfl) (by decide)) ?_ | refine asked _ (sp_shrL 40 1099511627776 (by decide) (by rfl) (by decide)) ?_)))) | (refine asked _ (byte_app (by simp) (by omega)) ?_) | (refine asked _ byte_app0 ?_)); intro u; clear u) | (refine is_yield ?_; refine yield_step rfl rfl rfl rfl ?_; intro u; clear u) | (refine is_draw ?_; refine draw_step mixed (by kernel_rfl) ?_; intro u; clear u) | (refine is_range ?_; refine range_step rfl rfl ?_; intro u; clear u) | (refine is_call ?_; (first | refine call_auto (hR2) (lets_rfl rfl) (by exact ⟨⟨_, rfl, rfl, rfl⟩, trivial⟩) rfl ?_ | refine call_inline Try.func75 rfl rfl ?_ | refine call_inline Try.func93 rfl rfl ?_); intro u; clear u))
  refine loop_keep (fun k : Nat => s.rows.length - k) (fun k => k ≤ s.rows.length) [0, 32, 33] (fun k => [(34, .t (.one (.v (.int .i64 k))))]) (fun k => [(2, .box [.sl 35 0 (putK s k).length] 1 27), (35, .row (ints .u8 (putK s k)) 1 5 true)]) (fun _ => [(5, [], [2, 10])]) [6, 7, 8, 9, 10, 11, 12, 13, 14, 15, 16, 17, 18, 19, 20, 21, 22, 23, 24, 25, 26, 27, 28, 29, 30, 31, 32, 33, 34] 1 0 (by omega) ?_ ?_
  · (intro u; clear u; refine ⟨rfl, rfl, EntGoal.mk ?_ ?_⟩ <;> (repeat' (first | exact trivial | (with_reducible rfl) | apply And.intro | rfl)))
    all_goals rfl
  intro k hk u
  clear u
  have hlen := putK_len s k
  by_cases hc : k < s.rows.length
  · have h3 := hok.2.2 k hc
    unfold okAt okE at h3
    repeat' (first | (refine is_asked ?_; refine is_wrap (k := .u8) ?_; refine asked _ (wrap_u8' _) ?_; intro u; clear u) | (refine is_loop (c := .seq (.region 5 _ _) _) ?_; refine loop_step ?_; intro u; clear u) | (refine is_loop (c := .seq (.seq (.region 6 _ _) _) _) ?_; refine loop_step ?_; intro u; clear u) | (refine is_split ?_; refine sp_yes (by exact dec_t (by omega)) ?_ <;> (intro u; clear u)) | (refine is_asked ?_; (first | (refine is_spec ?_; (first | (with_reducible refine asked _ (sp_add (by simp only [lo, hi]; omega) (by simp only [lo, hi]; omega)) ?_) | (refine is_op (op := .shr) ?_; (first | refine asked _ (sp_shrL 8 256 (by decide) (by rfl) (by decide)) ?_ | refine asked _ (sp_shrL 16 65536 (by decide) (by rfl) (by decide)) ?_ | refine asked _ (sp_shrL 24 16777216 (by decide) (by rfl) (by decide)) ?_ | refine asked _ (sp_shrL 0 1 (by decide) (by rfl) (by decide)) ?_ | refine asked _ (sp_shrL 32 4294967296 (by decide) (by rfl) (by decide)) ?_ | refine asked _ (sp_shrL 40 1099511627776 (by decide) (by rfl) (by decide)) ?_)))) | (refine asked _ (row_ask s.rows k (by show (0 + Int.toNat (k : Int)) * 5 = _; omega) (by omega)) ?_) | (refine asked _ (byte_app (by simp) (by omega)) ?_) | refine asked () ⟨by omega, by omega⟩ ?_); intro u; clear u) | (refine is_yield ?_; refine yield_step rfl rfl rfl rfl ?_; intro u; clear u) | (refine is_draw ?_; refine draw_step mixed (by kernel_rfl) ?_; intro u; clear u))
    refine again (k + 1) (by omega) (by omega) ?_
    (intro u; clear u; refine ⟨rfl, rfl, EntGoal.mk ?_ ?_⟩ <;> (repeat' (first | exact trivial | (with_reducible rfl) | apply And.intro | rfl)))
    all_goals simp [putK, putRow, be1, be4, be6]
  · obtain rfl : k = s.rows.length := by omega
    repeat' (refine is_split ?_; refine sp_no (by exact dec_f (by omega)) ?_ <;> (intro u; clear u))
    (refine con_end ?_ rfl; intro u; clear u; refine ⟨rfl, rfl, EntGoal.mk ?_ ?_⟩ <;> (repeat' (first | exact trivial | (with_reducible rfl) | apply And.intro | rfl)))
