/- Contracts of functions of the program, or a row of the seat, proved out of them. No condition beyond those that stand in each statement. -/
import Derived.Test.YtlefpinmgabmfaaGreatSeD
import Derived.KernelRfl
import Derived.Test.YtlefpinmgabmfaaGreatProg
namespace Go.Proofs.S14.E7
open Go Go.SE
set_option maxRecDepth 100000
set_option maxHeartbeats 4000000
attribute [local irreducible] specI
theorem mixed : Tryz.prog.follows .mixedOrders = true := by kernel_rfl

structure Nd where
  kind : Int
  id : Int
  deriving DecidableEq
def ndS (n : Nd) : List S := [.v (.int .u8 n.kind), .v (.int .i64 n.id)]
def ndT (n : Nd) : T := .agg (ndS n)
def zeroNd : Nd := ⟨0, 0⟩
structure Nd.Wf (n : Nd) : Prop where
  kind : 0 ≤ n.kind ∧ n.kind ≤ 255
  id : -9223372036854775808 ≤ n.id ∧ n.id ≤ 9223372036854775807
def okNd (n : Nd) : Prop := (n.kind = 1 ∧ 0 ≤ n.id ∧ n.id < 3) ∨ (n.kind = 2 ∧ 0 ≤ n.id ∧ n.id < 6) ∨ (n.kind = 3 ∧ n.id = 0)
instance (n : Nd) : Decidable (okNd n) := by unfold okNd; infer_instance
def adr (n : Nd) : Int := if okNd n then 167772160 + 256 * n.kind + n.id else 0
def okAd (a : Int) : Prop := (167772416 ≤ a ∧ a < 167772419) ∨ (167772672 ≤ a ∧ a < 167772678) ∨ a = 167772928
instance (a : Int) : Decidable (okAd a) := by unfold okAd; infer_instance
def ndOf (a : Int) : Nd := if okAd a then ⟨(a - 167772160) / 256, (a - 167772160) % 256⟩ else zeroNd
def allNd : List Nd := [⟨1, 0⟩, ⟨1, 1⟩, ⟨1, 2⟩, ⟨2, 0⟩, ⟨2, 1⟩, ⟨2, 2⟩, ⟨2, 3⟩, ⟨2, 4⟩, ⟨2, 5⟩, ⟨3, 0⟩]
def ndV (n : Nd) : List Value := [.int .u8 n.kind, .int .i64 n.id]
def ndsV : List Nd → List Value
  | [] => []
  | n :: l => ndV n ++ ndsV l
def entOf (n : Nd) (i : Nat) : MapEntry := { key := .agg #[.int .u8 n.kind, .int .i64 n.id], val := .int .u32 (167772160 + 256 * n.kind + n.id), born := i }
def entsL : List MapEntry := [entOf ⟨1, 0⟩ 0, entOf ⟨1, 1⟩ 1, entOf ⟨1, 2⟩ 2, entOf ⟨2, 0⟩ 3, entOf ⟨2, 1⟩ 4, entOf ⟨2, 2⟩ 5, entOf ⟨2, 3⟩ 6, entOf ⟨2, 4⟩ 7, entOf ⟨2, 5⟩ 8, entOf ⟨3, 0⟩ 9]
def ents : Array MapEntry := entsL.toArray

theorem addrs_con : CallCon Tryz.prog 163 [] [] (.t (.one (.mp 0))) [.obj (.map ents 10)] := by
  refine con_of_call2 rfl ?_
  refine call_inline Tryz.func163 rfl rfl ?_
  intro _
  repeat' (first | (refine is_asked ?_; (refine asked () ⟨by decide +kernel, by decide +kernel⟩ ?_); intro u; clear u) | (refine is_loop ?_; refine loop_step ?_; intro u; clear u) | (refine is_yield ?_; refine yield_step rfl rfl rfl rfl ?_; intro u; clear u) | (refine is_range ?_; refine range_step rfl rfl ?_; intro u; clear u) | (refine is_call ?_; (first | refine call_inline Tryz.func186 rfl rfl ?_ | refine call_inline Tryz.func204 rfl rfl ?_); intro u; clear u))
  all_goals (refine con_end ?_ rfl; intro u; clear u; refine ⟨rfl, rfl, EntGoal.mk ?_ ?_⟩ <;> (repeat' (first | exact trivial | (with_reducible rfl) | apply And.intro | rfl)))

theorem look_cons {kt : TypeId} {xs : List S} {z v : Value} {ok : Bool} {e : MapEntry} {es : List MapEntry} (c : Bool) (hc : keyEq Tryz.prog kt xs e.key = some c) (h1 : c = true → v = e.val ∧ ok = true) (h2 : c = false → lookSays Tryz.prog kt xs z v ok es) :
    lookSays Tryz.prog kt xs z v ok (e :: es) := by
  unfold lookSays
  rw [hc]
  exact ⟨h1, h2⟩
theorem key_eq (n : Nd) (k i : Int) : keyEq Tryz.prog 44 (ndS n) (.agg #[.int .u8 k, .int .i64 i]) = some (decide (n.kind = k) && (decide (n.id = i) && true)) := rfl
theorem look_ent {n : Nd} {z : Value} (m : Nd) (i : Nat) {es : List MapEntry} (hok : okNd m) (h2 : n ≠ m → lookSays Tryz.prog 44 (ndS n) z (.int .u32 (adr n)) (decide (okNd n)) es) :
    lookSays Tryz.prog 44 (ndS n) z (.int .u32 (adr n)) (decide (okNd n)) (entOf m i :: es) := by
  refine look_cons _ (key_eq n m.kind m.id) (fun h => ?_) (fun h => h2 ?_)
  · have : n = m := by
      cases n; cases m; simpa using h
    subst this
    exact ⟨by simp [adr, hok, entOf], by simp [hok]⟩
  · rintro rfl
    simp at h
theorem look_says (n : Nd) : lookSays Tryz.prog 44 (ndS n) (.int .u32 0) (.int .u32 (adr n)) (decide (okNd n)) ents.toList := by
  show lookSays Tryz.prog 44 (ndS n) (.int .u32 0) (.int .u32 (adr n)) (decide (okNd n)) entsL
  unfold entsL
  refine look_ent _ _ (by decide) fun h0 => ?_
  refine look_ent _ _ (by decide) fun h1 => ?_
  refine look_ent _ _ (by decide) fun h2 => ?_
  refine look_ent _ _ (by decide) fun h3 => ?_
  refine look_ent _ _ (by decide) fun h4 => ?_
  refine look_ent _ _ (by decide) fun h5 => ?_
  refine look_ent _ _ (by decide) fun h6 => ?_
  refine look_ent _ _ (by decide) fun h7 => ?_
  refine look_ent _ _ (by decide) fun h8 => ?_
  refine look_ent _ _ (by decide) fun h9 => ?_
  have : ¬ okNd n := by
    obtain ⟨k, i⟩ := n
    simp only [ne_eq, Nd.mk.injEq] at h0 h1 h2 h3 h4 h5 h6 h7 h8 h9
    unfold okNd
    simp only
    omega
  unfold lookSays
  exact ⟨by simp [adr, this], by simp [this]⟩

theorem addr_con (n : Nd) : CallCon Tryz.prog 126 [ndT n] [] (.tup [.one (.v (.int .u32 (adr n))), .one (.b (okNd n))]) [] := by
  refine con_of_call2 rfl ?_
  refine call_inline Tryz.func126 rfl rfl ?_
  intro _
  repeat' (first | (refine is_draw (id := 1) ?_; refine mask_start mixed rfl ?_) | (refine is_mask ?_; (refine held_start [1] ?_; refine is_held ?_)) | (refine is_held ?_; (first | (refine held_end (by decide +kernel) ?_; intro u; clear u) | (refine held_load [1] 1 _ (by rfl) (.head _) rfl (by decide +kernel) ?_; intro u; clear u) | (refine held_still [1] 4 (by rfl) (by show still Tryz.prog _ = true; decide +kernel) rfl (by decide +kernel) ?_; intro u; clear u) | (refine held_still [1] 5 (by rfl) (by show still Tryz.prog _ = true; decide +kernel) rfl (by decide +kernel) ?_; intro u; clear u) | (refine held_still [1] 6 (by rfl) (by show still Tryz.prog _ = true; decide +kernel) rfl (by decide +kernel) ?_; intro u; clear u) | (refine held_still [1] 7 (by rfl) (by show still Tryz.prog _ = true; decide +kernel) rfl (by decide +kernel) ?_; intro u; clear u) | (refine held_step [1] 0 (by rfl) rfl (by decide +kernel) ?_; intro u; clear u) | (refine held_step [1] 2 (by rfl) rfl (by decide +kernel) ?_; intro u; clear u) | (refine held_step [1] 3 (by rfl) rfl (by decide +kernel) ?_; intro u; clear u))) | (refine is_kept ?_; refine Kept.mk ?_ ?_; focus (repeat' (first | exact trivial | apply And.intro | exact rfl))) | (refine is_asked ?_; (refine asked (.int .u32 (adr n), decide (okNd n)) ⟨rfl, by decide +kernel, look_says n⟩ ?_); intro u; clear u) | (refine is_call ?_; refine call_auto (addrs_con) (lets_rfl rfl) (by exact trivial) rfl ?_; intro u; clear u))
  all_goals (refine con_end ?_ rfl; intro u; clear u; refine ⟨rfl, rfl, EntGoal.mk ?_ ?_⟩ <;> (repeat' (first | exact trivial | (with_reducible rfl) | apply And.intro | rfl)))

theorem refnodes_con : CallCon Tryz.prog 73 [] [] (.t (.one (.sl 0 0 10))) [.row (ndsV allNd) 2 44 true] := by
  refine con_of_call2 rfl ?_
  refine call_inline Tryz.func73 rfl rfl ?_
  intro _
  repeat' (first | (refine is_asked ?_; refine asked _ (append_ask rfl rfl (by decide) (by decide)) ?_; intro u; clear u) | (refine is_loop ?_; refine loop_step ?_; intro u; clear u))
  all_goals (refine con_end ?_ rfl; intro u; clear u; refine ⟨rfl, rfl, EntGoal.mk ?_ ?_⟩ <;> (repeat' (first | exact trivial | (with_reducible rfl) | apply And.intro | rfl)))
end Go.Proofs.S14.E7

namespace Go.Proofs.S14.E7
open Go Go.SE
set_option maxRecDepth 100000
set_option maxHeartbeats 4000000
attribute [local irreducible] specI

theorem refad_con {n : Nd} (h : okNd n) : CallCon Tryz.prog 74 [ndT n] [] (.t (.one (.v (.int .u32 (adr n))))) [] := by
  have h' := h
  unfold okNd at h'
  refine con_of_call2 rfl ?_
  refine call_inline Tryz.func74 rfl rfl ?_
  intro _
  repeat' (refine is_asked ?_; (first | (refine is_spec ?_; (first | (with_reducible refine asked _ (sp_add (by simp only [lo, hi]; omega) (by simp only [lo, hi]; omega)) ?_) | (refine is_op (op := .shl) ?_; refine asked _ (sp_shlL 8 256 (by decide) (by rfl) (by decide) (by simp only [lo, hi]; omega) (by simp only [lo, hi]; omega)) ?_))) | (refine is_wrap ?_; refine asked _ (wrap_lohi (by simp only [lo, hi]; omega) (by simp only [lo, hi]; omega)) ?_)); intro u; clear u)
  all_goals (refine con_end ?_ rfl; intro u; clear u; refine ⟨rfl, rfl, EntGoal.mk ?_ ?_⟩ <;> (repeat' (first | exact trivial | (with_reducible rfl) | apply And.intro | rfl)))
  all_goals (simp only [adr, if_pos h])
  all_goals omega
theorem refaddr_con {n : Nd} (h : n.Wf) : CallCon Tryz.prog 75 [ndT n] [] (.tup [.one (.v (.int .u32 (adr n))), .one (.b (okNd n))]) [] := by
  have h1 := h.kind
  have h2 := h.id
  by_cases hok : okNd n
  · have ha := refad_con hok
    rw [decide_eq_true hok]
    unfold okNd at hok
    refine con_of_call2 rfl ?_
    refine call_inline Tryz.func75 rfl rfl ?_
    intro _
    repeat' (first | (refine is_draw (id := 5) ?_; refine mask_start mixed rfl ?_) | (refine is_mask ?_; (first | (refine mask_take 0 (by rfl) (by show still Tryz.prog _ = true; decide +kernel) (by decide +kernel) ?_; intro u; clear u) | (refine mask_take 1 (by rfl) (by show still Tryz.prog _ = true; decide +kernel) (by decide +kernel) ?_; intro u; clear u) | (refine held_start [4] ?_; refine is_held ?_))) | (refine is_held ?_; (first | (refine held_end (by decide +kernel) ?_; intro u; clear u) | (refine held_load [4] 4 _ (by rfl) (.head _) rfl (by decide +kernel) ?_; intro u; clear u) | (refine held_step [4] 2 (by rfl) rfl (by decide +kernel) ?_; intro u; clear u) | (refine held_step [4] 3 (by rfl) rfl (by decide +kernel) ?_; intro u; clear u) | (refine held_step [4] 5 (by rfl) rfl (by decide +kernel) ?_; intro u; clear u))) | (refine is_kept ?_; refine Kept.mk ?_ ?_; focus (repeat' (first | exact trivial | apply And.intro | exact rfl))) | (refine is_split ?_; (first | refine sp_yes (by rfl) ?_ | refine sp_no (by rfl) ?_ | refine Split.mk (fun g => ?_) (fun g => ?_)) <;> (intro u; clear u)) | (refine is_asked ?_; (first | (refine asked [.int .u8 1, .int .i64 0] ⟨by rfl, by decide +kernel⟩ ?_) | (refine asked [.int .u8 1, .int .i64 1] ⟨by rfl, by decide +kernel⟩ ?_) | (refine asked [.int .u8 1, .int .i64 2] ⟨by rfl, by decide +kernel⟩ ?_) | (refine asked [.int .u8 2, .int .i64 0] ⟨by rfl, by decide +kernel⟩ ?_) | (refine asked [.int .u8 2, .int .i64 1] ⟨by rfl, by decide +kernel⟩ ?_) | (refine asked [.int .u8 2, .int .i64 2] ⟨by rfl, by decide +kernel⟩ ?_) | (refine asked [.int .u8 2, .int .i64 3] ⟨by rfl, by decide +kernel⟩ ?_) | (refine asked [.int .u8 2, .int .i64 4] ⟨by rfl, by decide +kernel⟩ ?_) | (refine asked [.int .u8 2, .int .i64 5] ⟨by rfl, by decide +kernel⟩ ?_) | (refine asked [.int .u8 3, .int .i64 0] ⟨by rfl, by decide +kernel⟩ ?_) | refine asked () ⟨by omega, by omega⟩ ?_ | refine asked () (by show heldFree Tryz.prog _ _ = true; decide +kernel) ?_); intro u; clear u) | (refine is_loop ?_; refine loop_step ?_; intro u; clear u) | (refine is_call ?_; (first | refine call_auto (refnodes_con) (lets_rfl rfl) (by exact trivial) rfl ?_ | refine call_auto (ha) (lets_rfl rfl) (by exact trivial) rfl ?_); intro u; clear u))
    all_goals first
      | ((refine con_end ?_ rfl; intro u; clear u; refine ⟨rfl, rfl, EntGoal.mk ?_ ?_⟩ <;> (repeat' (first | exact trivial | (with_reducible rfl) | apply And.intro | rfl))); done)
      | (exfalso; simp [okNd] at *; omega)
  · rw [decide_eq_false hok, show adr n = 0 by simp [adr, hok]]
    refine con_of_call2 rfl ?_
    refine call_inline Tryz.func75 rfl rfl ?_
    intro _
    repeat' (first | (refine is_draw (id := 5) ?_; refine mask_start mixed rfl ?_) | (refine is_mask ?_; (first | (refine mask_take 0 (by rfl) (by show still Tryz.prog _ = true; decide +kernel) (by decide +kernel) ?_; intro u; clear u) | (refine mask_take 1 (by rfl) (by show still Tryz.prog _ = true; decide +kernel) (by decide +kernel) ?_; intro u; clear u) | (refine held_start [4] ?_; refine is_held ?_))) | (refine is_held ?_; (first | (refine held_end (by decide +kernel) ?_; intro u; clear u) | (refine held_load [4] 4 _ (by rfl) (.head _) rfl (by decide +kernel) ?_; intro u; clear u) | (refine held_step [4] 2 (by rfl) rfl (by decide +kernel) ?_; intro u; clear u) | (refine held_step [4] 3 (by rfl) rfl (by decide +kernel) ?_; intro u; clear u) | (refine held_step [4] 5 (by rfl) rfl (by decide +kernel) ?_; intro u; clear u))) | (refine is_kept ?_; refine Kept.mk ?_ ?_; focus (repeat' (first | exact trivial | apply And.intro | exact rfl))) | (refine is_split ?_; (first | refine sp_yes (by rfl) ?_ | refine sp_no (by rfl) ?_ | refine Split.mk (fun g => ?_) (fun g => ?_)) <;> (intro u; clear u)) | (refine is_asked ?_; (first | (refine asked [.int .u8 1, .int .i64 0] ⟨by rfl, by decide +kernel⟩ ?_) | (refine asked [.int .u8 1, .int .i64 1] ⟨by rfl, by decide +kernel⟩ ?_) | (refine asked [.int .u8 1, .int .i64 2] ⟨by rfl, by decide +kernel⟩ ?_) | (refine asked [.int .u8 2, .int .i64 0] ⟨by rfl, by decide +kernel⟩ ?_) | (refine asked [.int .u8 2, .int .i64 1] ⟨by rfl, by decide +kernel⟩ ?_) | (refine asked [.int .u8 2, .int .i64 2] ⟨by rfl, by decide +kernel⟩ ?_) | (refine asked [.int .u8 2, .int .i64 3] ⟨by rfl, by decide +kernel⟩ ?_) | (refine asked [.int .u8 2, .int .i64 4] ⟨by rfl, by decide +kernel⟩ ?_) | (refine asked [.int .u8 2, .int .i64 5] ⟨by rfl, by decide +kernel⟩ ?_) | (refine asked [.int .u8 3, .int .i64 0] ⟨by rfl, by decide +kernel⟩ ?_) | refine asked () ⟨by omega, by omega⟩ ?_ | refine asked () (by show heldFree Tryz.prog _ _ = true; decide +kernel) ?_); intro u; clear u) | (refine is_loop ?_; refine loop_step ?_; intro u; clear u) | (refine is_call ?_; refine call_auto (refnodes_con) (lets_rfl rfl) (by exact trivial) rfl ?_; intro u; clear u))
    all_goals first
      | ((refine con_end ?_ rfl; intro u; clear u; refine ⟨rfl, rfl, EntGoal.mk ?_ ?_⟩ <;> (repeat' (first | exact trivial | (with_reducible rfl) | apply And.intro | rfl))); done)
      | (exfalso; simp [okNd] at *; omega)
theorem refnode_con {a : Int} (h : 0 ≤ a ∧ a ≤ 4294967295) : CallCon Tryz.prog 36 [.one (.v (.int .u32 a))] [] (.tup [ndT (ndOf a), .one (.b (okAd a))]) [] := by
  refine con_of_call2 rfl ?_
  refine call_inline Tryz.func36 rfl rfl ?_
  intro _
  repeat' (first | (refine is_split ?_; (first | refine sp_yes (by rfl) ?_ | refine sp_no (by rfl) ?_ | refine sp_dec (fun g => ?_) (fun g => ?_)) <;> (intro u; clear u)) | (refine is_asked ?_; (first | (refine is_spec ?_; (first | (with_reducible refine asked _ (sp_add (by simp only [lo, hi]; omega) (by simp only [lo, hi]; omega)) ?_) | (refine is_op (op := .shl) ?_; refine asked _ (sp_shlL 8 256 (by decide) (by rfl) (by decide) (by simp only [lo, hi]; omega) (by simp only [lo, hi]; omega)) ?_))) | (refine is_wrap ?_; refine asked _ (wrap_lohi (by simp only [lo, hi]; omega) (by simp only [lo, hi]; omega)) ?_) | (refine asked [.int .u8 1, .int .i64 0] ⟨by rfl, by decide +kernel⟩ ?_) | (refine asked [.int .u8 1, .int .i64 1] ⟨by rfl, by decide +kernel⟩ ?_) | (refine asked [.int .u8 1, .int .i64 2] ⟨by rfl, by decide +kernel⟩ ?_) | (refine asked [.int .u8 2, .int .i64 0] ⟨by rfl, by decide +kernel⟩ ?_) | (refine asked [.int .u8 2, .int .i64 1] ⟨by rfl, by decide +kernel⟩ ?_) | (refine asked [.int .u8 2, .int .i64 2] ⟨by rfl, by decide +kernel⟩ ?_) | (refine asked [.int .u8 2, .int .i64 3] ⟨by rfl, by decide +kernel⟩ ?_) | (refine asked [.int .u8 2, .int .i64 4] ⟨by rfl, by decide +kernel⟩ ?_) | (refine asked [.int .u8 2, .int .i64 5] ⟨by rfl, by decide +kernel⟩ ?_) | (refine asked [.int .u8 3, .int .i64 0] ⟨by rfl, by decide +kernel⟩ ?_) | refine asked () ⟨by omega, by omega⟩ ?_); intro u; clear u) | (refine is_loop ?_; refine loop_step ?_; intro u; clear u) | (refine is_call ?_; (first | refine call_auto (refnodes_con) (lets_rfl rfl) (by exact trivial) rfl ?_ | refine call_inline Tryz.func74 rfl rfl ?_); intro u; clear u))
  all_goals (refine con_end ?_ rfl; intro u; clear u; refine ⟨rfl, rfl, EntGoal.mk ?_ ?_⟩ <;> (repeat' (first | exact trivial | (with_reducible rfl) | apply And.intro | rfl)))
  all_goals first
    | (simp only [ndOf]; rw [if_pos (by unfold okAd; omega)]; simp only; omega)
    | (simp only [ndOf]; rw [if_neg (by unfold okAd; omega)]; rfl)
    | exact (decide_eq_true (by unfold okAd; omega)).symm
    | exact (decide_eq_false (by unfold okAd; omega)).symm
    | exact decide_eq_true (by unfold okAd; omega)
    | exact decide_eq_false (by unfold okAd; omega)
end Go.Proofs.S14.E7

namespace Go.Proofs.S14.E7
open Go Go.SE
set_option maxRecDepth 100000
set_option maxHeartbeats 4000000
attribute [local irreducible] specI


theorem ents_all : ∀ e ∈ ents.toList, ∃ n : Nd, okNd n ∧ e.key = .agg #[.int .u8 n.kind, .int .i64 n.id] ∧ e.val = .int .u32 (adr n) ∧ e.born < 10 ∧ allNd[e.born]? = some n := by
  intro e he
  have he : e ∈ entsL := he
  simp only [entsL, List.mem_cons, List.not_mem_nil, or_false] at he
  rcases he with rfl | rfl | rfl | rfl | rfl | rfl | rfl | rfl | rfl | rfl
  · exact ⟨⟨1, 0⟩, by decide, rfl, rfl, by decide, rfl⟩
  · exact ⟨⟨1, 1⟩, by decide, rfl, rfl, by decide, rfl⟩
  · exact ⟨⟨1, 2⟩, by decide, rfl, rfl, by decide, rfl⟩
  · exact ⟨⟨2, 0⟩, by decide, rfl, rfl, by decide, rfl⟩
  · exact ⟨⟨2, 1⟩, by decide, rfl, rfl, by decide, rfl⟩
  · exact ⟨⟨2, 2⟩, by decide, rfl, rfl, by decide, rfl⟩
  · exact ⟨⟨2, 3⟩, by decide, rfl, rfl, by decide, rfl⟩
  · exact ⟨⟨2, 4⟩, by decide, rfl, rfl, by decide, rfl⟩
  · exact ⟨⟨2, 5⟩, by decide, rfl, rfl, by decide, rfl⟩
  · exact ⟨⟨3, 0⟩, by decide, rfl, rfl, by decide, rfl⟩
theorem ents_nodup : (ents.toList.map (·.born)).Nodup := by decide
theorem ents_has {a : Int} (h : okAd a) : ∃ e ∈ ents.toList, e.val = .int .u32 a := by
  show ∃ e ∈ entsL, e.val = .int .u32 a
  unfold okAd at h
  have : a = 167772416 ∨ a = 167772417 ∨ a = 167772418 ∨ a = 167772672 ∨ a = 167772673 ∨ a = 167772674 ∨ a = 167772675 ∨ a = 167772676 ∨ a = 167772677 ∨ a = 167772928 := by omega
  rcases this with rfl | rfl | rfl | rfl | rfl | rfl | rfl | rfl | rfl | rfl
  · exact ⟨entOf ⟨1, 0⟩ 0, by simp [entsL], rfl⟩
  · exact ⟨entOf ⟨1, 1⟩ 1, by simp [entsL], rfl⟩
  · exact ⟨entOf ⟨1, 2⟩ 2, by simp [entsL], rfl⟩
  · exact ⟨entOf ⟨2, 0⟩ 3, by simp [entsL], rfl⟩
  · exact ⟨entOf ⟨2, 1⟩ 4, by simp [entsL], rfl⟩
  · exact ⟨entOf ⟨2, 2⟩ 5, by simp [entsL], rfl⟩
  · exact ⟨entOf ⟨2, 3⟩ 6, by simp [entsL], rfl⟩
  · exact ⟨entOf ⟨2, 4⟩ 7, by simp [entsL], rfl⟩
  · exact ⟨entOf ⟨2, 5⟩ 8, by simp [entsL], rfl⟩
  · exact ⟨entOf ⟨3, 0⟩ 9, by simp [entsL], rfl⟩
theorem ndOf_adr {n : Nd} (h : okNd n) : okAd (adr n) ∧ ndOf (adr n) = n := by
  have e : adr n = 167772160 + 256 * n.kind + n.id := if_pos h
  have h' := h
  unfold okNd at h'
  have h2 : okAd (adr n) := by unfold okAd; omega
  refine ⟨h2, ?_⟩
  unfold ndOf
  rw [if_pos h2, e]
  cases n
  simp only [Nd.mk.injEq] at h' ⊢
  omega
theorem adr_ndOf {a : Int} (h : okAd a) : okNd (ndOf a) ∧ adr (ndOf a) = a := by
  have e : ndOf a = ⟨(a - 167772160) / 256, (a - 167772160) % 256⟩ := if_pos h
  unfold okAd at h
  have h2 : okNd (ndOf a) := by unfold okNd; rw [e]; simp only; omega
  refine ⟨h2, ?_⟩
  unfold adr
  rw [if_pos h2, e]
  simp only
  omega
/-- How many entries were not told yet. -/
def leftN (seen : List Nat) : Nat := ((List.range 10).filter fun i => decide (i ∉ seen)).length
theorem leftN_lt {seen : List Nat} {b : Nat} (h1 : b < 10) (h2 : b ∉ seen) : leftN (seen ++ [b]) < leftN seen := by
  unfold leftN
  have e : (List.range 10).filter (fun i => decide (i ∉ seen ++ [b])) = ((List.range 10).filter fun i => decide (i ∉ seen)).filter fun i => decide (i ≠ b) := by
    rw [List.filter_filter]
    congr 1
    funext i
    rw [Bool.eq_iff_iff]
    simp only [List.mem_append, List.mem_singleton, not_or, decide_eq_true_eq, Bool.and_eq_true, ne_eq]
    exact And.comm
  rw [e]
  apply List.length_filter_lt_length_iff_exists.2
  exact ⟨b, by simp [h1, h2], by simp⟩
end Go.Proofs.S14.E7
