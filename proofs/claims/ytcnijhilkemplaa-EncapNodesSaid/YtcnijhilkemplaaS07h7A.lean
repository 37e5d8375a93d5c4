/- Contracts of functions of the program, or a row of the seat, proved out of them. No condition beyond those that stand in each statement. -/
import Derived.Test.YtcnijhilkemplaaSeD
import Derived.KernelRfl
import Derived.Test.YtcnijhilkemplaaProg
namespace Go.Proofs.S07.E7
open Go Go.SE
set_option maxRecDepth 100000
set_option maxHeartbeats 4000000
attribute [local irreducible] specI
theorem mixed : Try.prog.follows .mixedOrders = true := by kernel_rfl

structure Nd where
  kind : Int
  id : Int
  deriving DecidableEq
def ndS (n : Nd) : List S := [.v (.int .u8 n.kind), .v (.int .i64 n.id)]
def ndT (n : Nd) : T := .agg (ndS n)
def zeroNd : Nd := ⟨0, 0⟩
structure Nd.Wf (n : Nd) : Prop where
  kind : 0 ≤ n.kind ∧ n.kind ≤ 255
  id : -9223372036854775808 ≤ n.id ∧ n.id ≤ 9223372036854775807
def okNd (n : Nd) : Prop := (n.kind = 1 ∧ 0 ≤ n.id ∧ n.id < 3) ∨ (n.kind = 2 ∧ 0 ≤ n.id ∧ n.id < 6) ∨ (n.kind = 3 ∧ n.id = 0)
instance (n : Nd) : Decidable (okNd n) := by unfold okNd; infer_instance
def adr (n : Nd) : Int := if okNd n then 167772160 + 256 * n.kind + n.id else 0
def okAd (a : Int) : Prop := (167772416 ≤ a ∧ a < 167772419) ∨ (167772672 ≤ a ∧ a < 167772678) ∨ a = 167772928
instance (a : Int) : Decidable (okAd a) := by unfold okAd; infer_instance
def ndOf (a : Int) : Nd := if okAd a then ⟨(a - 167772160) / 256, (a - 167772160) % 256⟩ else zeroNd
def allNd : List Nd := [⟨1, 0⟩, ⟨1, 1⟩, ⟨1, 2⟩, ⟨2, 0⟩, ⟨2, 1⟩, ⟨2, 2⟩, ⟨2, 3⟩, ⟨2, 4⟩, ⟨2, 5⟩, ⟨3, 0⟩]
def ndV (n : Nd) : List Value := [.int .u8 n.kind, .int .i64 n.id]
def ndsV : List Nd → List Value
  | [] => []
  | n :: l => ndV n ++ ndsV l
def entOf (n : Nd) (i : Nat) : MapEntry := { key := .agg #[.int .u8 n.kind, .int .i64 n.id], val := .int .u32 (167772160 + 256 * n.kind + n.id), born := i }
def entsL : List MapEntry := [entOf ⟨1, 0⟩ 0, entOf ⟨1, 1⟩ 1, entOf ⟨1, 2⟩ 2, entOf ⟨2, 0⟩ 3, entOf ⟨2, 1⟩ 4, entOf ⟨2, 2⟩ 5, entOf ⟨2, 3⟩ 6, entOf ⟨2, 4⟩ 7, entOf ⟨2, 5⟩ 8, entOf ⟨3, 0⟩ 9]
def ents : Array MapEntry := entsL.toArray

theorem addrs_con : CallCon Try.prog 27 [] [] (.t (.one (.mp 0))) [.obj (.map ents 10)] := by
  refine con_of_call2 rfl ?_
  refine call_inline Try.func27 rfl rfl ?_
  intro _
  repeat' (first | (refine is_asked ?_; (refine asked () ⟨by decide +kernel, by decide +kernel⟩ ?_); intro u; clear u) | (refine is_loop ?_; refine loop_step ?_; intro u; clear u) | (refine is_yield ?_; refine yield_step rfl rfl rfl rfl ?_; intro u; clear u) | (refine is_range ?_; refine range_step rfl rfl ?_; intro u; clear u) | (refine is_call ?_; (first | refine call_inline Try.func38 rfl rfl ?_ | refine call_inline Try.func60 rfl rfl ?_); intro u; clear u))
  all_goals (refine con_end ?_ rfl; intro u; clear u; refine ⟨rfl, rfl, EntGoal.mk ?_ ?_⟩ <;> (repeat' (first | exact trivial | (with_reducible rfl) | apply And.intro | rfl)))

theorem look_cons {kt : TypeId} {xs : List S} {z v : Value} {ok : Bool} {e : MapEntry} {es : List MapEntry} (c : Bool) (hc : keyEq Try.prog kt xs e.key = some c) (h1 : c = true → v = e.val ∧ ok = true) (h2 : c = false → lookSays Try.prog kt xs z v ok es) :
    lookSays Try.prog kt xs z v ok (e :: es) := by
  unfold lookSays
  rw [hc]
  exact ⟨h1, h2⟩
theorem key_eq (n : Nd) (k i : Int) : keyEq Try.prog 23 (ndS n) (.agg #[.int .u8 k, .int .i64 i]) = some (decide (n.kind = k) && (decide (n.id = i) && true)) := rfl
theorem look_ent {n : Nd} {z : Value} (m : Nd) (i : Nat) {es : List MapEntry} (hok : okNd m) (h2 : n ≠ m → lookSays Try.prog 23 (ndS n) z (.int .u32 (adr n)) (decide (okNd n)) es) :
    lookSays Try.prog 23 (ndS n) z (.int .u32 (adr n)) (decide (okNd n)) (entOf m i :: es) := by
  refine look_cons _ (key_eq n m.kind m.id) (fun h => ?_) (fun h => h2 ?_)
  · have : n = m := by
      cases n; cases m; simpa using h
    subst this
    exact ⟨by simp [adr, hok, entOf], by simp [hok]⟩
  · rintro rfl
    simp at h
theorem look_says (n : Nd) : lookSays Try.prog 23 (ndS n) (.int .u32 0) (.int .u32 (adr n)) (decide (okNd n)) ents.toList := by
  show lookSays Try.prog 23 (ndS n) (.int .u32 0) (.int .u32 (adr n)) (decide (okNd n)) entsL
  unfold entsL
  refine look_ent _ _ (by decide) fun h0 => ?_
  refine look_ent _ _ (by decide) fun h1 => ?_
  refine look_ent _ _ (by decide) fun h2 => ?_
  refine look_ent _ _ (by decide) fun h3 => ?_
  refine look_ent _ _ (by decide) fun h4 => ?_
  refine look_ent _ _ (by decide) fun h5 => ?_
  refine look_ent _ _ (by decide) fun h6 => ?_
  refine look_ent _ _ (by decide) fun h7 => ?_
  refine look_ent _ _ (by decide) fun h8 => ?_
  refine look_ent _ _ (by decide) fun h9 => ?_
  have : ¬ okNd n := by
    obtain ⟨k, i⟩ := n
    simp only [ne_eq, Nd.mk.injEq] at h0 h1 h2 h3 h4 h5 h6 h7 h8 h9
    unfold okNd
    simp only
    omega
  unfold lookSays
  exact ⟨by simp [adr, this], by simp [this]⟩

theorem addr_con (n : Nd) : CallCon Try.prog 9 [ndT n] [] (.tup [.one (.v (.int .u32 (adr n))), .one (.b (okNd n))]) [] := by
  refine con_of_call2 rfl ?_
  refine call_inline Try.func9 rfl rfl ?_
  intro _
  repeat' (first | (refine is_draw (id := 1) ?_; refine mask_start mixed rfl ?_) | (refine is_mask ?_; (refine held_start [1] ?_; refine is_held ?_)) | (refine is_held ?_; (first | (refine held_end (by decide +kernel) ?_; intro u; clear u) | (refine held_load [1] 1 _ (by rfl) (.head _) rfl (by decide +kernel) ?_; intro u; clear u) | (refine held_still [1] 4 (by rfl) (by show still Try.prog _ = true; decide +kernel) rfl (by decide +kernel) ?_; intro u; clear u) | (refine held_still [1] 5 (by rfl) (by show still Try.prog _ = true; decide +kernel) rfl (by decide +kernel) ?_; intro u; clear u) | (refine held_still [1] 6 (by rfl) (by show still Try.prog _ = true; decide +kernel) rfl (by decide +kernel) ?_; intro u; clear u) | (refine held_still [1] 7 (by rfl) (by show still Try.prog _ = true; decide +kernel) rfl (by decide +kernel) ?_; intro u; clear u) | (refine held_step [1] 0 (by rfl) rfl (by decide +kernel) ?_; intro u; clear u) | (refine held_step [1] 2 (by rfl) rfl (by decide +kernel) ?_; intro u; clear u) | (refine held_step [1] 3 (by rfl) rfl (by decide +kernel) ?_; intro u; clear u))) | (refine is_kept ?_; refine Kept.mk ?_ ?_; focus (repeat' (first | exact trivial | apply And.intro | exact rfl))) | (refine is_asked ?_; (refine asked (.int .u32 (adr n), decide (okNd n)) ⟨rfl, by decide +kernel, look_says n⟩ ?_); intro u; clear u) | (refine is_call ?_; refine call_auto (addrs_con) (lets_rfl rfl) (by exact trivial) rfl ?_; intro u; clear u))
  all_goals (refine con_end ?_ rfl; intro u; clear u; refine ⟨rfl, rfl, EntGoal.mk ?_ ?_⟩ <;> (repeat' (first | exact trivial | (with_reducible rfl) | apply And.intro | rfl)))

theorem nodes_con : CallCon Try.prog 20 [] [] (.t (.one (.sl 0 0 10))) [.row (ndsV allNd) 2 23 true] := by
  refine con_of_call2 rfl ?_
  refine call_inline Try.func20 rfl rfl ?_
  intro _
  repeat' (first | (refine is_asked ?_; refine asked _ (append_ask rfl rfl (by decide) (by decide)) ?_; intro u; clear u) | (refine is_loop ?_; refine loop_step ?_; intro u; clear u) | (refine is_yield ?_; refine yield_step rfl rfl rfl rfl ?_; intro u; clear u) | (refine is_range ?_; refine range_step rfl rfl ?_; intro u; clear u) | (refine is_call ?_; (first | refine call_inline Try.func38 rfl rfl ?_ | refine call_inline Try.func60 rfl rfl ?_ | refine call_inline Try.func37 rfl rfl ?_ | refine call_inline Try.func59 rfl rfl ?_); intro u; clear u))
  all_goals (refine con_end ?_ rfl; intro u; clear u; refine ⟨rfl, rfl, EntGoal.mk ?_ ?_⟩ <;> (repeat' (first | exact trivial | (with_reducible rfl) | apply And.intro | rfl)))
theorem refnodes_con : CallCon Try.prog 21 [] [] (.t (.one (.sl 0 0 10))) [.row (ndsV allNd) 2 23 true] := by
  refine con_of_call2 rfl ?_
  refine call_inline Try.func21 rfl rfl ?_
  intro _
  repeat' (first | (refine is_asked ?_; refine asked _ (append_ask rfl rfl (by decide) (by decide)) ?_; intro u; clear u) | (refine is_loop ?_; refine loop_step ?_; intro u; clear u))
  all_goals (refine con_end ?_ rfl; intro u; clear u; refine ⟨rfl, rfl, EntGoal.mk ?_ ?_⟩ <;> (repeat' (first | exact trivial | (with_reducible rfl) | apply And.intro | rfl)))
