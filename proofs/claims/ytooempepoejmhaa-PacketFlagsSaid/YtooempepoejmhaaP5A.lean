/- Contracts of functions of the program, or a row of the seat, proved out of them. No condition beyond those that stand in each statement. -/
import Derived.Test.YtooempepoejmhaaP3M
import Derived.Test.YtooempepoejmhaaP2M
namespace Go.Proofs.P5
open Go Go.SE
set_option maxRecDepth 100000
set_option maxHeartbeats 4000000

theorem mixed : Try.prog.follows .mixedOrders = true := P3.mixed
theorem and8 {f : Int} (h : 0 ≤ f ∧ f ≤ 255) (m : Nat) (g : Nat → Nat) (hm : m < 256) (hg : ∀ x : Fin 256, x.val &&& m = g x.val) : specI .and .u8 f (m : Int) (g f.toNat : Nat) := by
  have h1 := sp_and (k := .u8) (a := f) (b := (m : Int)) h.1 h.2 (by omega) (by show (m : Int) ≤ 255; omega)
  have h2 := hg ⟨f.toNat, by omega⟩
  simp only at h2
  rw [show ((m : Int)).toNat = m by omega, h2] at h1
  exact h1
theorem and7 {f : Int} (h : 0 ≤ f ∧ f ≤ 255) : specI .and .u8 f 7 (f % 8) := by
  have := and8 h 7 (fun x => x % 8) (by decide) (by decide)
  rwa [show ((f.toNat % 8 : Nat) : Int) = f % 8 by omega] at this
theorem and5 {f : Int} (h : 0 ≤ f ∧ f ≤ 255) : specI .and .u8 f 5 (f % 2 + f / 4 % 2 * 4) := by
  have := and8 h 5 (fun x => x % 2 + x / 4 % 2 * 4) (by decide) (by decide)
  rwa [show ((f.toNat % 2 + f.toNat / 4 % 2 * 4 : Nat) : Int) = f % 2 + f / 4 % 2 * 4 by omega] at this
theorem and2 {f : Int} (h : 0 ≤ f ∧ f ≤ 255) : specI .and .u8 f 2 (f / 2 % 2 * 2) := by
  have := and8 h 2 (fun x => x / 2 % 2 * 2) (by decide) (by decide)
  rwa [show ((f.toNat / 2 % 2 * 2 : Nat) : Int) = f / 2 % 2 * 2 by omega] at this
theorem and4 {f : Int} (h : 0 ≤ f ∧ f ≤ 255) : specI .and .u8 f 4 (f / 4 % 2 * 4) := by
  have := and8 h 4 (fun x => x / 4 % 2 * 4) (by decide) (by decide)
  rwa [show ((f.toNat / 4 % 2 * 4 : Nat) : Int) = f / 4 % 2 * 4 by omega] at this
theorem and1 {f : Int} (h : 0 ≤ f ∧ f ≤ 255) : specI .and .u8 f 1 (f % 2) := by
  have := and8 h 1 (fun x => x % 2) (by decide) (by decide)
  rwa [show ((f.toNat % 2 : Nat) : Int) = f % 2 by omega] at this
attribute [local irreducible] specI

structure Pk where
  src : Int
  dst : Int
  sport : Int
  dport : Int
  flags : Int
  bytes : List Int
  deriving DecidableEq
def zeroPk : Pk := ⟨0, 0, 0, 0, 0, []⟩
structure Pk.Wf (p : Pk) : Prop where
  flags : 0 ≤ p.flags ∧ p.flags ≤ 255
  bytes : ∀ x ∈ p.bytes, 0 ≤ x ∧ x ≤ 255
def pkT (p : Pk) (h : Nat) : T := .agg [.v (.int .u32 p.src), .v (.int .u32 p.dst), .v (.int .u16 p.sport), .v (.int .u16 p.dport), .v (.int .u8 p.flags), .sl h 0 p.bytes.length]
def synP (p : Pk) : Prop := p.flags / 2 % 2 = 1 ∧ p.flags % 2 = 0 ∧ p.flags / 4 % 2 = 0
def closesP (p : Pk) : Prop := p.flags % 2 = 1 ∨ p.flags / 4 % 2 = 1
instance (p : Pk) : Decidable (synP p) := by unfold synP; infer_instance
instance (p : Pk) : Decidable (closesP p) := by unfold closesP; infer_instance

theorem syn_con {p : Pk} (h : p.Wf) : CallCon Try.prog 14 [pkT p 0] [.row (ints .u8 p.bytes) 1 5 false] (.t (.one (.b (synP p)))) [] := by
  have hf := h.flags
  refine con_of_call2 rfl ?_
  refine call_inline Try.func14 rfl rfl ?_
  intro _
  repeat' (refine is_asked ?_; (refine is_spec ?_; (refine asked _ (and7 hf) ?_)); intro u; clear u)
  rw [show decide (p.flags % 8 = 2) = decide (synP p) by rw [decide_eq_decide]; unfold synP; omega]
  (refine con_end ?_ rfl; intro u; clear u; refine ⟨rfl, rfl, EntGoal.mk ?_ ?_⟩ <;> (repeat' (first | exact trivial | (with_reducible rfl) | apply And.intro | rfl)))
theorem closes_con {p : Pk} (h : p.Wf) : CallCon Try.prog 16 [pkT p 0] [.row (ints .u8 p.bytes) 1 5 false] (.t (.one (.b (closesP p)))) [] := by
  have hf := h.flags
  refine con_of_call2 rfl ?_
  refine call_inline Try.func16 rfl rfl ?_
  intro _
  repeat' (refine is_asked ?_; (refine is_spec ?_; (refine asked _ (and5 hf) ?_)); intro u; clear u)
  rw [show (!decide (p.flags % 2 + p.flags / 4 % 2 * 4 = 0)) = decide (closesP p) by rw [← decide_not, decide_eq_decide]; unfold closesP; omega]
  (refine con_end ?_ rfl; intro u; clear u; refine ⟨rfl, rfl, EntGoal.mk ?_ ?_⟩ <;> (repeat' (first | exact trivial | (with_reducible rfl) | apply And.intro | rfl)))
theorem refcloses_con {p : Pk} (h : p.Wf) : CallCon Try.prog 17 [pkT p 0] [.row (ints .u8 p.bytes) 1 5 false] (.t (.one (.b (closesP p)))) [] := by
  have hf := h.flags
  by_cases h1 : p.flags % 2 = 0
  · refine con_of_call2 rfl ?_
    refine call_inline Try.func17 rfl rfl ?_
    intro _
    repeat' (first | (refine is_split ?_; refine sp_no (by exact ndec_f (by omega)) ?_ <;> (intro u; clear u)) | (refine is_asked ?_; (refine is_spec ?_; (first | (refine asked _ (and1 hf) ?_) | (refine asked _ (and4 hf) ?_))); intro u; clear u))
    rw [show (!decide (p.flags / 4 % 2 * 4 = 0)) = decide (closesP p) by rw [← decide_not, decide_eq_decide]; unfold closesP; omega]
    (refine con_end ?_ rfl; intro u; clear u; refine ⟨rfl, rfl, EntGoal.mk ?_ ?_⟩ <;> (repeat' (first | exact trivial | (with_reducible rfl) | apply And.intro | rfl)))
  · rw [show decide (closesP p) = true from decide_eq_true (by unfold closesP; omega)]
    refine con_of_call2 rfl ?_
    refine call_inline Try.func17 rfl rfl ?_
    intro _
    repeat' (first | (refine is_split ?_; refine sp_yes (by exact ndec_t (by omega)) ?_ <;> (intro u; clear u)) | (refine is_asked ?_; (refine is_spec ?_; (refine asked _ (and1 hf) ?_)); intro u; clear u))
    (refine con_end ?_ rfl; intro u; clear u; refine ⟨rfl, rfl, EntGoal.mk ?_ ?_⟩ <;> (repeat' (first | exact trivial | (with_reducible rfl) | apply And.intro | rfl)))
theorem refsyn_con {p : Pk} (h : p.Wf) : CallCon Try.prog 15 [pkT p 0] [.row (ints .u8 p.bytes) 1 5 false] (.t (.one (.b (synP p)))) [] := by
  have hf := h.flags
  have hc := refcloses_con h
  by_cases h1 : p.flags / 2 % 2 = 1
  · refine con_of_call2 rfl ?_
    refine call_inline Try.func15 rfl rfl ?_
    intro _
    repeat' (first | (refine is_split ?_; refine sp_yes (by exact ndec_t (by omega)) ?_ <;> (intro u; clear u)) | (refine is_asked ?_; (refine is_spec ?_; (refine asked _ (and2 hf) ?_)); intro u; clear u) | (refine is_call ?_; refine call_auto (hc) (lets_rfl rfl) (by exact ⟨⟨_, rfl, rfl, rfl⟩, trivial⟩) rfl ?_; intro u; clear u))
    rw [show (!decide (closesP p)) = decide (synP p) by rw [← decide_not, decide_eq_decide]; unfold closesP synP; omega]
    (refine con_end ?_ rfl; intro u; clear u; refine ⟨rfl, rfl, EntGoal.mk ?_ ?_⟩ <;> (repeat' (first | exact trivial | (with_reducible rfl) | apply And.intro | rfl)))
  · rw [show decide (synP p) = false from decide_eq_false (by unfold synP; omega)]
    refine con_of_call2 rfl ?_
    refine call_inline Try.func15 rfl rfl ?_
    intro _
    repeat' (first | (refine is_split ?_; refine sp_no (by exact ndec_f (by omega)) ?_ <;> (intro u; clear u)) | (refine is_asked ?_; (refine is_spec ?_; (refine asked _ (and2 hf) ?_)); intro u; clear u))
    (refine con_end ?_ rfl; intro u; clear u; refine ⟨rfl, rfl, EntGoal.mk ?_ ?_⟩ <;> (repeat' (first | exact trivial | (with_reducible rfl) | apply And.intro | rfl)))
theorem same_con {p q : Pk} (hp : p.Wf) (hq : q.Wf) : CallCon Try.prog 18 [pkT p 0, pkT q 1] [.row (ints .u8 p.bytes) 1 5 false, .row (ints .u8 q.bytes) 1 5 false] (.t (.one (.b (p = q)))) [] := by
  have e1 := P2.equal_con hp.bytes hq.bytes
  have e2 := hp.bytes
  have e3 := hq.bytes
  obtain ⟨a1, a2, a3, a4, a5, l⟩ := p
  obtain ⟨b1, b2, b3, b4, b5, r⟩ := q
  simp only at e1 e2 e3
  by_cases ht : a1 = b1 ∧ a2 = b2 ∧ a3 = b3 ∧ a4 = b4
  · obtain ⟨rfl, rfl, rfl, rfl⟩ := ht
    refine con_of_call2 rfl ?_
    refine call_inline Try.func18 rfl rfl ?_
    intro _
    repeat' (first | (refine is_split ?_; (first | (refine sp_yes ?_ ?_; focus (simp only [beq_self_eq_true, Bool.and_self, Bool.and_true, Bool.true_and, Bool.not_false, Bool.not_true]; done)) | refine sp_dec (fun g => ?_) (fun g => ?_)) <;> (intro u; clear u)) | (refine is_asked ?_; refine asked () (by show heldFree Try.prog _ _ = true; decide +kernel) ?_; intro u; clear u) | (refine is_call ?_; refine call_auto (e1) (lets_rfl rfl) (by exact ⟨⟨_, rfl, rfl, rfl⟩, ⟨_, rfl, rfl, rfl⟩, trivial⟩) rfl ?_; intro u; clear u))
    all_goals (refine con_end ?_ rfl; intro u; clear u; refine ⟨rfl, rfl, EntGoal.mk ?_ ?_⟩ <;> (repeat' (first | exact trivial | (with_reducible rfl) | apply And.intro | rfl)))
    all_goals simp_all
    all_goals exact rfl
  · rw [decide_eq_false (by intro e; cases e; exact ht ⟨rfl, rfl, rfl, rfl⟩)]
    refine con_of_call2 rfl ?_
    refine call_inline Try.func18 rfl rfl ?_
    intro _
    repeat' (first | (refine is_split ?_; (refine sp_no (by rw [Bool.eq_false_iff]; intro e; simp at e; exact ht ⟨e.1, e.2.1, e.2.2.1, e.2.2.2⟩) ?_) <;> (intro u; clear u)) | (refine is_asked ?_; refine asked () (by show heldFree Try.prog _ _ = true; decide +kernel) ?_; intro u; clear u))
    all_goals (refine con_end ?_ rfl; intro u; clear u; refine ⟨rfl, rfl, EntGoal.mk ?_ ?_⟩ <;> (repeat' (first | exact trivial | (with_reducible rfl) | apply And.intro | rfl)))
theorem refsame_con {p q : Pk} (hp : p.Wf) (hq : q.Wf) : CallCon Try.prog 12 [pkT p 0, pkT q 1] [.row (ints .u8 p.bytes) 1 5 false, .row (ints .u8 q.bytes) 1 5 false] (.t (.one (.b (p = q)))) [] := by
  have e1 := P2.equal_con hp.bytes hq.bytes
  have e2 := hp.bytes
  have e3 := hq.bytes
  obtain ⟨a1, a2, a3, a4, a5, l⟩ := p
  obtain ⟨b1, b2, b3, b4, b5, r⟩ := q
  simp only at e1 e2 e3
  by_cases ht : a1 = b1 ∧ a2 = b2 ∧ a3 = b3 ∧ a4 = b4
  · obtain ⟨rfl, rfl, rfl, rfl⟩ := ht
    refine con_of_call2 rfl ?_
    refine call_inline Try.func12 rfl rfl ?_
    intro _
    repeat' (first | (refine is_split ?_; (first | (refine sp_yes ?_ ?_; focus (simp only [beq_self_eq_true, Bool.and_self, Bool.and_true, Bool.true_and, Bool.not_false, Bool.not_true]; done)) | refine sp_dec (fun g => ?_) (fun g => ?_)) <;> (intro u; clear u)) | (refine is_asked ?_; (first | (refine asked _ (tostr_ask (take_ints .u8 l) rfl) ?_) | (refine asked _ (tostr_ask (take_ints .u8 r) rfl) ?_) | refine asked () (by show heldFree Try.prog _ _ = true; decide +kernel) ?_); intro u; clear u))
    all_goals (try rw [bytes_beq e2 e3])
    all_goals (refine con_end ?_ rfl; intro u; clear u; refine ⟨rfl, rfl, EntGoal.mk ?_ ?_⟩ <;> (repeat' (first | exact trivial | (with_reducible rfl) | apply And.intro | rfl)))
    all_goals simp_all
    all_goals exact rfl
  · rw [decide_eq_false (by intro e; cases e; exact ht ⟨rfl, rfl, rfl, rfl⟩)]
    refine con_of_call2 rfl ?_
    refine call_inline Try.func12 rfl rfl ?_
    intro _
    repeat' (first | (refine is_split ?_; (refine sp_no (by rw [Bool.eq_false_iff]; intro e; simp at e; exact ht ⟨e.1, e.2.1, e.2.2.1, e.2.2.2⟩) ?_) <;> (intro u; clear u)) | (refine is_asked ?_; refine asked () (by show heldFree Try.prog _ _ = true; decide +kernel) ?_; intro u; clear u))
    all_goals (refine con_end ?_ rfl; intro u; clear u; refine ⟨rfl, rfl, EntGoal.mk ?_ ?_⟩ <;> (repeat' (first | exact trivial | (with_reducible rfl) | apply And.intro | rfl)))
