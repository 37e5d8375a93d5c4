/- Contracts of functions of the program, or a row of the seat, proved out of them. No condition beyond those that stand in each statement. -/
import Derived.Test.YtooempepoejmhaaP5D
namespace Go.Proofs.P5
open Go Go.SE
set_option maxRecDepth 100000
set_option maxHeartbeats 4000000
attribute [local irreducible] specI

theorem pk_wf {l : List Int} (hb : ∀ x ∈ l, 0 ≤ x ∧ x ≤ 255) (hl : l.length ≤ 4000) : (pkS l).Wf := by
  unfold pkS
  split
  · have hw := P2.parse_wf hb hl
    have ht := P3.parse_wf (a := (P2.parseS l).src) (b := (P2.parseS l).dst) hw.pay hw.plen
    exact ⟨ht.2.2.1, hb⟩
  · exact zero_wf

theorem tells_con {t : Tu} {p q : Pk} {f : Int} {l d : List Int} (ht : t.Wf) (hf : 0 ≤ f ∧ f ≤ 255) (hp : p.Wf) (hq : q.Wf) (hb : ∀ x ∈ l, 0 ≤ x ∧ x ≤ 255) (hd : ∀ x ∈ d, 0 ≤ x ∧ x ≤ 255) :
    CallCon Try.prog 3 [.one (.sl 0 0 l.length), tuT t, .one (.v (.int .u8 f)), .one (.sl 1 0 d.length), pkT p 2, pkT q 3] [.row (ints .u8 l) 1 5 false, .row (ints .u8 d) 1 5 false, .row (ints .u8 p.bytes) 1 5 false, .row (ints .u8 q.bytes) 1 5 false] (.t (.one (.v (.bool true)))) [] := by
  by_cases h : l.length ≤ 3000 ∧ d.length ≤ 3000 ∧ p.bytes.length ≤ 3000 ∧ q.bytes.length ≤ 3000
  · obtain ⟨g1, g2, g3, g4⟩ := h
    have hx := pk_wf hb (by omega)
    have hm := make_bytes ht hf hd g2
    have hml := make_len (t := t) (f := f) (d := d)
    have hS := con_yes (refsame_con hx hx) rfl
    have hM := con_yes (P3.same_con hm (by omega) hm (by omega)) rfl
    have hO := con_yes (refsame_con hp hp) rfl
    refine con_of_call2 rfl ?_
    refine call_inline Try.func3 rfl rfl ?_
    intro _
    repeat' (first | (refine is_split ?_; (first | refine sp_yes (by exact dec_t (by omega)) ?_ | refine sp_no (by exact dec_f (by omega)) ?_ | refine sp_dec (fun g => ?_) (fun g => ?_)) <;> (intro u; clear u)) | (refine is_draw ?_; refine draw_step mixed (by kernel_rfl) ?_; intro u; clear u) | (refine is_call ?_; (first | refine call_auto (parse_con hb (by omega)) (lets_rfl rfl) (by exact ⟨⟨_, rfl, rfl, rfl⟩, trivial⟩) rfl ?_ | refine call_auto (refparse_con hb (by omega)) (lets_rfl rfl) (by exact ⟨⟨_, rfl, rfl, rfl⟩, trivial⟩) rfl ?_ | refine call_auto (make_con ht hf hd g2) (lets_rfl rfl) (by exact ⟨⟨_, rfl, rfl, rfl⟩, trivial⟩) rfl ?_ | refine call_auto (refmake_con ht hf hd g2) (lets_rfl rfl) (by exact ⟨⟨_, rfl, rfl, rfl⟩, trivial⟩) rfl ?_); intro u; clear u) | (refine is_dcall ?_; (first | refine dcall_auto (wakes_con) (lets_rfl rfl) (by exact trivial) rfl ?_ | refine dcall_auto (hS) (lets_rfl rfl) (by exact ⟨⟨_, rfl, rfl, rfl⟩, ⟨_, rfl, rfl, rfl⟩, trivial⟩) rfl ?_ | refine dcall_auto (hM) (lets_rfl rfl) (by exact ⟨⟨_, rfl, rfl, rfl⟩, ⟨_, rfl, rfl, rfl⟩, trivial⟩) rfl ?_ | refine dcall_auto (hO) (lets_rfl rfl) (by exact ⟨⟨_, rfl, rfl, rfl⟩, ⟨_, rfl, rfl, rfl⟩, trivial⟩) rfl ?_ | refine dcall_auto (syn_con hp) (lets_rfl rfl) (by exact ⟨⟨_, rfl, rfl, rfl⟩, trivial⟩) rfl ?_ | refine dcall_auto (refsyn_con hp) (lets_rfl rfl) (by exact ⟨⟨_, rfl, rfl, rfl⟩, trivial⟩) rfl ?_ | refine dcall_auto (closes_con hp) (lets_rfl rfl) (by exact ⟨⟨_, rfl, rfl, rfl⟩, trivial⟩) rfl ?_ | refine dcall_auto (refcloses_con hp) (lets_rfl rfl) (by exact ⟨⟨_, rfl, rfl, rfl⟩, trivial⟩) rfl ?_ | refine dcall_auto (same_con hp hq) (lets_rfl rfl) (by exact ⟨⟨_, rfl, rfl, rfl⟩, ⟨_, rfl, rfl, rfl⟩, trivial⟩) rfl ?_ | refine dcall_auto (refsame_con hp hq) (lets_rfl rfl) (by exact ⟨⟨_, rfl, rfl, rfl⟩, ⟨_, rfl, rfl, rfl⟩, trivial⟩) rfl ?_ | refine dcall_auto (own_con (p := p) (by omega)) (lets_rfl rfl) (by exact ⟨⟨_, rfl, rfl, rfl⟩, trivial⟩) rfl ?_); intro u; clear u))
    all_goals (refine con_end ?_ rfl; intro u; clear u; refine ⟨rfl, rfl, EntGoal.mk ?_ ?_⟩ <;> (repeat' (first | exact trivial | (with_reducible rfl) | apply And.intro | rfl)))
  · refine con_of_call2 rfl ?_
    refine call_inline Try.func3 rfl rfl ?_
    intro _
    repeat' (first | (refine is_split ?_; (first | refine sp_yes (by exact dec_t (by omega)) ?_ | refine sp_dec (fun g => ?_) (fun g => ?_)) <;> (intro u; clear u)) | (refine is_call ?_; refine call_auto (wakes_con) (lets_rfl rfl) (by exact trivial) rfl ?_; intro u; clear u))
    all_goals (refine con_end ?_ rfl; intro u; clear u; refine ⟨rfl, rfl, EntGoal.mk ?_ ?_⟩ <;> (repeat' (first | exact trivial | (with_reducible rfl) | apply And.intro | rfl)))
