/- Contracts of functions of the program, or a row of the seat, proved out of them. No condition beyond those that stand in each statement. -/
import Derived.Test.YtooempepoejmhaaP5B
namespace Go.Proofs.P5
open Go Go.SE
set_option maxRecDepth 100000
set_option maxHeartbeats 4000000
attribute [local irreducible] specI

def tcpE (l : List Int) : Int := P3.parseE (P2.parseS l).src (P2.parseS l).dst (P2.parseS l).pay
def tcpS (l : List Int) : P3.Seg := P3.parseS (P2.parseS l).src (P2.parseS l).dst (P2.parseS l).pay
def pkE (l : List Int) : Int := if ¬ P2.parseE l = 0 then P2.parseE l else if ¬ (P2.parseS l).protocol = 6 then 7 else tcpE l
def pkR (l : List Int) : Pk := ⟨(P2.parseS l).src, (P2.parseS l).dst, (tcpS l).src, (tcpS l).dst, (tcpS l).flags, l⟩
def pkS (l : List Int) : Pk := if pkE l = 0 then pkR l else zeroPk

theorem tcp_le (a b : Int) (l : List Int) : P3.parseE a b l = 0 ∨ P3.parseE a b l = 8 ∨ P3.parseE a b l = 9 := by
  unfold P3.parseE
  split
  · exact .inr (.inl rfl)
  · split
    · exact .inl rfl
    · exact .inr (.inr rfl)
theorem pk_cases (l : List Int) : (¬ P2.parseE l = 0 ∧ pkE l = P2.parseE l ∧ pkS l = zeroPk) ∨ (P2.parseE l = 0 ∧ ¬ (P2.parseS l).protocol = 6 ∧ pkE l = 7 ∧ pkS l = zeroPk) ∨
    (P2.parseE l = 0 ∧ (P2.parseS l).protocol = 6 ∧ ¬ tcpE l = 0 ∧ pkE l = tcpE l ∧ pkS l = zeroPk) ∨ (P2.parseE l = 0 ∧ (P2.parseS l).protocol = 6 ∧ tcpE l = 0 ∧ pkE l = 0 ∧ pkS l = pkR l) := by
  by_cases h1 : P2.parseE l = 0
  rotate_left
  · have e : pkE l = P2.parseE l := by unfold pkE; rw [if_pos h1]
    exact .inl ⟨h1, e, by unfold pkS; rw [if_neg (by rw [e]; exact h1)]⟩
  by_cases h2 : (P2.parseS l).protocol = 6
  rotate_left
  · have e : pkE l = 7 := by unfold pkE; rw [if_neg (fun h => h h1), if_pos h2]
    exact .inr (.inl ⟨h1, h2, e, by unfold pkS; rw [if_neg (by rw [e]; decide)]⟩)
  have e : pkE l = tcpE l := by unfold pkE; rw [if_neg (fun h => h h1), if_neg (fun h => h h2)]
  by_cases h3 : tcpE l = 0
  · exact .inr (.inr (.inr ⟨h1, h2, h3, by rw [e, h3], by unfold pkS; rw [if_pos (by rw [e, h3])]⟩))
  · exact .inr (.inr (.inl ⟨h1, h2, h3, e, by unfold pkS; rw [if_neg (by rw [e]; exact h3)]⟩))

theorem parse_con {l : List Int} (hb : ∀ x ∈ l, 0 ≤ x ∧ x ≤ 255) (hl : l.length ≤ 4000) :
    CallCon Try.prog 8 [.one (.sl 0 0 l.length)] [.row (ints .u8 l) 1 5 false] (.tup [pkT (pkS l) 0, .one (.v (.int .u8 (pkE l)))]) [.row (ints .u8 (pkS l).bytes) 1 5 true] := by
  have hI := P2.parse_con hb hl
  have hw := P2.parse_wf hb hl
  have hT := P3.parse_con hw.src hw.dst hw.pay hw.plen
  have hle := tcp_le (P2.parseS l).src (P2.parseS l).dst (P2.parseS l).pay
  change P3.parseE _ _ _ = _ ∨ _ at hle
  rcases pk_cases l with ⟨c1, e1, e2⟩ | ⟨c1, c2, e1, e2⟩ | ⟨c1, c2, c3, e1, e2⟩ | ⟨c1, c2, c3, e1, e2⟩ <;> rw [e1, e2]
  · generalize P2.parseE l = q at *
    generalize P2.parseS l = h at *
    refine con_of_call2 rfl ?_
    refine call_inline Try.func8 rfl rfl ?_
    intro _
    repeat' (first | (refine is_split ?_; refine sp_yes (by exact ndec_t (by omega)) ?_ <;> (intro u; clear u)) | (refine is_loop ?_; refine loop_step ?_; intro u; clear u) | (refine is_yield ?_; refine yield_step rfl rfl rfl rfl ?_; intro u; clear u) | (refine is_draw ?_; refine draw_step mixed (by kernel_rfl) ?_; intro u; clear u) | (refine is_range ?_; refine range_step rfl rfl ?_; intro u; clear u) | (refine is_scope ?_; refine scope_step ?_; intro u; clear u) | (refine is_call ?_; (first | refine call_auto (hI) (lets_rfl rfl) (by exact ⟨⟨_, rfl, rfl, rfl⟩, trivial⟩) rfl ?_ | refine call_inline Try.func28 rfl rfl ?_ | refine call_inline Try.func44 rfl rfl ?_ | refine call_inline Try.func23 rfl rfl ?_); intro u; clear u))
    all_goals (refine con_end ?_ rfl; intro u; clear u; refine ⟨rfl, rfl, EntGoal.mk ?_ ?_⟩ <;> (repeat' (first | exact trivial | (with_reducible rfl) | apply And.intro | rfl)))
  · rw [c1] at hI
    generalize P2.parseS l = h at *
    refine con_of_call2 rfl ?_
    refine call_inline Try.func8 rfl rfl ?_
    intro _
    repeat' (first | (refine is_split ?_; (first | refine sp_yes (by exact ndec_t (by omega)) ?_ | refine sp_no (by rfl) ?_) <;> (intro u; clear u)) | (refine is_loop ?_; refine loop_step ?_; intro u; clear u) | (refine is_yield ?_; refine yield_step rfl rfl rfl rfl ?_; intro u; clear u) | (refine is_draw ?_; refine draw_step mixed (by kernel_rfl) ?_; intro u; clear u) | (refine is_range ?_; refine range_step rfl rfl ?_; intro u; clear u) | (refine is_scope ?_; refine scope_step ?_; intro u; clear u) | (refine is_call ?_; (first | refine call_auto (hI) (lets_rfl rfl) (by exact ⟨⟨_, rfl, rfl, rfl⟩, trivial⟩) rfl ?_ | refine call_inline Try.func28 rfl rfl ?_ | refine call_inline Try.func44 rfl rfl ?_ | refine call_inline Try.func23 rfl rfl ?_ | refine call_inline Try.func25 rfl rfl ?_); intro u; clear u))
    all_goals (refine con_end ?_ rfl; intro u; clear u; refine ⟨rfl, rfl, EntGoal.mk ?_ ?_⟩ <;> (repeat' (first | exact trivial | (with_reducible rfl) | apply And.intro | rfl)))
  · rw [c1] at hI
    unfold tcpE at c3 ⊢
    generalize P2.parseS l = h at *
    generalize P3.parseE h.src h.dst h.pay = q at *
    refine con_of_call2 rfl ?_
    refine call_inline Try.func8 rfl rfl ?_
    intro _
    repeat' (first | (refine is_split ?_; (first | refine sp_yes (by exact ndec_t (by omega)) ?_ | refine sp_no (by (first | rfl | exact ndec_f (by omega))) ?_) <;> (intro u; clear u)) | (refine is_loop ?_; refine loop_step ?_; intro u; clear u) | (refine is_yield ?_; refine yield_step rfl rfl rfl rfl ?_; intro u; clear u) | (refine is_draw ?_; refine draw_step mixed (by kernel_rfl) ?_; intro u; clear u) | (refine is_range ?_; refine range_step rfl rfl ?_; intro u; clear u) | (refine is_scope ?_; refine scope_step ?_; intro u; clear u) | (refine is_call ?_; (first | refine call_auto (hI) (lets_rfl rfl) (by exact ⟨⟨_, rfl, rfl, rfl⟩, trivial⟩) rfl ?_ | refine call_inline Try.func28 rfl rfl ?_ | refine call_inline Try.func44 rfl rfl ?_ | refine call_inline Try.func23 rfl rfl ?_ | refine call_inline Try.func25 rfl rfl ?_ | refine call_inline Try.func26 rfl rfl ?_ | refine call_auto (hT) (lets_rfl rfl) (by exact ⟨⟨_, rfl, rfl, rfl⟩, trivial⟩) rfl ?_); intro u; clear u))
    all_goals (refine con_end ?_ rfl; intro u; clear u; refine ⟨rfl, rfl, EntGoal.mk ?_ ?_⟩ <;> (repeat' (first | exact trivial | (with_reducible rfl) | apply And.intro | rfl)))
  · rw [c1] at hI
    unfold tcpE at c3
    rw [c3] at hT
    unfold pkR tcpS
    generalize P2.parseS l = h at *
    generalize P3.parseS h.src h.dst h.pay = t at *
    have k1 := P2.clone_all (l := l) (by omega)
    refine con_of_call2 rfl ?_
    refine call_inline Try.func8 rfl rfl ?_
    intro _
    repeat' (first | (refine is_split ?_; refine sp_no (by (first | rfl | exact ndec_f (by omega))) ?_ <;> (intro u; clear u)) | (refine is_loop ?_; refine loop_step ?_; intro u; clear u) | (refine is_yield ?_; refine yield_step rfl rfl rfl rfl ?_; intro u; clear u) | (refine is_draw ?_; refine draw_step mixed (by kernel_rfl) ?_; intro u; clear u) | (refine is_range ?_; refine range_step rfl rfl ?_; intro u; clear u) | (refine is_scope ?_; refine scope_step ?_; intro u; clear u) | (refine is_call ?_; (first | refine call_auto (hI) (lets_rfl rfl) (by exact ⟨⟨_, rfl, rfl, rfl⟩, trivial⟩) rfl ?_ | refine call_inline Try.func28 rfl rfl ?_ | refine call_inline Try.func44 rfl rfl ?_ | refine call_inline Try.func23 rfl rfl ?_ | refine call_inline Try.func25 rfl rfl ?_ | refine call_inline Try.func26 rfl rfl ?_ | refine call_auto (hT) (lets_rfl rfl) (by exact ⟨⟨_, rfl, rfl, rfl⟩, trivial⟩) rfl ?_); intro u; clear u) | (refine is_dcall ?_; refine dcall_auto (k1) (lets_rfl rfl) (by exact ⟨⟨_, rfl, rfl, rfl⟩, trivial⟩) rfl ?_; intro u; clear u))
    all_goals (refine con_end ?_ rfl; intro u; clear u; refine ⟨rfl, rfl, EntGoal.mk ?_ ?_⟩ <;> (repeat' (first | exact trivial | (with_reducible rfl) | apply And.intro | rfl)))
theorem refparse_con {l : List Int} (hb : ∀ x ∈ l, 0 ≤ x ∧ x ≤ 255) (hl : l.length ≤ 4000) :
    CallCon Try.prog 9 [.one (.sl 0 0 l.length)] [.row (ints .u8 l) 1 5 false] (.tup [pkT (pkS l) 0, .one (.v (.int .u8 (pkE l)))]) [.row (ints .u8 (pkS l).bytes) 1 5 true] := by
  have hI := P2.refparse_con hb hl
  have hw := P2.parse_wf hb hl
  have hT := P3.refparse_con hw.src hw.dst hw.pay hw.plen
  have hle := tcp_le (P2.parseS l).src (P2.parseS l).dst (P2.parseS l).pay
  change P3.parseE _ _ _ = _ ∨ _ at hle
  rcases pk_cases l with ⟨c1, e1, e2⟩ | ⟨c1, c2, e1, e2⟩ | ⟨c1, c2, c3, e1, e2⟩ | ⟨c1, c2, c3, e1, e2⟩ <;> rw [e1, e2]
  · generalize P2.parseE l = q at *
    generalize P2.parseS l = h at *
    refine con_of_call2 rfl ?_
    refine call_inline Try.func9 rfl rfl ?_
    intro _
    repeat' (first | (refine is_split ?_; refine sp_yes (by exact ndec_t (by omega)) ?_ <;> (intro u; clear u)) | (refine is_call ?_; refine call_auto (hI) (lets_rfl rfl) (by exact ⟨⟨_, rfl, rfl, rfl⟩, trivial⟩) rfl ?_; intro u; clear u))
    all_goals (refine con_end ?_ rfl; intro u; clear u; refine ⟨rfl, rfl, EntGoal.mk ?_ ?_⟩ <;> (repeat' (first | exact trivial | (with_reducible rfl) | apply And.intro | rfl)))
  · rw [c1] at hI
    generalize P2.parseS l = h at *
    refine con_of_call2 rfl ?_
    refine call_inline Try.func9 rfl rfl ?_
    intro _
    repeat' (first | (refine is_split ?_; (first | refine sp_yes (by exact ndec_t (by omega)) ?_ | refine sp_no (by rfl) ?_) <;> (intro u; clear u)) | (refine is_call ?_; refine call_auto (hI) (lets_rfl rfl) (by exact ⟨⟨_, rfl, rfl, rfl⟩, trivial⟩) rfl ?_; intro u; clear u))
    all_goals (refine con_end ?_ rfl; intro u; clear u; refine ⟨rfl, rfl, EntGoal.mk ?_ ?_⟩ <;> (repeat' (first | exact trivial | (with_reducible rfl) | apply And.intro | rfl)))
  · rw [c1] at hI
    unfold tcpE at c3 ⊢
    generalize P2.parseS l = h at *
    generalize P3.parseE h.src h.dst h.pay = q at *
    refine con_of_call2 rfl ?_
    refine call_inline Try.func9 rfl rfl ?_
    intro _
    repeat' (first | (refine is_split ?_; (first | refine sp_yes (by exact ndec_t (by omega)) ?_ | refine sp_no (by (first | rfl | exact ndec_f (by omega))) ?_) <;> (intro u; clear u)) | (refine is_call ?_; (first | refine call_auto (hI) (lets_rfl rfl) (by exact ⟨⟨_, rfl, rfl, rfl⟩, trivial⟩) rfl ?_ | refine call_auto (hT) (lets_rfl rfl) (by exact ⟨⟨_, rfl, rfl, rfl⟩, trivial⟩) rfl ?_); intro u; clear u))
    all_goals (refine con_end ?_ rfl; intro u; clear u; refine ⟨rfl, rfl, EntGoal.mk ?_ ?_⟩ <;> (repeat' (first | exact trivial | (with_reducible rfl) | apply And.intro | rfl)))
  · rw [c1] at hI
    unfold tcpE at c3
    rw [c3] at hT
    unfold pkR tcpS
    generalize P2.parseS l = h at *
    generalize P3.parseS h.src h.dst h.pay = t at *
    refine con_of_call2 rfl ?_
    refine call_inline Try.func9 rfl rfl ?_
    intro _
    repeat' (first | (refine is_split ?_; refine sp_no (by (first | rfl | exact ndec_f (by omega))) ?_ <;> (intro u; clear u)) | (refine is_asked ?_; (refine asked (ints .u8 l) ⟨by rw [P2.ints_all]; rfl, rfl, by rw [P2.ints_all, ints_length]; show _ = _ * 1; omega, by unfold maxLen; omega, by show _ * 1 ≤ _; omega⟩ ?_); intro u; clear u) | (refine is_draw ?_; refine draw_step mixed (by kernel_rfl) ?_; intro u; clear u) | (refine is_call ?_; (first | refine call_auto (hI) (lets_rfl rfl) (by exact ⟨⟨_, rfl, rfl, rfl⟩, trivial⟩) rfl ?_ | refine call_auto (hT) (lets_rfl rfl) (by exact ⟨⟨_, rfl, rfl, rfl⟩, trivial⟩) rfl ?_); intro u; clear u))
    all_goals (refine con_end ?_ rfl; intro u; clear u; refine ⟨rfl, rfl, EntGoal.mk ?_ ?_⟩ <;> (repeat' (first | exact trivial | (with_reducible rfl) | apply And.intro | rfl)))
    all_goals (show 0 + l.length = l.length; omega)
