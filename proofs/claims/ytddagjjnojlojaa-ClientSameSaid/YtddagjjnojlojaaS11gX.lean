/- Contracts of functions of the program, or a row of the seat, proved out of them. No condition beyond those that stand in each statement. -/
import Derived.Test.YtddagjjnojlojaaS11gW
namespace Go.Proofs.S11
open Go Go.SE
set_option maxRecDepth 100000
set_option maxHeartbeats 4000000
attribute [local irreducible] specI

theorem putK_byte {s : Sh} : ∀ k, Bytes (putK s k)
  | 0 => by
    intro x hx
    have : x ∈ putHd s := hx
    simp only [putHd, be6, be1, List.cons_append, List.nil_append, List.mem_cons, List.not_mem_nil, or_false] at this
    omega
  | k + 1 => by
    intro x hx
    rcases List.mem_append.1 (show x ∈ putK s k ++ putRow (rAt s.rows k) from hx) with h | h
    · exact putK_byte k x h
    · simp only [putRow, be6, be4, be1, List.cons_append, List.nil_append, List.mem_cons, List.not_mem_nil, or_false] at h
      omega
theorem putSh_byte (s : Sh) : Bytes (putSh s) := by
  unfold putSh
  split
  · exact putK_byte _
  · intro x hx; cases hx

theorem putSh_len (s : Sh) (h : okSh s) : (putSh s).length = 13 + 13 * s.rows.length := by
  unfold putSh; rw [if_pos h]; exact putK_len s _
theorem putSh_le (s : Sh) : (putSh s).length ≤ 1000 := by
  by_cases h : okSh s
  · rw [putSh_len s h]; have := h.1.2.2; omega
  · unfold putSh; rw [if_neg h]; simp
theorem ofSh_le (t : Tab) : (ofSh t).rows.length ≤ 16 := by
  unfold ofSh
  split
  · exact rowsK_len (fun _ => true) t 16
  · simp [zeroSh]
theorem dlSh_le (a b : Tab) : (dlSh a b).rows.length ≤ 16 := by
  unfold dlSh
  split
  · exact rowsK_len (fun i => !eqEnt (a.at i) (b.at i)) b 16
  · simp [zeroSh]
theorem tkSh_le {b : List Int} (hb : Bytes b) : (tkSh b).rows.length ≤ 255 := by
  unfold tkSh
  split
  · show (tkRows b (tkN b)).length ≤ 255
    rw [tkRows_len]
    have := byte_bd hb 12
    unfold tkN; omega
  · simp [zeroSh]

theorem tells_con (t u : Tab) (s o : Sh) {b : List Int} (hb : Bytes b) : CallCon Try.prog 3 [tabT t, tabT u, shT 0 s, shT 1 o, .one (.sl 2 0 b.length)] [.row (rowsV s.rows) 5 48 false, .row (rowsV o.rows) 5 48 false, .row (ints .u8 b) 1 5 false] (.t (.one (.v (.bool true)))) [] := by
  have g1 := great_con s
  have g2 := great_con o
  by_cases hg : (40 < s.rows.length ∨ 40 < o.rows.length) ∨ 1000 < b.length
  · refine con_of_call2 rfl ?_
    refine call_inline Try.func3 rfl rfl ?_
    intro _
    repeat' (first | (refine is_split ?_; (first | refine sp_yes (by exact dec_t (by omega)) ?_ | refine sp_dec (fun g => ?_) (fun g => ?_)) <;> (intro u; clear u)) | (refine is_call ?_; (first | refine call_auto (wakes_con) (lets_rfl rfl) (by exact trivial) rfl ?_ | refine call_auto (g1) (lets_rfl rfl) (by exact ⟨⟨_, rfl, rfl, rfl⟩, trivial⟩) rfl ?_ | refine call_auto (g2) (lets_rfl rfl) (by exact ⟨⟨_, rfl, rfl, rfl⟩, trivial⟩) rfl ?_); intro u; clear u))
    all_goals (refine con_end ?_ rfl; intro u; clear u; refine ⟨rfl, rfl, EntGoal.mk ?_ ?_⟩ <;> (repeat' (first | exact trivial | (with_reducible rfl) | apply And.intro | rfl)))
  have l1 : s.rows.length ≤ 40 := by omega
  have l2 : o.rows.length ≤ 40 := by omega
  have l3 : b.length ≤ 1000 := by omega
  have g1 := con_no g1 (by omega)
  have g2 := con_no g2 (by omega)
  have a1 := of_con t
  have a2 := refof_con t
  have a3 := con_yes (shrefsame_con (s := ofSh t) (o := ofSh t) (by have := ofSh_le t; omega) (by have := ofSh_le t; omega)) rfl
  have b1 := delta_con t u
  have b2 := refdelta_con t u
  have b3 := con_yes (shrefsame_con (s := dlSh t u) (o := dlSh t u) (by have := dlSh_le t u; omega) (by have := dlSh_le t u; omega)) rfl
  have c1 := put_con s (by omega)
  have c2 := refput_con s (by omega)
  have c3 := con_yes (samebytes_con (putSh_byte s) (putSh_byte s)) rfl
  have d1 := take_con hb (by omega)
  have d2 := reftake_con hb (by omega)
  have d3 := con_yes (shrefsame_con (s := tkSh b) (o := tkSh b) (by have := tkSh_le hb; omega) (by have := tkSh_le hb; omega)) rfl
  have e1 := shright_con s (by omega)
  have e2 := shref_con s (by omega)
  have e3 := shsame_con (s := s) (o := o) (by omega) (by omega)
  have e4 := shrefsame_con (s := s) (o := o) (by omega) (by omega)
  have e5 := shown_con (s := s) (by omega)
  have e6 := con_yes (shrefsame_con (s := s) (o := s) (by omega) (by omega)) rfl
  refine con_of_call2 rfl ?_
  refine call_inline Try.func3 rfl rfl ?_
  intro _
  repeat' (first | (refine is_split ?_; (first | (refine sp_yes (beq_self_eq_true _) ?_) | refine sp_no (by (first | exact dec_f (by omega) | exact ndec_f (by omega))) ?_) <;> (intro u; clear u)) | (refine is_draw ?_; refine draw_step mixed (by kernel_rfl) ?_; intro u; clear u) | (refine is_call ?_; (first | refine call_auto (g1) (lets_rfl rfl) (by exact ⟨⟨_, rfl, rfl, rfl⟩, trivial⟩) rfl ?_ | refine call_auto (g2) (lets_rfl rfl) (by exact ⟨⟨_, rfl, rfl, rfl⟩, trivial⟩) rfl ?_ | refine call_auto (a1) (lets_rfl rfl) (by exact trivial) rfl ?_ | refine call_auto (a2) (lets_rfl rfl) (by exact trivial) rfl ?_ | refine call_auto (a3) (lets_rfl rfl) (by exact ⟨⟨_, rfl, rfl, rfl⟩, ⟨_, rfl, rfl, rfl⟩, trivial⟩) rfl ?_ | refine call_auto (b1) (lets_rfl rfl) (by exact trivial) rfl ?_ | refine call_auto (b2) (lets_rfl rfl) (by exact trivial) rfl ?_ | refine call_auto (b3) (lets_rfl rfl) (by exact ⟨⟨_, rfl, rfl, rfl⟩, ⟨_, rfl, rfl, rfl⟩, trivial⟩) rfl ?_ | refine call_auto (c1) (lets_rfl rfl) (by exact ⟨⟨_, rfl, rfl, rfl⟩, trivial⟩) rfl ?_ | refine call_auto (c2) (lets_rfl rfl) (by exact ⟨⟨_, rfl, rfl, rfl⟩, trivial⟩) rfl ?_ | refine call_auto (c3) (lets_rfl rfl) (by exact ⟨⟨_, rfl, rfl, rfl⟩, ⟨_, rfl, rfl, rfl⟩, trivial⟩) rfl ?_ | refine call_auto (d1) (lets_rfl rfl) (by exact ⟨⟨_, rfl, rfl, rfl⟩, trivial⟩) rfl ?_ | refine call_auto (d2) (lets_rfl rfl) (by exact ⟨⟨_, rfl, rfl, rfl⟩, trivial⟩) rfl ?_ | refine call_auto (d3) (lets_rfl rfl) (by exact ⟨⟨_, rfl, rfl, rfl⟩, ⟨_, rfl, rfl, rfl⟩, trivial⟩) rfl ?_); intro u; clear u) | (refine is_dcall ?_; (first | refine dcall_auto (wakes_con) (lets_rfl rfl) (by exact trivial) rfl ?_ | refine dcall_auto (e1) (lets_rfl rfl) (by exact ⟨⟨_, rfl, rfl, rfl⟩, trivial⟩) rfl ?_ | refine dcall_auto (e2) (lets_rfl rfl) (by exact ⟨⟨_, rfl, rfl, rfl⟩, trivial⟩) rfl ?_ | refine dcall_auto (e3) (lets_rfl rfl) (by exact ⟨⟨_, rfl, rfl, rfl⟩, ⟨_, rfl, rfl, rfl⟩, trivial⟩) rfl ?_ | refine dcall_auto (e4) (lets_rfl rfl) (by exact ⟨⟨_, rfl, rfl, rfl⟩, ⟨_, rfl, rfl, rfl⟩, trivial⟩) rfl ?_ | refine dcall_auto (e5) (lets_rfl rfl) (by exact ⟨⟨_, rfl, rfl, rfl⟩, trivial⟩) rfl ?_ | refine dcall_auto (e6) (lets_rfl rfl) (by exact ⟨⟨_, rfl, rfl, rfl⟩, ⟨_, rfl, rfl, rfl⟩, trivial⟩) rfl ?_); intro u; clear u))
  all_goals (refine con_end ?_ rfl; intro u; clear u; refine ⟨rfl, rfl, EntGoal.mk ?_ ?_⟩ <;> (repeat' (first | exact trivial | (with_reducible rfl) | apply And.intro | rfl)))
