/- Contracts of functions of the program, or a row of the seat, proved out of them. No condition beyond those that stand in each statement. -/
import Derived.Test.YtcnijhilkemplaaS07h7B
namespace Go.Proofs.S07.E7
open Go Go.SE
set_option maxRecDepth 100000
set_option maxHeartbeats 4000000
attribute [local irreducible] specI


theorem ents_all : ∀ e ∈ ents.toList, ∃ n : Nd, okNd n ∧ e.key = .agg #[.int .u8 n.kind, .int .i64 n.id] ∧ e.val = .int .u32 (adr n) ∧ e.born < 10 ∧ allNd[e.born]? = some n := by
  intro e he
  have he : e ∈ entsL := he
  simp only [entsL, List.mem_cons, List.not_mem_nil, or_false] at he
  rcases he with rfl | rfl | rfl | rfl | rfl | rfl | rfl | rfl | rfl | rfl
  · exact ⟨⟨1, 0⟩, by decide, rfl, rfl, by decide, rfl⟩
  · exact ⟨⟨1, 1⟩, by decide, rfl, rfl, by decide, rfl⟩
  · exact ⟨⟨1, 2⟩, by decide, rfl, rfl, by decide, rfl⟩
  · exact ⟨⟨2, 0⟩, by decide, rfl, rfl, by decide, rfl⟩
  · exact ⟨⟨2, 1⟩, by decide, rfl, rfl, by decide, rfl⟩
  · exact ⟨⟨2, 2⟩, by decide, rfl, rfl, by decide, rfl⟩
  · exact ⟨⟨2, 3⟩, by decide, rfl, rfl, by decide, rfl⟩
  · exact ⟨⟨2, 4⟩, by decide, rfl, rfl, by decide, rfl⟩
  · exact ⟨⟨2, 5⟩, by decide, rfl, rfl, by decide, rfl⟩
  · exact ⟨⟨3, 0⟩, by decide, rfl, rfl, by decide, rfl⟩
theorem ents_nodup : (ents.toList.map (·.born)).Nodup := by decide
theorem ents_has {a : Int} (h : okAd a) : ∃ e ∈ ents.toList, e.val = .int .u32 a := by
  show ∃ e ∈ entsL, e.val = .int .u32 a
  unfold okAd at h
  have : a = 167772416 ∨ a = 167772417 ∨ a = 167772418 ∨ a = 167772672 ∨ a = 167772673 ∨ a = 167772674 ∨ a = 167772675 ∨ a = 167772676 ∨ a = 167772677 ∨ a = 167772928 := by omega
  rcases this with rfl | rfl | rfl | rfl | rfl | rfl | rfl | rfl | rfl | rfl
  · exact ⟨entOf ⟨1, 0⟩ 0, by simp [entsL], rfl⟩
  · exact ⟨entOf ⟨1, 1⟩ 1, by simp [entsL], rfl⟩
  · exact ⟨entOf ⟨1, 2⟩ 2, by simp [entsL], rfl⟩
  · exact ⟨entOf ⟨2, 0⟩ 3, by simp [entsL], rfl⟩
  · exact ⟨entOf ⟨2, 1⟩ 4, by simp [entsL], rfl⟩
  · exact ⟨entOf ⟨2, 2⟩ 5, by simp [entsL], rfl⟩
  · exact ⟨entOf ⟨2, 3⟩ 6, by simp [entsL], rfl⟩
  · exact ⟨entOf ⟨2, 4⟩ 7, by simp [entsL], rfl⟩
  · exact ⟨entOf ⟨2, 5⟩ 8, by simp [entsL], rfl⟩
  · exact ⟨entOf ⟨3, 0⟩ 9, by simp [entsL], rfl⟩
theorem ndOf_adr {n : Nd} (h : okNd n) : okAd (adr n) ∧ ndOf (adr n) = n := by
  have e : adr n = 167772160 + 256 * n.kind + n.id := if_pos h
  have h' := h
  unfold okNd at h'
  have h2 : okAd (adr n) := by unfold okAd; omega
  refine ⟨h2, ?_⟩
  unfold ndOf
  rw [if_pos h2, e]
  cases n
  simp only [Nd.mk.injEq] at h' ⊢
  omega
theorem adr_ndOf {a : Int} (h : okAd a) : okNd (ndOf a) ∧ adr (ndOf a) = a := by
  have e : ndOf a = ⟨(a - 167772160) / 256, (a - 167772160) % 256⟩ := if_pos h
  unfold okAd at h
  have h2 : okNd (ndOf a) := by unfold okNd; rw [e]; simp only; omega
  refine ⟨h2, ?_⟩
  unfold adr
  rw [if_pos h2, e]
  simp only
  omega
/-- How many entries were not told yet. -/
def leftN (seen : List Nat) : Nat := ((List.range 10).filter fun i => decide (i ∉ seen)).length
theorem leftN_lt {seen : List Nat} {b : Nat} (h1 : b < 10) (h2 : b ∉ seen) : leftN (seen ++ [b]) < leftN seen := by
  unfold leftN
  have e : (List.range 10).filter (fun i => decide (i ∉ seen ++ [b])) = ((List.range 10).filter fun i => decide (i ∉ seen)).filter fun i => decide (i ≠ b) := by
    rw [List.filter_filter]
    congr 1
    funext i
    rw [Bool.eq_iff_iff]
    simp only [List.mem_append, List.mem_singleton, not_or, decide_eq_true_eq, Bool.and_eq_true, ne_eq]
    exact And.comm
  rw [e]
  apply List.length_filter_lt_length_iff_exists.2
  exact ⟨b, by simp [h1, h2], by simp⟩

theorem node_con {a : Int} (h : 0 ≤ a ∧ a ≤ 4294967295) : CallCon Try.prog 11 [.one (.v (.int .u32 a))] [] (.tup [ndT (ndOf a), .one (.b (okAd a))]) [] := by
  refine con_of_call2 rfl ?_
  refine call_inline Try.func11 rfl rfl ?_
  intro _
  repeat' (first | (refine range_stop rfl rfl rfl rfl rfl ?_; intro u; clear u) | (refine is_call ?_; refine call_auto (addrs_con) (lets_rfl rfl) (by exact trivial) rfl ?_; intro u; clear u))
  refine loop_keep (fun seen : List Nat => leftN seen) (fun seen => ∀ e ∈ ents.toList, e.born ∈ seen → e.val ≠ .int .u32 a) [0, 2, 3, 7] (fun _ => []) (fun seen => [(2, .iter 1 10 seen 10)]) (fun _ => []) [] 0 [] (fun e _ q => by cases q) ?_ ?_
  · (intro u; clear u; refine ⟨rfl, rfl, EntGoal.mk ?_ ?_⟩ <;> (repeat' (first | exact trivial | (with_reducible rfl) | apply And.intro | rfl)))
  · intro seen hI u; clear u
    refine next_stop rfl rfl rfl rfl rfl rfl (fun e he => (ents_all e he).choose_spec.2.2.2.1) (by decide) (fun e he => ?_) ?_ ?_
    · obtain ⟨n, _, q2, q3, _, _⟩ := ents_all e he
      rw [q2, q3]
      exact ⟨_, _, rfl, rfl⟩
    · intro hall u; clear u
      repeat' fail
      have hno : ¬ okAd a := fun q => by
        obtain ⟨e, he, hv⟩ := ents_has q
        exact hI e he (hall e he) hv
      rw [decide_eq_false hno, show ndOf a = zeroNd from if_neg hno]
      (refine con_end ?_ rfl; intro u; clear u; refine ⟨rfl, rfl, EntGoal.mk ?_ ?_⟩ <;> (repeat' (first | exact trivial | (with_reducible rfl) | apply And.intro | rfl)))
    · intro e he hn k v hk hv
      obtain ⟨n, q1, q2, q3, q4, q5⟩ := ents_all e he
      rw [q2] at hk
      rw [q3] at hv
      obtain rfl : .agg [.n .u8 n.kind, .n .i64 n.id] = k := Option.some.inj hk
      obtain rfl : .one (.n .u32 (adr n)) = v := Option.some.inj hv
      intro u; clear u
      repeat' (first | (refine entry_stop rfl rfl rfl rfl rfl rfl he rfl ents_nodup (by rw [q2]; rfl) (by rw [q3]; rfl) ?_; intro u; clear u) | (refine is_split ?_; refine sp_dec (fun g => ?_) (fun g => ?_) <;> (intro u; clear u)))
      · subst g
        rw [decide_eq_true (ndOf_adr q1).1, (ndOf_adr q1).2]
        (refine con_end ?_ rfl; intro u; clear u; refine ⟨rfl, rfl, EntGoal.mk ?_ ?_⟩ <;> (repeat' (first | exact trivial | (with_reducible rfl) | apply And.intro | rfl)))
      · refine again (seen ++ [e.born]) (fun z hz hb => ?_) (leftN_lt q4 hn) ?_
        · rcases List.mem_append.1 hb with hb | hb
          · exact hI z hz hb
          · obtain ⟨m, _, _, p3, _, p5⟩ := ents_all z hz
            rw [List.mem_singleton.1 hb, q5] at p5
            obtain rfl := Option.some.inj p5
            rw [p3]
            intro q
            exact g (by injection q)
        · (intro u; clear u; refine ⟨rfl, rfl, EntGoal.mk ?_ ?_⟩ <;> (repeat' (first | exact trivial | (with_reducible rfl) | apply And.intro | rfl)))
