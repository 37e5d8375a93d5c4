/- Contracts of functions of the program, or a row of the seat, proved out of them. No condition beyond those that stand in each statement. -/
import Derived.Test.YtcnijhilkemplaaS07h7D
namespace Go.Proofs.S07.E7
open Go Go.SE
open Go.Proofs.S07.O6 (Opt optT okOpt putS putE takeO takeE zeroO)
open Go.Proofs.S07.I2 (Hd hdT okHd putL parseE parseS zeroHd)
set_option maxRecDepth 100000
set_option maxHeartbeats 4000000
attribute [local irreducible] specI okOpt putL parseE parseS takeE takeO putS


attribute [local irreducible] wrB
/-- What bytes could have been wrapped. -/
def cand (l : List Int) : Wr := ⟨ndOf (parseS l).src, ndOf (parseS l).dst, takeO (parseS l).opts, (parseS l).pay⟩
def okTake (l : List Int) : Prop := parseE l = 0 ∧ takeE (parseS l).opts = 0 ∧ okAd (parseS l).src ∧ okAd (parseS l).dst ∧ wrB (cand l) = l
instance (l : List Int) : Decidable (okTake l) := by unfold okTake; infer_instance
def takeW (l : List Int) : Wr := if okTake l then cand l else zeroWr
def takeD (l : List Int) : Int := if okTake l then 0 else 13

theorem ndOf_wf (a : Int) : (ndOf a).Wf := by
  unfold ndOf
  split
  · rename_i h; unfold okAd at h; constructor <;> (simp only; omega)
  · exact ⟨by decide, by decide⟩
theorem takeO_wf {l : List Int} (hb : ∀ x ∈ l, 0 ≤ x ∧ x ≤ 255) : (takeO l).Wf := by
  rcases O6.take_cases hb with ⟨_, _, _, h, _⟩ | ⟨_, e, _⟩ | ⟨_, e, _⟩
  · exact h
  · rw [e]; exact ⟨by decide, by decide, by decide, by decide⟩
  · rw [e]; exact ⟨by decide, by decide, by decide, by decide⟩
theorem cand_wf {l : List Int} (hb : ∀ x ∈ l, 0 ≤ x ∧ x ≤ 255) (hl : l.length ≤ 4000) : (cand l).Wf :=
  have h := I2.parse_wf hb hl
  ⟨ndOf_wf _, ndOf_wf _, takeO_wf h.opts, h.pay⟩
theorem parse_len {l : List Int} (hb : ∀ x ∈ l, 0 ≤ x ∧ x ≤ 255) (hl : l.length ≤ 4000) : (parseS l).pay.length ≤ 4000 ∧ (parseS l).opts.length ≤ 40 := by
  have h := I2.parse_wf hb hl
  refine ⟨h.plen, ?_⟩
  by_cases hE : parseE l = 0
  · exact (I2.parse_back hb hl hE).1.2.1
  · have : parseS l = zeroHd := by unfold parseS; rw [if_neg hE]
    rw [this]; decide
theorem cand_ok {l : List Int} (hb : ∀ x ∈ l, 0 ≤ x ∧ x ≤ 255) (hl : l.length ≤ 4000) (h2 : takeE (parseS l).opts = 0) (h3 : okAd (parseS l).src) (h4 : okAd (parseS l).dst) : okWr (cand l) := by
  have h := I2.parse_wf hb hl
  refine ⟨(adr_ndOf h3).1, (adr_ndOf h4).1, ?_⟩
  rcases O6.take_cases h.opts with ⟨_, e, _⟩ | ⟨e, _⟩ | ⟨e, _⟩
  · exact e
  · omega
  · omega

/-- What Put tells of it, where it may be. -/
theorem put_yes {w : Wr} (h : w.Wf) (hl : w.inner.length ≤ 4000) (hk : okWr w) : CallCon Try.prog 13 [wrT w 0] [.row (ints .u8 w.inner) 1 5 false] (.tup [.one (.sl 0 0 (wrB w).length), .one (.v (.int .u8 0))]) [.row (ints .u8 (wrB w)) 1 5 true] := by
  have := put_con h hl
  rwa [show wrD w = 0 from if_pos hk] at this
theorem refput_yes7 {w : Wr} (h : w.Wf) (hl : w.inner.length ≤ 4000) (hk : okWr w) : CallCon Try.prog 14 [wrT w 0] [.row (ints .u8 w.inner) 1 5 false] (.tup [.one (.sl 0 0 (wrB w).length), .one (.v (.int .u8 0))]) [.row (ints .u8 (wrB w)) 1 5 true] := by
  have := refput_con h hl
  rwa [show wrD w = 0 from if_pos hk] at this

theorem take_no {l : List Int} (hk : ¬ okTake l) : takeW l = zeroWr ∧ takeD l = 13 := ⟨if_neg hk, if_neg hk⟩
theorem take_con {l : List Int} (hb : ∀ x ∈ l, 0 ≤ x ∧ x ≤ 255) (hl : l.length ≤ 4000) : CallCon Try.prog 15 [.one (.sl 0 0 l.length)] [.row (ints .u8 l) 1 5 false]
    (.tup [wrT (takeW l) 0, .one (.v (.int .u8 (takeD l)))]) [.row (ints .u8 (takeW l).inner) 1 5 true] := by
  have hp := I2.parse_con hb hl
  have hw := I2.parse_wf hb hl
  obtain ⟨l1, l2⟩ := parse_len hb hl
  have ht := O6.take_con (l := (parseS l).opts) (by omega) hw.opts
  have hs := node_con hw.src
  have hd := node_con hw.dst
  by_cases h1 : parseE l = 0
  · by_cases h2 : takeE (parseS l).opts = 0
    · by_cases h3 : okAd (parseS l).src
      · by_cases h4 : okAd (parseS l).dst
        · have hc := put_yes (cand_wf hb hl) l1 (cand_ok hb hl h2 h3 h4)
          have hq := I2.equal_con (l := wrB (cand l)) (r := l) (by
            have : wrB (cand l) = putL (putHd (cand l)) := by unfold wrB; rw [if_pos (cand_ok hb hl h2 h3 h4)]
            rw [this]
            exact I2.put_bytes (putHd_wf (cand_wf hb hl) l1 (cand_ok hb hl h2 h3 h4).2.2)) hb
          rw [h1] at hp
          rw [h2] at ht
          rw [decide_eq_true h3] at hs
          rw [decide_eq_true h4] at hd
          by_cases h5 : wrB (cand l) = l
          · have hk : okTake l := ⟨h1, h2, h3, h4, h5⟩
            rw [show takeW l = cand l from if_pos hk, show takeD l = 0 from if_pos hk]
            rw [decide_eq_true h5] at hq
            refine con_of_call2 rfl ?_
            refine call_inline Try.func15 rfl rfl ?_
            intro _
            repeat' (first | (refine is_split ?_; (first | refine sp_yes (by rfl) ?_ | refine sp_no (by rfl) ?_) <;> (intro u; clear u)) | (refine is_scope ?_; refine scope_step ?_; intro u; clear u) | (refine is_call ?_; (first | refine call_auto (hp) (lets_rfl rfl) (by exact ⟨⟨_, rfl, rfl, rfl⟩, trivial⟩) rfl ?_ | refine call_auto (ht) (lets_rfl rfl) (by exact ⟨⟨_, rfl, rfl, rfl⟩, trivial⟩) rfl ?_ | refine call_auto (hs) (lets_rfl rfl) (by exact trivial) rfl ?_ | refine call_auto (hd) (lets_rfl rfl) (by exact trivial) rfl ?_ | refine call_auto (hc) (lets_rfl rfl) (by exact ⟨⟨_, rfl, rfl, rfl⟩, trivial⟩) rfl ?_ | refine call_auto (hq) (lets_rfl rfl) (by exact ⟨⟨_, rfl, rfl, rfl⟩, ⟨_, rfl, rfl, rfl⟩, trivial⟩) rfl ?_); intro u; clear u))
            all_goals (refine con_end ?_ rfl; intro u; clear u; refine ⟨rfl, rfl, EntGoal.mk ?_ ?_⟩ <;> (repeat' (first | exact trivial | (with_reducible rfl) | apply And.intro | rfl)))
          · have hk : ¬ okTake l := fun q => h5 q.2.2.2.2
            rw [(take_no hk).1, (take_no hk).2]
            rw [decide_eq_false h5] at hq
            refine con_of_call2 rfl ?_
            refine call_inline Try.func15 rfl rfl ?_
            intro _
            repeat' (first | (refine is_split ?_; (first | refine sp_yes (by rfl) ?_ | refine sp_no (by rfl) ?_) <;> (intro u; clear u)) | (refine is_scope ?_; refine scope_step ?_; intro u; clear u) | (refine is_call ?_; (first | refine call_auto (hp) (lets_rfl rfl) (by exact ⟨⟨_, rfl, rfl, rfl⟩, trivial⟩) rfl ?_ | refine call_auto (ht) (lets_rfl rfl) (by exact ⟨⟨_, rfl, rfl, rfl⟩, trivial⟩) rfl ?_ | refine call_auto (hs) (lets_rfl rfl) (by exact trivial) rfl ?_ | refine call_auto (hd) (lets_rfl rfl) (by exact trivial) rfl ?_ | refine call_auto (hc) (lets_rfl rfl) (by exact ⟨⟨_, rfl, rfl, rfl⟩, trivial⟩) rfl ?_ | refine call_auto (hq) (lets_rfl rfl) (by exact ⟨⟨_, rfl, rfl, rfl⟩, ⟨_, rfl, rfl, rfl⟩, trivial⟩) rfl ?_); intro u; clear u))
            all_goals (refine con_end ?_ rfl; intro u; clear u; refine ⟨rfl, rfl, EntGoal.mk ?_ ?_⟩ <;> (repeat' (first | exact trivial | (with_reducible rfl) | apply And.intro | rfl)))
        · have hk : ¬ okTake l := fun q => h4 q.2.2.2.1
          rw [(take_no hk).1, (take_no hk).2]
          rw [h1] at hp
          rw [h2] at ht
          rw [decide_eq_true h3] at hs
          rw [decide_eq_false h4] at hd
          refine con_of_call2 rfl ?_
          refine call_inline Try.func15 rfl rfl ?_
          intro _
          repeat' (first | (refine is_split ?_; (first | refine sp_yes (by rfl) ?_ | refine sp_no (by rfl) ?_) <;> (intro u; clear u)) | (refine is_scope ?_; refine scope_step ?_; intro u; clear u) | (refine is_call ?_; (first | refine call_auto (hp) (lets_rfl rfl) (by exact ⟨⟨_, rfl, rfl, rfl⟩, trivial⟩) rfl ?_ | refine call_auto (ht) (lets_rfl rfl) (by exact ⟨⟨_, rfl, rfl, rfl⟩, trivial⟩) rfl ?_ | refine call_auto (hs) (lets_rfl rfl) (by exact trivial) rfl ?_ | refine call_auto (hd) (lets_rfl rfl) (by exact trivial) rfl ?_); intro u; clear u))
          all_goals (refine con_end ?_ rfl; intro u; clear u; refine ⟨rfl, rfl, EntGoal.mk ?_ ?_⟩ <;> (repeat' (first | exact trivial | (with_reducible rfl) | apply And.intro | rfl)))
      · have hk : ¬ okTake l := fun q => h3 q.2.2.1
        rw [(take_no hk).1, (take_no hk).2]
        rw [h1] at hp
        rw [h2] at ht
        rw [decide_eq_false h3] at hs
        refine con_of_call2 rfl ?_
        refine call_inline Try.func15 rfl rfl ?_
        intro _
        repeat' (first | (refine is_split ?_; (first | refine sp_yes (by rfl) ?_ | refine sp_no (by rfl) ?_) <;> (intro u; clear u)) | (refine is_scope ?_; refine scope_step ?_; intro u; clear u) | (refine is_call ?_; (first | refine call_auto (hp) (lets_rfl rfl) (by exact ⟨⟨_, rfl, rfl, rfl⟩, trivial⟩) rfl ?_ | refine call_auto (ht) (lets_rfl rfl) (by exact ⟨⟨_, rfl, rfl, rfl⟩, trivial⟩) rfl ?_ | refine call_auto (hs) (lets_rfl rfl) (by exact trivial) rfl ?_ | refine call_auto (hd) (lets_rfl rfl) (by exact trivial) rfl ?_); intro u; clear u))
        all_goals (refine con_end ?_ rfl; intro u; clear u; refine ⟨rfl, rfl, EntGoal.mk ?_ ?_⟩ <;> (repeat' (first | exact trivial | (with_reducible rfl) | apply And.intro | rfl)))
    · have hk : ¬ okTake l := fun q => h2 q.2.1
      rw [(take_no hk).1, (take_no hk).2]
      rw [h1] at hp
      refine con_of_call2 rfl ?_
      refine call_inline Try.func15 rfl rfl ?_
      intro _
      repeat' (first | (refine is_split ?_; (first | refine sp_yes (by exact ndec_t (by omega)) ?_ | refine sp_no (by rfl) ?_) <;> (intro u; clear u)) | (refine is_scope ?_; refine scope_step ?_; intro u; clear u) | (refine is_call ?_; (first | refine call_auto (hp) (lets_rfl rfl) (by exact ⟨⟨_, rfl, rfl, rfl⟩, trivial⟩) rfl ?_ | refine call_auto (ht) (lets_rfl rfl) (by exact ⟨⟨_, rfl, rfl, rfl⟩, trivial⟩) rfl ?_); intro u; clear u))
      all_goals (refine con_end ?_ rfl; intro u; clear u; refine ⟨rfl, rfl, EntGoal.mk ?_ ?_⟩ <;> (repeat' (first | exact trivial | (with_reducible rfl) | apply And.intro | rfl)))
  · have hk : ¬ okTake l := fun q => h1 q.1
    rw [(take_no hk).1, (take_no hk).2]
    refine con_of_call2 rfl ?_
    refine call_inline Try.func15 rfl rfl ?_
    intro _
    repeat' (first | (refine is_split ?_; refine sp_yes (by exact ndec_t (by omega)) ?_ <;> (intro u; clear u)) | (refine is_scope ?_; refine scope_step ?_; intro u; clear u) | (refine is_call ?_; refine call_auto (hp) (lets_rfl rfl) (by exact ⟨⟨_, rfl, rfl, rfl⟩, trivial⟩) rfl ?_; intro u; clear u))
    all_goals (refine con_end ?_ rfl; intro u; clear u; refine ⟨rfl, rfl, EntGoal.mk ?_ ?_⟩ <;> (repeat' (first | exact trivial | (with_reducible rfl) | apply And.intro | rfl)))
