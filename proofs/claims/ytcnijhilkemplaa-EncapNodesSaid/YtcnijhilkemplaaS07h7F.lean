/- Contracts of functions of the program, or a row of the seat, proved out of them. No condition beyond those that stand in each statement. -/
import Derived.Test.YtcnijhilkemplaaS07h7E
namespace Go.Proofs.S07.E7
open Go Go.SE
open Go.Proofs.S07.O6 (Opt optT okOpt putS putE takeO takeE zeroO)
open Go.Proofs.S07.I2 (Hd hdT okHd putL parseE parseS zeroHd)
set_option maxRecDepth 100000
set_option maxHeartbeats 4000000
attribute [local irreducible] specI okOpt putL parseE parseS takeE takeO putS



instance : DecidableEq Opt := fun a b => decidable_of_iff (a.kind = b.kind ∧ a.bucket = b.bucket ∧ a.cur = b.cur ∧ a.prev = b.prev ∧ a.gen = b.gen ∧ a.tick = b.tick) (by
  cases a; cases b; simp)
instance : DecidableEq Wr := fun a b => decidable_of_iff (a.frm = b.frm ∧ a.to = b.to ∧ a.opt = b.opt ∧ a.inner = b.inner) (by
  cases a; cases b; simp)
theorem reftake_con {l : List Int} (hb : ∀ x ∈ l, 0 ≤ x ∧ x ≤ 255) (hl : l.length ≤ 4000) : CallCon Try.prog 16 [.one (.sl 0 0 l.length)] [.row (ints .u8 l) 1 5 false]
    (.tup [wrT (takeW l) 0, .one (.v (.int .u8 (takeD l)))]) [.row (ints .u8 (takeW l).inner) 1 5 true] := by
  have hp := I2.refparse_con hb hl
  have hw := I2.parse_wf hb hl
  obtain ⟨l1, l2⟩ := parse_len hb hl
  have ht := O6.reftake_con (l := (parseS l).opts) (by omega) hw.opts
  have hs := refnode_con hw.src
  have hd := refnode_con hw.dst
  by_cases h1 : parseE l = 0
  · by_cases h2 : takeE (parseS l).opts = 0
    · by_cases h3 : okAd (parseS l).src
      · by_cases h4 : okAd (parseS l).dst
        · have hc := refput_yes7 (cand_wf hb hl) l1 (cand_ok hb hl h2 h3 h4)
          have hB : Bytes (wrB (cand l)) := by
            have : wrB (cand l) = putL (putHd (cand l)) := by unfold wrB; rw [if_pos (cand_ok hb hl h2 h3 h4)]
            rw [this]
            exact I2.put_bytes (putHd_wf (cand_wf hb hl) l1 (cand_ok hb hl h2 h3 h4).2.2)
          have hB2 : Bytes l := hb
          rw [h1] at hp
          rw [h2] at ht
          rw [decide_eq_true h3] at hs
          rw [decide_eq_true h4] at hd
          by_cases h5 : wrB (cand l) = l
          · have hk : okTake l := ⟨h1, h2, h3, h4, h5⟩
            rw [show takeW l = cand l from if_pos hk, show takeD l = 0 from if_pos hk]
            refine con_of_call2 rfl ?_
            refine call_inline Try.func16 rfl rfl ?_
            intro _
            repeat' (first | (refine is_split ?_; (first | refine sp_no (by rfl) ?_ | refine sp_nstr (by assumption) (by assumption) (fun g => ?_) (fun g => ?_)) <;> (intro u; clear u)) | (refine is_asked ?_; refine asked _ (tostr_ask (take_ints _ _) rfl) ?_; intro u; clear u) | (refine is_call ?_; (first | refine call_auto (hp) (lets_rfl rfl) (by exact ⟨⟨_, rfl, rfl, rfl⟩, trivial⟩) rfl ?_ | refine call_auto (ht) (lets_rfl rfl) (by exact ⟨⟨_, rfl, rfl, rfl⟩, trivial⟩) rfl ?_ | refine call_auto (hs) (lets_rfl rfl) (by exact trivial) rfl ?_ | refine call_auto (hd) (lets_rfl rfl) (by exact trivial) rfl ?_ | refine call_auto (hc) (lets_rfl rfl) (by exact ⟨⟨_, rfl, rfl, rfl⟩, trivial⟩) rfl ?_); intro u; clear u))
            all_goals first
              | (exact absurd g h5)
              | (exact absurd h5 g)
              | (refine con_end ?_ rfl; intro u; clear u; refine ⟨rfl, rfl, EntGoal.mk ?_ ?_⟩ <;> (repeat' (first | exact trivial | (with_reducible rfl) | apply And.intro | rfl)))
          · have hk : ¬ okTake l := fun q => h5 q.2.2.2.2
            rw [(take_no hk).1, (take_no hk).2]
            refine con_of_call2 rfl ?_
            refine call_inline Try.func16 rfl rfl ?_
            intro _
            repeat' (first | (refine is_split ?_; (first | refine sp_no (by rfl) ?_ | refine sp_nstr (by assumption) (by assumption) (fun g => ?_) (fun g => ?_)) <;> (intro u; clear u)) | (refine is_asked ?_; refine asked _ (tostr_ask (take_ints _ _) rfl) ?_; intro u; clear u) | (refine is_call ?_; (first | refine call_auto (hp) (lets_rfl rfl) (by exact ⟨⟨_, rfl, rfl, rfl⟩, trivial⟩) rfl ?_ | refine call_auto (ht) (lets_rfl rfl) (by exact ⟨⟨_, rfl, rfl, rfl⟩, trivial⟩) rfl ?_ | refine call_auto (hs) (lets_rfl rfl) (by exact trivial) rfl ?_ | refine call_auto (hd) (lets_rfl rfl) (by exact trivial) rfl ?_ | refine call_auto (hc) (lets_rfl rfl) (by exact ⟨⟨_, rfl, rfl, rfl⟩, trivial⟩) rfl ?_); intro u; clear u))
            all_goals first
              | (exact absurd g h5)
              | (exact absurd h5 g)
              | (refine con_end ?_ rfl; intro u; clear u; refine ⟨rfl, rfl, EntGoal.mk ?_ ?_⟩ <;> (repeat' (first | exact trivial | (with_reducible rfl) | apply And.intro | rfl)))
        · have hk : ¬ okTake l := fun q => h4 q.2.2.2.1
          rw [(take_no hk).1, (take_no hk).2]
          rw [h1] at hp
          rw [h2] at ht
          rw [decide_eq_true h3] at hs
          rw [decide_eq_false h4] at hd
          refine con_of_call2 rfl ?_
          refine call_inline Try.func16 rfl rfl ?_
          intro _
          repeat' (first | (refine is_split ?_; (first | refine sp_yes (by rfl) ?_ | refine sp_no (by rfl) ?_) <;> (intro u; clear u)) | (refine is_call ?_; (first | refine call_auto (hp) (lets_rfl rfl) (by exact ⟨⟨_, rfl, rfl, rfl⟩, trivial⟩) rfl ?_ | refine call_auto (ht) (lets_rfl rfl) (by exact ⟨⟨_, rfl, rfl, rfl⟩, trivial⟩) rfl ?_ | refine call_auto (hs) (lets_rfl rfl) (by exact trivial) rfl ?_ | refine call_auto (hd) (lets_rfl rfl) (by exact trivial) rfl ?_); intro u; clear u))
          all_goals (refine con_end ?_ rfl; intro u; clear u; refine ⟨rfl, rfl, EntGoal.mk ?_ ?_⟩ <;> (repeat' (first | exact trivial | (with_reducible rfl) | apply And.intro | rfl)))
      · have hk : ¬ okTake l := fun q => h3 q.2.2.1
        rw [(take_no hk).1, (take_no hk).2]
        rw [h1] at hp
        rw [h2] at ht
        rw [decide_eq_false h3] at hs
        refine con_of_call2 rfl ?_
        refine call_inline Try.func16 rfl rfl ?_
        intro _
        repeat' (first | (refine is_split ?_; (first | refine sp_yes (by rfl) ?_ | refine sp_no (by rfl) ?_) <;> (intro u; clear u)) | (refine is_call ?_; (first | refine call_auto (hp) (lets_rfl rfl) (by exact ⟨⟨_, rfl, rfl, rfl⟩, trivial⟩) rfl ?_ | refine call_auto (ht) (lets_rfl rfl) (by exact ⟨⟨_, rfl, rfl, rfl⟩, trivial⟩) rfl ?_ | refine call_auto (hs) (lets_rfl rfl) (by exact trivial) rfl ?_ | refine call_auto (hd) (lets_rfl rfl) (by exact trivial) rfl ?_); intro u; clear u))
        all_goals (refine con_end ?_ rfl; intro u; clear u; refine ⟨rfl, rfl, EntGoal.mk ?_ ?_⟩ <;> (repeat' (first | exact trivial | (with_reducible rfl) | apply And.intro | rfl)))
    · have hk : ¬ okTake l := fun q => h2 q.2.1
      rw [(take_no hk).1, (take_no hk).2]
      rw [h1] at hp
      refine con_of_call2 rfl ?_
      refine call_inline Try.func16 rfl rfl ?_
      intro _
      repeat' (first | (refine is_split ?_; (first | refine sp_yes (by exact ndec_t (by omega)) ?_ | refine sp_no (by rfl) ?_) <;> (intro u; clear u)) | (refine is_call ?_; (first | refine call_auto (hp) (lets_rfl rfl) (by exact ⟨⟨_, rfl, rfl, rfl⟩, trivial⟩) rfl ?_ | refine call_auto (ht) (lets_rfl rfl) (by exact ⟨⟨_, rfl, rfl, rfl⟩, trivial⟩) rfl ?_ | refine call_auto (hs) (lets_rfl rfl) (by exact trivial) rfl ?_ | refine call_auto (hd) (lets_rfl rfl) (by exact trivial) rfl ?_); intro u; clear u))
      all_goals (refine con_end ?_ rfl; intro u; clear u; refine ⟨rfl, rfl, EntGoal.mk ?_ ?_⟩ <;> (repeat' (first | exact trivial | (with_reducible rfl) | apply And.intro | rfl)))
  · have hk : ¬ okTake l := fun q => h1 q.1
    rw [(take_no hk).1, (take_no hk).2]
    refine con_of_call2 rfl ?_
    refine call_inline Try.func16 rfl rfl ?_
    intro _
    repeat' (first | (refine is_split ?_; refine sp_yes (by exact ndec_t (by omega)) ?_ <;> (intro u; clear u)) | (refine is_call ?_; refine call_auto (hp) (lets_rfl rfl) (by exact ⟨⟨_, rfl, rfl, rfl⟩, trivial⟩) rfl ?_; intro u; clear u))
    all_goals (refine con_end ?_ rfl; intro u; clear u; refine ⟨rfl, rfl, EntGoal.mk ?_ ?_⟩ <;> (repeat' (first | exact trivial | (with_reducible rfl) | apply And.intro | rfl)))

theorem wr_eq {a b : Wr} : a = b ↔ (a.frm.kind = b.frm.kind ∧ a.frm.id = b.frm.id) ∧ (a.to.kind = b.to.kind ∧ a.to.id = b.to.id) ∧ (a.opt.kind = b.opt.kind ∧ a.opt.bucket = b.opt.bucket ∧ a.opt.cur = b.opt.cur ∧ a.opt.prev = b.opt.prev ∧ a.opt.gen = b.opt.gen ∧ a.opt.tick = b.opt.tick) ∧ a.inner = b.inner := by
  obtain ⟨⟨_, _⟩, ⟨_, _⟩, ⟨_, _, _, _, _, _⟩, _⟩ := a
  obtain ⟨⟨_, _⟩, ⟨_, _⟩, ⟨_, _, _, _, _, _⟩, _⟩ := b
  simp
theorem refsame_con {a b : Wr} (ha : a.Wf) (hb : b.Wf) : CallCon Try.prog 18 [wrT a 0, wrT b 1] [.row (ints .u8 a.inner) 1 5 false, .row (ints .u8 b.inner) 1 5 false] (.t (.one (.b (a = b)))) [] := by
  have h1 : Bytes a.inner := ha.inner
  have h2 : Bytes b.inner := hb.inner
  refine con_of_call2 rfl ?_
  refine call_inline Try.func18 rfl rfl ?_
  intro _
  repeat' (first | (refine is_split ?_; refine Split.mk (fun g => ?_) (fun g => ?_) <;> (intro u; clear u)) | (refine is_asked ?_; (first | refine asked _ (tostr_ask (take_ints _ _) rfl) ?_ | refine asked () (by show heldFree Try.prog _ _ = true; decide +kernel) ?_); intro u; clear u))
  all_goals first
    | (rw [decide_eq_false (p := a = b) (fun q => by subst q; simp at *)]; (refine con_end ?_ rfl; intro u; clear u; refine ⟨rfl, rfl, EntGoal.mk ?_ ?_⟩ <;> (repeat' (first | exact trivial | (with_reducible rfl) | apply And.intro | rfl))); done)
    | (have e : a = b ↔ a.inner = b.inner := by
         simp only [Bool.and_true, Bool.and_eq_true, beq_iff_eq] at *
         rw [wr_eq]; simp only [*, and_self, true_and]
       rw [decide_eq_decide.2 e, ← bytes_beq h1 h2]; (refine con_end ?_ rfl; intro u; clear u; refine ⟨rfl, rfl, EntGoal.mk ?_ ?_⟩ <;> (repeat' (first | exact trivial | (with_reducible rfl) | apply And.intro | rfl))); done)
    | skip
theorem same_con {a b : Wr} (ha : a.Wf) (hb : b.Wf) : CallCon Try.prog 22 [wrT a 0, wrT b 1] [.row (ints .u8 a.inner) 1 5 false, .row (ints .u8 b.inner) 1 5 false] (.t (.one (.b (a = b)))) [] := by
  have hq := I2.equal_con ha.inner hb.inner
  refine con_of_call2 rfl ?_
  refine call_inline Try.func22 rfl rfl ?_
  intro _
  repeat' (first | (refine is_split ?_; refine Split.mk (fun g => ?_) (fun g => ?_) <;> (intro u; clear u)) | (refine is_asked ?_; refine asked () (by show heldFree Try.prog _ _ = true; decide +kernel) ?_; intro u; clear u) | (refine is_call ?_; refine call_auto (hq) (lets_rfl rfl) (by exact ⟨⟨_, rfl, rfl, rfl⟩, ⟨_, rfl, rfl, rfl⟩, trivial⟩) rfl ?_; intro u; clear u))
  all_goals first
    | (rw [decide_eq_false (p := a = b) (fun q => by subst q; simp at *)]; (refine con_end ?_ rfl; intro u; clear u; refine ⟨rfl, rfl, EntGoal.mk ?_ ?_⟩ <;> (repeat' (first | exact trivial | (with_reducible rfl) | apply And.intro | rfl))); done)
    | (have e : a = b ↔ a.inner = b.inner := by
         simp only [Bool.and_true, Bool.and_eq_true, beq_iff_eq] at *
         rw [wr_eq]; simp only [*, and_self, true_and]
       rw [decide_eq_decide.2 e]; (refine con_end ?_ rfl; intro u; clear u; refine ⟨rfl, rfl, EntGoal.mk ?_ ?_⟩ <;> (repeat' (first | exact trivial | (with_reducible rfl) | apply And.intro | rfl))); done)
    | skip
theorem own_con {a : Wr} (hl : a.inner.length ≤ 100000) : CallCon Try.prog 23 [wrT a 0] [.row (ints .u8 a.inner) 1 5 false] (.t (wrT a 0)) [.row (ints .u8 a.inner) 1 5 true] := by
  have hq := I2.clone_all hl
  refine con_of_call2 rfl ?_
  refine call_inline Try.func23 rfl rfl ?_
  intro _
  repeat' (refine is_call ?_; refine call_auto (hq) (lets_rfl rfl) (by exact ⟨⟨_, rfl, rfl, rfl⟩, trivial⟩) rfl ?_; intro u; clear u)
  all_goals (refine con_end ?_ rfl; intro u; clear u; refine ⟨rfl, rfl, EntGoal.mk ?_ ?_⟩ <;> (repeat' (first | exact trivial | (with_reducible rfl) | apply And.intro | rfl)))
