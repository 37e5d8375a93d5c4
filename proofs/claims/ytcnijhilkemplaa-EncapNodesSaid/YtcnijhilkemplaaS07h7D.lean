/- Contracts of functions of the program, or a row of the seat, proved out of them. No condition beyond those that stand in each statement. -/
import Derived.Test.YtcnijhilkemplaaS07h7C
import Derived.Test.YtcnijhilkemplaaS07h6F
import Derived.Test.YtcnijhilkemplaaS07h2M
import Derived.Test.YtcnijhilkemplaaS07h2I
import Derived.Test.YtcnijhilkemplaaS07h2K
namespace Go.Proofs.S07.E7
open Go Go.SE
open Go.Proofs.S07.O6 (Opt optT okOpt putS putE takeO takeE zeroO)
open Go.Proofs.S07.I2 (Hd hdT okHd putL parseE parseS zeroHd)
set_option maxRecDepth 100000
set_option maxHeartbeats 4000000
attribute [local irreducible] specI okOpt putL parseE parseS takeE takeO putS

/-- What is wrapped. -/
structure Wr where
  frm : Nd
  to : Nd
  opt : Opt
  inner : List Int
structure Wr.Wf (w : Wr) : Prop where
  frm : w.frm.Wf
  to : w.to.Wf
  opt : w.opt.Wf
  inner : ∀ x ∈ w.inner, 0 ≤ x ∧ x ≤ 255
def wrS (w : Wr) (h : Nat) : List S := [.v (.int .u8 w.frm.kind), .v (.int .i64 w.frm.id), .v (.int .u8 w.to.kind), .v (.int .i64 w.to.id), .v (.int .u8 w.opt.kind), .v (.int .u8 w.opt.bucket), .v (.int .i64 w.opt.cur), .v (.int .i64 w.opt.prev), .v (.int .i64 w.opt.gen), .v (.int .i64 w.opt.tick), .sl h 0 w.inner.length]
def wrT (w : Wr) (h : Nat) : T := .agg (wrS w h)
def zeroWr : Wr := ⟨zeroNd, zeroNd, zeroO, []⟩
def okWr (w : Wr) : Prop := okNd w.frm ∧ okNd w.to ∧ okOpt w.opt = true
instance (w : Wr) : Decidable (okWr w) := by unfold okWr; infer_instance
def putHd (w : Wr) : Hd := ⟨0, 0, 0, 64, 4, adr w.frm, adr w.to, putS w.opt, w.inner⟩
def wrB (w : Wr) : List Int := if okWr w then putL (putHd w) else []
def wrD (w : Wr) : Int := if okWr w then 0 else 13

theorem adr_bd (n : Nd) : 0 ≤ adr n ∧ adr n ≤ 4294967295 := by
  unfold adr
  split
  · rename_i h; unfold okNd at h; omega
  · omega
theorem putHd_wf {w : Wr} (h : w.Wf) (hl : w.inner.length ≤ 4000) (hk : okOpt w.opt = true) : (putHd w).Wf := by
  refine ⟨⟨(by decide : (0 : Int) ≤ 0 ∧ (0 : Int) ≤ 255), (by decide : (0 : Int) ≤ 0 ∧ (0 : Int) ≤ 65535), (by decide : (0 : Int) ≤ 0 ∧ (0 : Int) ≤ 65535), (by decide : (0 : Int) ≤ 64 ∧ (64 : Int) ≤ 255), (by decide : (0 : Int) ≤ 4 ∧ (4 : Int) ≤ 255), adr_bd _, adr_bd _, O6.put_bytes h.opt, h.inner⟩, ?_, hl⟩
  show (putS w.opt).length ≤ 4000
  rw [(O6.take_put h.opt hk).2.2]; omega
theorem putHd_ok {w : Wr} (h : w.Wf) (hk : okOpt w.opt = true) : okHd (putHd w) := by
  have e : (putS w.opt).length = 16 := (O6.take_put h.opt hk).2.2
  refine ⟨.inl rfl, ?_, ?_⟩
  · show (putS w.opt).length ≤ 40; omega
  · show (putS w.opt).length % 4 = 0; omega
theorem wrB_len {w : Wr} (h : w.Wf) (hk : okWr w) : (wrB w).length = 36 + w.inner.length := by
  have e : (putS w.opt).length = 16 := (O6.take_put h.opt hk.2.2).2.2
  unfold wrB
  rw [if_pos hk, I2.put_len, if_pos (putHd_ok h hk.2.2)]
  show 20 + (putS w.opt).length + w.inner.length = _
  omega
theorem wrB_no {w : Wr} (hk : ¬ okWr w) : wrB w = [] := if_neg hk

/-- What ip.Put tells of such a head. -/
theorem ipput {w : Wr} (h : w.Wf) (hl : w.inner.length ≤ 4000) (hk : okWr w) : CallCon Try.prog 30 [.agg [.v (.int .u8 0), .v (.int .u16 0), .v (.int .u16 0), .v (.int .u8 64), .v (.int .u8 4), .v (.int .u32 (adr w.frm)), .v (.int .u32 (adr w.to)), .sl 0 0 16, .sl 1 0 w.inner.length]]
    [.row (ints .u8 (putS w.opt)) 1 5 false, .row (ints .u8 w.inner) 1 5 false] (.tup [.one (.sl 0 0 (wrB w).length), .one (.b true)]) [.row (ints .u8 (wrB w)) 1 5 true] := by
  have := I2.put_con (putHd_wf h hl hk.2.2)
  rw [decide_eq_true (putHd_ok h hk.2.2), ← show wrB w = putL (putHd w) from if_pos hk] at this
  have e : (putS w.opt).length = 16 := (O6.take_put h.opt hk.2.2).2.2
  simpa only [hdT, putHd, e] using this
theorem refipput {w : Wr} (h : w.Wf) (hl : w.inner.length ≤ 4000) (hk : okWr w) : CallCon Try.prog 32 [.agg [.v (.int .u8 0), .v (.int .u16 0), .v (.int .u16 0), .v (.int .u8 64), .v (.int .u8 4), .v (.int .u32 (adr w.frm)), .v (.int .u32 (adr w.to)), .sl 0 0 16, .sl 1 0 w.inner.length]]
    [.row (ints .u8 (putS w.opt)) 1 5 false, .row (ints .u8 w.inner) 1 5 false] (.tup [.one (.sl 0 0 (wrB w).length), .one (.b true)]) [.row (ints .u8 (wrB w)) 1 5 true] := by
  have := I2.refput_con (putHd_wf h hl hk.2.2)
  rw [decide_eq_true (putHd_ok h hk.2.2), ← show wrB w = putL (putHd w) from if_pos hk] at this
  have e : (putS w.opt).length = 16 := (O6.take_put h.opt hk.2.2).2.2
  simpa only [hdT, putHd, e] using this
theorem refput_yes {o : Opt} (h : o.Wf) (hok : okOpt o = true) : CallCon Try.prog 31 [optT o] [] (.tup [.one (.sl 0 0 16), .one (.v (.int .i64 0))]) [.row (ints .u8 (putS o)) 1 5 true] := by
  have := O6.refput_con h
  rwa [(O6.take_put h hok).2.2, O6.putE_zero.2 hok] at this
theorem refput_no {o : Opt} (h : o.Wf) (hok : okOpt o = false) : CallCon Try.prog 31 [optT o] [] (.tup [.one (.sl 0 0 0), .one (.v (.int .i64 2))]) [.row (ints .u8 []) 1 5 true] := by
  have := O6.refput_con h
  rwa [show putS o = [] by unfold putS; simp [hok], show putE o = 2 by unfold putE; simp [hok]] at this

theorem put_con {w : Wr} (h : w.Wf) (hl : w.inner.length ≤ 4000) : CallCon Try.prog 13 [wrT w 0] [.row (ints .u8 w.inner) 1 5 false] (.tup [.one (.sl 0 0 (wrB w).length), .one (.v (.int .u8 (wrD w)))]) [.row (ints .u8 (wrB w)) 1 5 true] := by
  have ha := addr_con w.frm
  have hb := addr_con w.to
  by_cases h3 : okOpt w.opt = true
  · have hp := O6.put_yes h.opt h3
    by_cases h1 : okNd w.frm
    · by_cases h2 : okNd w.to
      · have hk : okWr w := ⟨h1, h2, h3⟩
        have hi := ipput h hl hk
        rw [decide_eq_true h1] at ha
        rw [decide_eq_true h2] at hb
        rw [show wrD w = 0 from if_pos hk]
        refine con_of_call2 rfl ?_
        refine call_inline Try.func13 rfl rfl ?_
        intro _
        repeat' (first | (refine is_split ?_; (first | refine sp_yes (by rfl) ?_ | refine sp_no (by rfl) ?_) <;> (intro u; clear u)) | (refine is_scope ?_; refine scope_step ?_; intro u; clear u) | (refine is_call ?_; (first | refine call_auto (hp) (lets_rfl rfl) (by exact trivial) rfl ?_ | refine call_auto (ha) (lets_rfl rfl) (by exact trivial) rfl ?_ | refine call_auto (hb) (lets_rfl rfl) (by exact trivial) rfl ?_ | refine call_le (by (repeat' (first | exact trivial | apply And.intro | exact rfl)); (first | done | fail)) (hi) (by exact ⟨⟨_, rfl, rfl, rfl⟩, ⟨_, rfl, rfl, rfl⟩, trivial⟩) rfl ?_); intro u; clear u))
        all_goals (refine con_end ?_ rfl; intro u; clear u; refine ⟨rfl, rfl, EntGoal.mk ?_ ?_⟩ <;> (repeat' (first | exact trivial | (with_reducible rfl) | apply And.intro | rfl)))
      · have hk : ¬ okWr w := fun q => h2 q.2.1
        rw [decide_eq_true h1] at ha
        rw [decide_eq_false h2] at hb
        rw [show wrD w = 13 from if_neg hk, wrB_no hk]
        refine con_of_call2 rfl ?_
        refine call_inline Try.func13 rfl rfl ?_
        intro _
        repeat' (first | (refine is_split ?_; (first | refine sp_yes (by rfl) ?_ | refine sp_no (by rfl) ?_) <;> (intro u; clear u)) | (refine is_scope ?_; refine scope_step ?_; intro u; clear u) | (refine is_call ?_; (first | refine call_auto (hp) (lets_rfl rfl) (by exact trivial) rfl ?_ | refine call_auto (ha) (lets_rfl rfl) (by exact trivial) rfl ?_ | refine call_auto (hb) (lets_rfl rfl) (by exact trivial) rfl ?_); intro u; clear u))
        all_goals (refine con_end ?_ rfl; intro u; clear u; refine ⟨rfl, rfl, EntGoal.mk ?_ ?_⟩ <;> (repeat' (first | exact trivial | (with_reducible rfl) | apply And.intro | rfl)))
    · have hk : ¬ okWr w := fun q => h1 q.1
      rw [decide_eq_false h1] at ha
      rw [show wrD w = 13 from if_neg hk, wrB_no hk]
      refine con_of_call2 rfl ?_
      refine call_inline Try.func13 rfl rfl ?_
      intro _
      repeat' (first | (refine is_split ?_; (first | refine sp_yes (by rfl) ?_ | refine sp_no (by rfl) ?_) <;> (intro u; clear u)) | (refine is_scope ?_; refine scope_step ?_; intro u; clear u) | (refine is_call ?_; (first | refine call_auto (hp) (lets_rfl rfl) (by exact trivial) rfl ?_ | refine call_auto (ha) (lets_rfl rfl) (by exact trivial) rfl ?_ | refine call_auto (hb) (lets_rfl rfl) (by exact trivial) rfl ?_); intro u; clear u))
      all_goals (refine con_end ?_ rfl; intro u; clear u; refine ⟨rfl, rfl, EntGoal.mk ?_ ?_⟩ <;> (repeat' (first | exact trivial | (with_reducible rfl) | apply And.intro | rfl)))
  · have hp := O6.put_no h.opt (by simpa using h3)
    have hk : ¬ okWr w := fun q => h3 q.2.2
    rw [show wrD w = 13 from if_neg hk, wrB_no hk]
    refine con_of_call2 rfl ?_
    refine call_inline Try.func13 rfl rfl ?_
    intro _
    repeat' (first | (refine is_split ?_; refine sp_yes (by rfl) ?_ <;> (intro u; clear u)) | (refine is_scope ?_; refine scope_step ?_; intro u; clear u) | (refine is_call ?_; (first | refine call_auto (hp) (lets_rfl rfl) (by exact trivial) rfl ?_ | refine call_auto (ha) (lets_rfl rfl) (by exact trivial) rfl ?_ | refine call_auto (hb) (lets_rfl rfl) (by exact trivial) rfl ?_); intro u; clear u))
    all_goals (refine con_end ?_ rfl; intro u; clear u; refine ⟨rfl, rfl, EntGoal.mk ?_ ?_⟩ <;> (repeat' (first | exact trivial | (with_reducible rfl) | apply And.intro | rfl)))
theorem refput_con {w : Wr} (h : w.Wf) (hl : w.inner.length ≤ 4000) : CallCon Try.prog 14 [wrT w 0] [.row (ints .u8 w.inner) 1 5 false] (.tup [.one (.sl 0 0 (wrB w).length), .one (.v (.int .u8 (wrD w)))]) [.row (ints .u8 (wrB w)) 1 5 true] := by
  have ha := refaddr_con h.frm
  have hb := refaddr_con h.to
  by_cases h3 : okOpt w.opt = true
  · have hp := refput_yes h.opt h3
    by_cases h1 : okNd w.frm
    · by_cases h2 : okNd w.to
      · have hk : okWr w := ⟨h1, h2, h3⟩
        have hi := refipput h hl hk
        rw [decide_eq_true h1] at ha
        rw [decide_eq_true h2] at hb
        rw [show wrD w = 0 from if_pos hk]
        refine con_of_call2 rfl ?_
        refine call_inline Try.func14 rfl rfl ?_
        intro _
        repeat' (first | (refine is_split ?_; refine sp_no (by rfl) ?_ <;> (intro u; clear u)) | (refine is_call ?_; (first | refine call_auto (hp) (lets_rfl rfl) (by exact trivial) rfl ?_ | refine call_auto (ha) (lets_rfl rfl) (by exact trivial) rfl ?_ | refine call_auto (hb) (lets_rfl rfl) (by exact trivial) rfl ?_ | refine call_le (by (repeat' (first | exact trivial | apply And.intro | exact rfl)); (first | done | fail)) (hi) (by exact ⟨⟨_, rfl, rfl, rfl⟩, ⟨_, rfl, rfl, rfl⟩, trivial⟩) rfl ?_); intro u; clear u))
        all_goals (refine con_end ?_ rfl; intro u; clear u; refine ⟨rfl, rfl, EntGoal.mk ?_ ?_⟩ <;> (repeat' (first | exact trivial | (with_reducible rfl) | apply And.intro | rfl)))
      · have hk : ¬ okWr w := fun q => h2 q.2.1
        rw [decide_eq_true h1] at ha
        rw [decide_eq_false h2] at hb
        rw [show wrD w = 13 from if_neg hk, wrB_no hk]
        refine con_of_call2 rfl ?_
        refine call_inline Try.func14 rfl rfl ?_
        intro _
        repeat' (first | (refine is_split ?_; (first | refine sp_yes (by rfl) ?_ | refine sp_no (by rfl) ?_) <;> (intro u; clear u)) | (refine is_call ?_; (first | refine call_auto (hp) (lets_rfl rfl) (by exact trivial) rfl ?_ | refine call_auto (ha) (lets_rfl rfl) (by exact trivial) rfl ?_ | refine call_auto (hb) (lets_rfl rfl) (by exact trivial) rfl ?_); intro u; clear u))
        all_goals (refine con_end ?_ rfl; intro u; clear u; refine ⟨rfl, rfl, EntGoal.mk ?_ ?_⟩ <;> (repeat' (first | exact trivial | (with_reducible rfl) | apply And.intro | rfl)))
    · have hk : ¬ okWr w := fun q => h1 q.1
      rw [decide_eq_false h1] at ha
      rw [show wrD w = 13 from if_neg hk, wrB_no hk]
      refine con_of_call2 rfl ?_
      refine call_inline Try.func14 rfl rfl ?_
      intro _
      repeat' (first | (refine is_split ?_; refine sp_yes (by rfl) ?_ <;> (intro u; clear u)) | (refine is_call ?_; (first | refine call_auto (hp) (lets_rfl rfl) (by exact trivial) rfl ?_ | refine call_auto (ha) (lets_rfl rfl) (by exact trivial) rfl ?_ | refine call_auto (hb) (lets_rfl rfl) (by exact trivial) rfl ?_); intro u; clear u))
      all_goals (refine con_end ?_ rfl; intro u; clear u; refine ⟨rfl, rfl, EntGoal.mk ?_ ?_⟩ <;> (repeat' (first | exact trivial | (with_reducible rfl) | apply And.intro | rfl)))
  · have hp := refput_no h.opt (by simpa using h3)
    have hk : ¬ okWr w := fun q => h3 q.2.2
    rw [show wrD w = 13 from if_neg hk, wrB_no hk]
    refine con_of_call2 rfl ?_
    refine call_inline Try.func14 rfl rfl ?_
    intro _
    repeat' (first | (refine is_split ?_; (first | refine sp_yes (by rfl) ?_ | refine sp_ndec (fun g => ?_) (fun g => ?_)) <;> (intro u; clear u)) | (refine is_call ?_; (first | refine call_auto (hp) (lets_rfl rfl) (by exact trivial) rfl ?_ | refine call_auto (ha) (lets_rfl rfl) (by exact trivial) rfl ?_ | refine call_auto (hb) (lets_rfl rfl) (by exact trivial) rfl ?_); intro u; clear u))
    all_goals (refine con_end ?_ rfl; intro u; clear u; refine ⟨rfl, rfl, EntGoal.mk ?_ ?_⟩ <;> (repeat' (first | exact trivial | (with_reducible rfl) | apply And.intro | rfl)))
