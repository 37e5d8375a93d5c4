/- Contracts of functions of the program, or a row of the seat, proved out of them. No condition beyond those that stand in each statement. -/
import Derived.Test.YtlefpinmgabmfaaGreatS14p7a
import Derived.Test.YtlefpinmgabmfaaGreatS14p6
import Derived.Test.YtlefpinmgabmfaaGreatS14p2b
namespace Go.Proofs.S14.E7
open Go Go.SE
open Go.Proofs.S14.O6 (Opt optT okOpt putS putE takeO takeE zeroO)
open Go.Proofs.S14.I2 (Hd hdT okHd putL parseE parseS zeroHd)
set_option maxRecDepth 100000
set_option maxHeartbeats 4000000
attribute [local irreducible] specI okOpt putL parseE parseS takeE takeO putS

/-- What is wrapped. -/
structure Wr where
  frm : Nd
  to : Nd
  opt : Opt
  inner : List Int
structure Wr.Wf (w : Wr) : Prop where
  frm : w.frm.Wf
  to : w.to.Wf
  opt : w.opt.Wf
  inner : ∀ x ∈ w.inner, 0 ≤ x ∧ x ≤ 255
def wrS (w : Wr) (h : Nat) : List S := [.v (.int .u8 w.frm.kind), .v (.int .i64 w.frm.id), .v (.int .u8 w.to.kind), .v (.int .i64 w.to.id), .v (.int .u8 w.opt.kind), .v (.int .u8 w.opt.bucket), .v (.int .i64 w.opt.cur), .v (.int .i64 w.opt.prev), .v (.int .i64 w.opt.gen), .v (.int .i64 w.opt.tick), .sl h 0 w.inner.length]
def wrT (w : Wr) (h : Nat) : T := .agg (wrS w h)
def zeroWr : Wr := ⟨zeroNd, zeroNd, zeroO, []⟩
def okWr (w : Wr) : Prop := okNd w.frm ∧ okNd w.to ∧ okOpt w.opt = true
instance (w : Wr) : Decidable (okWr w) := by unfold okWr; infer_instance
def putHd (w : Wr) : Hd := ⟨0, 0, 0, 64, 4, adr w.frm, adr w.to, putS w.opt, w.inner⟩
def wrB (w : Wr) : List Int := if okWr w then putL (putHd w) else []
def wrD (w : Wr) : Int := if okWr w then 0 else 13

theorem adr_bd (n : Nd) : 0 ≤ adr n ∧ adr n ≤ 4294967295 := by
  unfold adr
  split
  · rename_i h; unfold okNd at h; omega
  · omega
theorem putHd_wf {w : Wr} (h : w.Wf) (hl : w.inner.length ≤ 4000) (hk : okOpt w.opt = true) : (putHd w).Wf := by
  refine ⟨⟨(by decide : (0 : Int) ≤ 0 ∧ (0 : Int) ≤ 255), (by decide : (0 : Int) ≤ 0 ∧ (0 : Int) ≤ 65535), (by decide : (0 : Int) ≤ 0 ∧ (0 : Int) ≤ 65535), (by decide : (0 : Int) ≤ 64 ∧ (64 : Int) ≤ 255), (by decide : (0 : Int) ≤ 4 ∧ (4 : Int) ≤ 255), adr_bd _, adr_bd _, O6.put_bytes h.opt, h.inner⟩, ?_, hl⟩
  show (putS w.opt).length ≤ 4000
  rw [(O6.take_put h.opt hk).2.2]; omega
theorem putHd_ok {w : Wr} (h : w.Wf) (hk : okOpt w.opt = true) : okHd (putHd w) := by
  have e : (putS w.opt).length = 16 := (O6.take_put h.opt hk).2.2
  refine ⟨.inl rfl, ?_, ?_⟩
  · show (putS w.opt).length ≤ 40; omega
  · show (putS w.opt).length % 4 = 0; omega
theorem wrB_len {w : Wr} (h : w.Wf) (hk : okWr w) : (wrB w).length = 36 + w.inner.length := by
  have e : (putS w.opt).length = 16 := (O6.take_put h.opt hk.2.2).2.2
  unfold wrB
  rw [if_pos hk, I2.put_len, if_pos (putHd_ok h hk.2.2)]
  show 20 + (putS w.opt).length + w.inner.length = _
  omega
theorem wrB_no {w : Wr} (hk : ¬ okWr w) : wrB w = [] := if_neg hk

/-- What ip.Put tells of such a head. -/
theorem ipput {w : Wr} (h : w.Wf) (hl : w.inner.length ≤ 4000) (hk : okWr w) : CallCon Tryz.prog 127 [.agg [.v (.int .u8 0), .v (.int .u16 0), .v (.int .u16 0), .v (.int .u8 64), .v (.int .u8 4), .v (.int .u32 (adr w.frm)), .v (.int .u32 (adr w.to)), .sl 0 0 16, .sl 1 0 w.inner.length]]
    [.row (ints .u8 (putS w.opt)) 1 5 false, .row (ints .u8 w.inner) 1 5 false] (.tup [.one (.sl 0 0 (wrB w).length), .one (.b true)]) [.row (ints .u8 (wrB w)) 1 5 true] := by
  have := I2.put_con (putHd_wf h hl hk.2.2)
  rw [decide_eq_true (putHd_ok h hk.2.2), ← show wrB w = putL (putHd w) from if_pos hk] at this
  have e : (putS w.opt).length = 16 := (O6.take_put h.opt hk.2.2).2.2
  simpa only [hdT, putHd, e] using this
theorem refipput {w : Wr} (h : w.Wf) (hl : w.inner.length ≤ 4000) (hk : okWr w) : CallCon Tryz.prog 57 [.agg [.v (.int .u8 0), .v (.int .u16 0), .v (.int .u16 0), .v (.int .u8 64), .v (.int .u8 4), .v (.int .u32 (adr w.frm)), .v (.int .u32 (adr w.to)), .sl 0 0 16, .sl 1 0 w.inner.length]]
    [.row (ints .u8 (putS w.opt)) 1 5 false, .row (ints .u8 w.inner) 1 5 false] (.tup [.one (.sl 0 0 (wrB w).length), .one (.b true)]) [.row (ints .u8 (wrB w)) 1 5 true] := by
  have := I2.refput_con (putHd_wf h hl hk.2.2)
  rw [decide_eq_true (putHd_ok h hk.2.2), ← show wrB w = putL (putHd w) from if_pos hk] at this
  have e : (putS w.opt).length = 16 := (O6.take_put h.opt hk.2.2).2.2
  simpa only [hdT, putHd, e] using this
theorem refput_yes {o : Opt} (h : o.Wf) (hok : okOpt o = true) : CallCon Tryz.prog 72 [optT o] [] (.tup [.one (.sl 0 0 16), .one (.v (.int .i64 0))]) [.row (ints .u8 (putS o)) 1 5 true] := by
  have := O6.refput_con h
  rwa [(O6.take_put h hok).2.2, O6.putE_zero.2 hok] at this
theorem refput_no {o : Opt} (h : o.Wf) (hok : okOpt o = false) : CallCon Tryz.prog 72 [optT o] [] (.tup [.one (.sl 0 0 0), .one (.v (.int .i64 2))]) [.row (ints .u8 []) 1 5 true] := by
  have := O6.refput_con h
  rwa [show putS o = [] by unfold putS; simp [hok], show putE o = 2 by unfold putE; simp [hok]] at this

theorem put_con {w : Wr} (h : w.Wf) (hl : w.inner.length ≤ 4000) : CallCon Tryz.prog 62 [wrT w 0] [.row (ints .u8 w.inner) 1 5 false] (.tup [.one (.sl 0 0 (wrB w).length), .one (.v (.int .u8 (wrD w)))]) [.row (ints .u8 (wrB w)) 1 5 true] := by
  have ha := addr_con w.frm
  have hb := addr_con w.to
  by_cases h3 : okOpt w.opt = true
  · have hp := O6.put_yes h.opt h3
    by_cases h1 : okNd w.frm
    · by_cases h2 : okNd w.to
      · have hk : okWr w := ⟨h1, h2, h3⟩
        have hi := ipput h hl hk
        rw [decide_eq_true h1] at ha
        rw [decide_eq_true h2] at hb
        rw [show wrD w = 0 from if_pos hk]
        refine con_of_call2 rfl ?_
        refine call_inline Tryz.func62 rfl rfl ?_
        intro _
        repeat' (first | (refine is_split ?_; (first | refine sp_yes (by rfl) ?_ | refine sp_no (by rfl) ?_) <;> (intro u; clear u)) | (refine is_scope ?_; refine scope_step ?_; intro u; clear u) | (refine is_call ?_; (first | refine call_auto (hp) (lets_rfl rfl) (by exact trivial) rfl ?_ | refine call_auto (ha) (lets_rfl rfl) (by exact trivial) rfl ?_ | refine call_auto (hb) (lets_rfl rfl) (by exact trivial) rfl ?_ | refine call_le (by (repeat' (first | exact trivial | apply And.intro | exact rfl)); (first | done | fail)) (hi) (by exact ⟨⟨_, rfl, rfl, rfl⟩, ⟨_, rfl, rfl, rfl⟩, trivial⟩) rfl ?_); intro u; clear u))
        all_goals (refine con_end ?_ rfl; intro u; clear u; refine ⟨rfl, rfl, EntGoal.mk ?_ ?_⟩ <;> (repeat' (first | exact trivial | (with_reducible rfl) | apply And.intro | rfl)))
      · have hk : ¬ okWr w := fun q => h2 q.2.1
        rw [decide_eq_true h1] at ha
        rw [decide_eq_false h2] at hb
        rw [show wrD w = 13 from if_neg hk, wrB_no hk]
        refine con_of_call2 rfl ?_
        refine call_inline Tryz.func62 rfl rfl ?_
        intro _
        repeat' (first | (refine is_split ?_; (first | refine sp_yes (by rfl) ?_ | refine sp_no (by rfl) ?_) <;> (intro u; clear u)) | (refine is_scope ?_; refine scope_step ?_; intro u; clear u) | (refine is_call ?_; (first | refine call_auto (hp) (lets_rfl rfl) (by exact trivial) rfl ?_ | refine call_auto (ha) (lets_rfl rfl) (by exact trivial) rfl ?_ | refine call_auto (hb) (lets_rfl rfl) (by exact trivial) rfl ?_); intro u; clear u))
        all_goals (refine con_end ?_ rfl; intro u; clear u; refine ⟨rfl, rfl, EntGoal.mk ?_ ?_⟩ <;> (repeat' (first | exact trivial | (with_reducible rfl) | apply And.intro | rfl)))
    · have hk : ¬ okWr w := fun q => h1 q.1
      rw [decide_eq_false h1] at ha
      rw [show wrD w = 13 from if_neg hk, wrB_no hk]
      refine con_of_call2 rfl ?_
      refine call_inline Tryz.func62 rfl rfl ?_
      intro _
      repeat' (first | (refine is_split ?_; (first | refine sp_yes (by rfl) ?_ | refine sp_no (by rfl) ?_) <;> (intro u; clear u)) | (refine is_scope ?_; refine scope_step ?_; intro u; clear u) | (refine is_call ?_; (first | refine call_auto (hp) (lets_rfl rfl) (by exact trivial) rfl ?_ | refine call_auto (ha) (lets_rfl rfl) (by exact trivial) rfl ?_ | refine call_auto (hb) (lets_rfl rfl) (by exact trivial) rfl ?_); intro u; clear u))
      all_goals (refine con_end ?_ rfl; intro u; clear u; refine ⟨rfl, rfl, EntGoal.mk ?_ ?_⟩ <;> (repeat' (first | exact trivial | (with_reducible rfl) | apply And.intro | rfl)))
  · have hp := O6.put_no h.opt (by simpa using h3)
    have hk : ¬ okWr w := fun q => h3 q.2.2
    rw [show wrD w = 13 from if_neg hk, wrB_no hk]
    refine con_of_call2 rfl ?_
    refine call_inline Tryz.func62 rfl rfl ?_
    intro _
    repeat' (first | (refine is_split ?_; refine sp_yes (by rfl) ?_ <;> (intro u; clear u)) | (refine is_scope ?_; refine scope_step ?_; intro u; clear u) | (refine is_call ?_; (first | refine call_auto (hp) (lets_rfl rfl) (by exact trivial) rfl ?_ | refine call_auto (ha) (lets_rfl rfl) (by exact trivial) rfl ?_ | refine call_auto (hb) (lets_rfl rfl) (by exact trivial) rfl ?_); intro u; clear u))
    all_goals (refine con_end ?_ rfl; intro u; clear u; refine ⟨rfl, rfl, EntGoal.mk ?_ ?_⟩ <;> (repeat' (first | exact trivial | (with_reducible rfl) | apply And.intro | rfl)))
theorem refput_con {w : Wr} (h : w.Wf) (hl : w.inner.length ≤ 4000) : CallCon Tryz.prog 37 [wrT w 0] [.row (ints .u8 w.inner) 1 5 false] (.tup [.one (.sl 0 0 (wrB w).length), .one (.v (.int .u8 (wrD w)))]) [.row (ints .u8 (wrB w)) 1 5 true] := by
  have ha := refaddr_con h.frm
  have hb := refaddr_con h.to
  by_cases h3 : okOpt w.opt = true
  · have hp := refput_yes h.opt h3
    by_cases h1 : okNd w.frm
    · by_cases h2 : okNd w.to
      · have hk : okWr w := ⟨h1, h2, h3⟩
        have hi := refipput h hl hk
        rw [decide_eq_true h1] at ha
        rw [decide_eq_true h2] at hb
        rw [show wrD w = 0 from if_pos hk]
        refine con_of_call2 rfl ?_
        refine call_inline Tryz.func37 rfl rfl ?_
        intro _
        repeat' (first | (refine is_split ?_; refine sp_no (by rfl) ?_ <;> (intro u; clear u)) | (refine is_call ?_; (first | refine call_auto (hp) (lets_rfl rfl) (by exact trivial) rfl ?_ | refine call_auto (ha) (lets_rfl rfl) (by exact trivial) rfl ?_ | refine call_auto (hb) (lets_rfl rfl) (by exact trivial) rfl ?_ | refine call_le (by (repeat' (first | exact trivial | apply And.intro | exact rfl)); (first | done | fail)) (hi) (by exact ⟨⟨_, rfl, rfl, rfl⟩, ⟨_, rfl, rfl, rfl⟩, trivial⟩) rfl ?_); intro u; clear u))
        all_goals (refine con_end ?_ rfl; intro u; clear u; refine ⟨rfl, rfl, EntGoal.mk ?_ ?_⟩ <;> (repeat' (first | exact trivial | (with_reducible rfl) | apply And.intro | rfl)))
      · have hk : ¬ okWr w := fun q => h2 q.2.1
        rw [decide_eq_true h1] at ha
        rw [decide_eq_false h2] at hb
        rw [show wrD w = 13 from if_neg hk, wrB_no hk]
        refine con_of_call2 rfl ?_
        refine call_inline Tryz.func37 rfl rfl ?_
        intro _
        repeat' (first | (refine is_split ?_; (first | refine sp_yes (by rfl) ?_ | refine sp_no (by rfl) ?_) <;> (intro u; clear u)) | (refine is_call ?_; (first | refine call_auto (hp) (lets_rfl rfl) (by exact trivial) rfl ?_ | refine call_auto (ha) (lets_rfl rfl) (by exact trivial) rfl ?_ | refine call_auto (hb) (lets_rfl rfl) (by exact trivial) rfl ?_); intro u; clear u))
        all_goals (refine con_end ?_ rfl; intro u; clear u; refine ⟨rfl, rfl, EntGoal.mk ?_ ?_⟩ <;> (repeat' (first | exact trivial | (with_reducible rfl) | apply And.intro | rfl)))
    · have hk : ¬ okWr w := fun q => h1 q.1
      rw [decide_eq_false h1] at ha
      rw [show wrD w = 13 from if_neg hk, wrB_no hk]
      refine con_of_call2 rfl ?_
      refine call_inline Tryz.func37 rfl rfl ?_
      intro _
      repeat' (first | (refine is_split ?_; refine sp_yes (by rfl) ?_ <;> (intro u; clear u)) | (refine is_call ?_; (first | refine call_auto (hp) (lets_rfl rfl) (by exact trivial) rfl ?_ | refine call_auto (ha) (lets_rfl rfl) (by exact trivial) rfl ?_ | refine call_auto (hb) (lets_rfl rfl) (by exact trivial) rfl ?_); intro u; clear u))
      all_goals (refine con_end ?_ rfl; intro u; clear u; refine ⟨rfl, rfl, EntGoal.mk ?_ ?_⟩ <;> (repeat' (first | exact trivial | (with_reducible rfl) | apply And.intro | rfl)))
  · have hp := refput_no h.opt (by simpa using h3)
    have hk : ¬ okWr w := fun q => h3 q.2.2
    rw [show wrD w = 13 from if_neg hk, wrB_no hk]
    refine con_of_call2 rfl ?_
    refine call_inline Tryz.func37 rfl rfl ?_
    intro _
    repeat' (first | (refine is_split ?_; (first | refine sp_yes (by rfl) ?_ | refine sp_ndec (fun g => ?_) (fun g => ?_)) <;> (intro u; clear u)) | (refine is_call ?_; (first | refine call_auto (hp) (lets_rfl rfl) (by exact trivial) rfl ?_ | refine call_auto (ha) (lets_rfl rfl) (by exact trivial) rfl ?_ | refine call_auto (hb) (lets_rfl rfl) (by exact trivial) rfl ?_); intro u; clear u))
    all_goals (refine con_end ?_ rfl; intro u; clear u; refine ⟨rfl, rfl, EntGoal.mk ?_ ?_⟩ <;> (repeat' (first | exact trivial | (with_reducible rfl) | apply And.intro | rfl)))
end Go.Proofs.S14.E7

namespace Go.Proofs.S14.E7
open Go Go.SE
open Go.Proofs.S14.O6 (Opt optT okOpt putS putE takeO takeE zeroO)
open Go.Proofs.S14.I2 (Hd hdT okHd putL parseE parseS zeroHd)
set_option maxRecDepth 100000
set_option maxHeartbeats 4000000
attribute [local irreducible] specI okOpt putL parseE parseS takeE takeO putS


attribute [local irreducible] wrB
/-- What bytes could have been wrapped. -/
def cand (l : List Int) : Wr := ⟨ndOf (parseS l).src, ndOf (parseS l).dst, takeO (parseS l).opts, (parseS l).pay⟩
def okTake (l : List Int) : Prop := parseE l = 0 ∧ takeE (parseS l).opts = 0 ∧ okAd (parseS l).src ∧ okAd (parseS l).dst ∧ wrB (cand l) = l
instance (l : List Int) : Decidable (okTake l) := by unfold okTake; infer_instance
def takeW (l : List Int) : Wr := if okTake l then cand l else zeroWr
def takeD (l : List Int) : Int := if okTake l then 0 else 13

theorem ndOf_wf (a : Int) : (ndOf a).Wf := by
  unfold ndOf
  split
  · rename_i h; unfold okAd at h; constructor <;> (simp only; omega)
  · exact ⟨by decide, by decide⟩
theorem takeO_wf {l : List Int} (hb : ∀ x ∈ l, 0 ≤ x ∧ x ≤ 255) : (takeO l).Wf := by
  rcases O6.take_cases hb with ⟨_, _, _, h, _⟩ | ⟨_, e, _⟩ | ⟨_, e, _⟩
  · exact h
  · rw [e]; exact ⟨by decide, by decide, by decide, by decide⟩
  · rw [e]; exact ⟨by decide, by decide, by decide, by decide⟩
theorem cand_wf {l : List Int} (hb : ∀ x ∈ l, 0 ≤ x ∧ x ≤ 255) (hl : l.length ≤ 4000) : (cand l).Wf :=
  have h := I2.parse_wf hb hl
  ⟨ndOf_wf _, ndOf_wf _, takeO_wf h.opts, h.pay⟩
theorem parse_len {l : List Int} (hb : ∀ x ∈ l, 0 ≤ x ∧ x ≤ 255) (hl : l.length ≤ 4000) : (parseS l).pay.length ≤ 4000 ∧ (parseS l).opts.length ≤ 40 := by
  have h := I2.parse_wf hb hl
  refine ⟨h.plen, ?_⟩
  by_cases hE : parseE l = 0
  · exact (I2.parse_back hb hl hE).1.2.1
  · have : parseS l = zeroHd := by unfold parseS; rw [if_neg hE]
    rw [this]; decide
theorem cand_ok {l : List Int} (hb : ∀ x ∈ l, 0 ≤ x ∧ x ≤ 255) (hl : l.length ≤ 4000) (h2 : takeE (parseS l).opts = 0) (h3 : okAd (parseS l).src) (h4 : okAd (parseS l).dst) : okWr (cand l) := by
  have h := I2.parse_wf hb hl
  refine ⟨(adr_ndOf h3).1, (adr_ndOf h4).1, ?_⟩
  rcases O6.take_cases h.opts with ⟨_, e, _⟩ | ⟨e, _⟩ | ⟨e, _⟩
  · exact e
  · omega
  · omega

/-- What Put tells of it, where it may be. -/
theorem put_yes {w : Wr} (h : w.Wf) (hl : w.inner.length ≤ 4000) (hk : okWr w) : CallCon Tryz.prog 62 [wrT w 0] [.row (ints .u8 w.inner) 1 5 false] (.tup [.one (.sl 0 0 (wrB w).length), .one (.v (.int .u8 0))]) [.row (ints .u8 (wrB w)) 1 5 true] := by
  have := put_con h hl
  rwa [show wrD w = 0 from if_pos hk] at this
theorem refput_yes7 {w : Wr} (h : w.Wf) (hl : w.inner.length ≤ 4000) (hk : okWr w) : CallCon Tryz.prog 37 [wrT w 0] [.row (ints .u8 w.inner) 1 5 false] (.tup [.one (.sl 0 0 (wrB w).length), .one (.v (.int .u8 0))]) [.row (ints .u8 (wrB w)) 1 5 true] := by
  have := refput_con h hl
  rwa [show wrD w = 0 from if_pos hk] at this

theorem take_no {l : List Int} (hk : ¬ okTake l) : takeW l = zeroWr ∧ takeD l = 13 := ⟨if_neg hk, if_neg hk⟩
end Go.Proofs.S14.E7

namespace Go.Proofs.S14.E7
open Go Go.SE
open Go.Proofs.S14.O6 (Opt optT okOpt putS putE takeO takeE zeroO)
open Go.Proofs.S14.I2 (Hd hdT okHd putL parseE parseS zeroHd)
set_option maxRecDepth 100000
set_option maxHeartbeats 4000000
attribute [local irreducible] specI okOpt putL parseE parseS takeE takeO putS



instance : DecidableEq Opt := fun a b => decidable_of_iff (a.kind = b.kind ∧ a.bucket = b.bucket ∧ a.cur = b.cur ∧ a.prev = b.prev ∧ a.gen = b.gen ∧ a.tick = b.tick) (by
  cases a; cases b; simp)
instance : DecidableEq Wr := fun a b => decidable_of_iff (a.frm = b.frm ∧ a.to = b.to ∧ a.opt = b.opt ∧ a.inner = b.inner) (by
  cases a; cases b; simp)
theorem reftake_con {l : List Int} (hb : ∀ x ∈ l, 0 ≤ x ∧ x ≤ 255) (hl : l.length ≤ 4000) : CallCon Tryz.prog 13 [.one (.sl 0 0 l.length)] [.row (ints .u8 l) 1 5 false]
    (.tup [wrT (takeW l) 0, .one (.v (.int .u8 (takeD l)))]) [.row (ints .u8 (takeW l).inner) 1 5 true] := by
  have hp := I2.refparse_con hb hl
  have hw := I2.parse_wf hb hl
  obtain ⟨l1, l2⟩ := parse_len hb hl
  have ht := O6.reftake_con (l := (parseS l).opts) (by omega) hw.opts
  have hs := refnode_con hw.src
  have hd := refnode_con hw.dst
  by_cases h1 : parseE l = 0
  · by_cases h2 : takeE (parseS l).opts = 0
    · by_cases h3 : okAd (parseS l).src
      · by_cases h4 : okAd (parseS l).dst
        · have hc := refput_yes7 (cand_wf hb hl) l1 (cand_ok hb hl h2 h3 h4)
          have hB : Bytes (wrB (cand l)) := by
            have : wrB (cand l) = putL (putHd (cand l)) := by unfold wrB; rw [if_pos (cand_ok hb hl h2 h3 h4)]
            rw [this]
            exact I2.put_bytes (putHd_wf (cand_wf hb hl) l1 (cand_ok hb hl h2 h3 h4).2.2)
          have hB2 : Bytes l := hb
          rw [h1] at hp
          rw [h2] at ht
          rw [decide_eq_true h3] at hs
          rw [decide_eq_true h4] at hd
          by_cases h5 : wrB (cand l) = l
          · have hk : okTake l := ⟨h1, h2, h3, h4, h5⟩
            rw [show takeW l = cand l from if_pos hk, show takeD l = 0 from if_pos hk]
            refine con_of_call2 rfl ?_
            refine call_inline Tryz.func13 rfl rfl ?_
            intro _
            repeat' (first | (refine is_split ?_; (first | refine sp_no (by rfl) ?_ | refine sp_nstr (by assumption) (by assumption) (fun g => ?_) (fun g => ?_)) <;> (intro u; clear u)) | (refine is_asked ?_; refine asked _ (tostr_ask (take_ints _ _) rfl) ?_; intro u; clear u) | (refine is_call ?_; (first | refine call_auto (hp) (lets_rfl rfl) (by exact ⟨⟨_, rfl, rfl, rfl⟩, trivial⟩) rfl ?_ | refine call_auto (ht) (lets_rfl rfl) (by exact ⟨⟨_, rfl, rfl, rfl⟩, trivial⟩) rfl ?_ | refine call_auto (hs) (lets_rfl rfl) (by exact trivial) rfl ?_ | refine call_auto (hd) (lets_rfl rfl) (by exact trivial) rfl ?_ | refine call_auto (hc) (lets_rfl rfl) (by exact ⟨⟨_, rfl, rfl, rfl⟩, trivial⟩) rfl ?_); intro u; clear u))
            all_goals first
              | (exact absurd g h5)
              | (exact absurd h5 g)
              | (refine con_end ?_ rfl; intro u; clear u; refine ⟨rfl, rfl, EntGoal.mk ?_ ?_⟩ <;> (repeat' (first | exact trivial | (with_reducible rfl) | apply And.intro | rfl)))
          · have hk : ¬ okTake l := fun q => h5 q.2.2.2.2
            rw [(take_no hk).1, (take_no hk).2]
            refine con_of_call2 rfl ?_
            refine call_inline Tryz.func13 rfl rfl ?_
            intro _
            repeat' (first | (refine is_split ?_; (first | refine sp_no (by rfl) ?_ | refine sp_nstr (by assumption) (by assumption) (fun g => ?_) (fun g => ?_)) <;> (intro u; clear u)) | (refine is_asked ?_; refine asked _ (tostr_ask (take_ints _ _) rfl) ?_; intro u; clear u) | (refine is_call ?_; (first | refine call_auto (hp) (lets_rfl rfl) (by exact ⟨⟨_, rfl, rfl, rfl⟩, trivial⟩) rfl ?_ | refine call_auto (ht) (lets_rfl rfl) (by exact ⟨⟨_, rfl, rfl, rfl⟩, trivial⟩) rfl ?_ | refine call_auto (hs) (lets_rfl rfl) (by exact trivial) rfl ?_ | refine call_auto (hd) (lets_rfl rfl) (by exact trivial) rfl ?_ | refine call_auto (hc) (lets_rfl rfl) (by exact ⟨⟨_, rfl, rfl, rfl⟩, trivial⟩) rfl ?_); intro u; clear u))
            all_goals first
              | (exact absurd g h5)
              | (exact absurd h5 g)
              | (refine con_end ?_ rfl; intro u; clear u; refine ⟨rfl, rfl, EntGoal.mk ?_ ?_⟩ <;> (repeat' (first | exact trivial | (with_reducible rfl) | apply And.intro | rfl)))
        · have hk : ¬ okTake l := fun q => h4 q.2.2.2.1
          rw [(take_no hk).1, (take_no hk).2]
          rw [h1] at hp
          rw [h2] at ht
          rw [decide_eq_true h3] at hs
          rw [decide_eq_false h4] at hd
          refine con_of_call2 rfl ?_
          refine call_inline Tryz.func13 rfl rfl ?_
          intro _
          repeat' (first | (refine is_split ?_; (first | refine sp_yes (by rfl) ?_ | refine sp_no (by rfl) ?_) <;> (intro u; clear u)) | (refine is_call ?_; (first | refine call_auto (hp) (lets_rfl rfl) (by exact ⟨⟨_, rfl, rfl, rfl⟩, trivial⟩) rfl ?_ | refine call_auto (ht) (lets_rfl rfl) (by exact ⟨⟨_, rfl, rfl, rfl⟩, trivial⟩) rfl ?_ | refine call_auto (hs) (lets_rfl rfl) (by exact trivial) rfl ?_ | refine call_auto (hd) (lets_rfl rfl) (by exact trivial) rfl ?_); intro u; clear u))
          all_goals (refine con_end ?_ rfl; intro u; clear u; refine ⟨rfl, rfl, EntGoal.mk ?_ ?_⟩ <;> (repeat' (first | exact trivial | (with_reducible rfl) | apply And.intro | rfl)))
      · have hk : ¬ okTake l := fun q => h3 q.2.2.1
        rw [(take_no hk).1, (take_no hk).2]
        rw [h1] at hp
        rw [h2] at ht
        rw [decide_eq_false h3] at hs
        refine con_of_call2 rfl ?_
        refine call_inline Tryz.func13 rfl rfl ?_
        intro _
        repeat' (first | (refine is_split ?_; (first | refine sp_yes (by rfl) ?_ | refine sp_no (by rfl) ?_) <;> (intro u; clear u)) | (refine is_call ?_; (first | refine call_auto (hp) (lets_rfl rfl) (by exact ⟨⟨_, rfl, rfl, rfl⟩, trivial⟩) rfl ?_ | refine call_auto (ht) (lets_rfl rfl) (by exact ⟨⟨_, rfl, rfl, rfl⟩, trivial⟩) rfl ?_ | refine call_auto (hs) (lets_rfl rfl) (by exact trivial) rfl ?_ | refine call_auto (hd) (lets_rfl rfl) (by exact trivial) rfl ?_); intro u; clear u))
        all_goals (refine con_end ?_ rfl; intro u; clear u; refine ⟨rfl, rfl, EntGoal.mk ?_ ?_⟩ <;> (repeat' (first | exact trivial | (with_reducible rfl) | apply And.intro | rfl)))
    · have hk : ¬ okTake l := fun q => h2 q.2.1
      rw [(take_no hk).1, (take_no hk).2]
      rw [h1] at hp
      refine con_of_call2 rfl ?_
      refine call_inline Tryz.func13 rfl rfl ?_
      intro _
      repeat' (first | (refine is_split ?_; (first | refine sp_yes (by exact ndec_t (by omega)) ?_ | refine sp_no (by rfl) ?_) <;> (intro u; clear u)) | (refine is_call ?_; (first | refine call_auto (hp) (lets_rfl rfl) (by exact ⟨⟨_, rfl, rfl, rfl⟩, trivial⟩) rfl ?_ | refine call_auto (ht) (lets_rfl rfl) (by exact ⟨⟨_, rfl, rfl, rfl⟩, trivial⟩) rfl ?_ | refine call_auto (hs) (lets_rfl rfl) (by exact trivial) rfl ?_ | refine call_auto (hd) (lets_rfl rfl) (by exact trivial) rfl ?_); intro u; clear u))
      all_goals (refine con_end ?_ rfl; intro u; clear u; refine ⟨rfl, rfl, EntGoal.mk ?_ ?_⟩ <;> (repeat' (first | exact trivial | (with_reducible rfl) | apply And.intro | rfl)))
  · have hk : ¬ okTake l := fun q => h1 q.1
    rw [(take_no hk).1, (take_no hk).2]
    refine con_of_call2 rfl ?_
    refine call_inline Tryz.func13 rfl rfl ?_
    intro _
    repeat' (first | (refine is_split ?_; refine sp_yes (by exact ndec_t (by omega)) ?_ <;> (intro u; clear u)) | (refine is_call ?_; refine call_auto (hp) (lets_rfl rfl) (by exact ⟨⟨_, rfl, rfl, rfl⟩, trivial⟩) rfl ?_; intro u; clear u))
    all_goals (refine con_end ?_ rfl; intro u; clear u; refine ⟨rfl, rfl, EntGoal.mk ?_ ?_⟩ <;> (repeat' (first | exact trivial | (with_reducible rfl) | apply And.intro | rfl)))

theorem wr_eq {a b : Wr} : a = b ↔ (a.frm.kind = b.frm.kind ∧ a.frm.id = b.frm.id) ∧ (a.to.kind = b.to.kind ∧ a.to.id = b.to.id) ∧ (a.opt.kind = b.opt.kind ∧ a.opt.bucket = b.opt.bucket ∧ a.opt.cur = b.opt.cur ∧ a.opt.prev = b.opt.prev ∧ a.opt.gen = b.opt.gen ∧ a.opt.tick = b.opt.tick) ∧ a.inner = b.inner := by
  obtain ⟨⟨_, _⟩, ⟨_, _⟩, ⟨_, _, _, _, _, _⟩, _⟩ := a
  obtain ⟨⟨_, _⟩, ⟨_, _⟩, ⟨_, _, _, _, _, _⟩, _⟩ := b
  simp
end Go.Proofs.S14.E7

namespace Go.Proofs.S14.E7
open Go Go.SE
open Go.Proofs.S14.O6 (Opt optT okOpt putS putE takeO takeE zeroO)
open Go.Proofs.S14.I2 (Hd hdT okHd putL parseE parseS zeroHd)
set_option maxRecDepth 100000
set_option maxHeartbeats 4000000
attribute [local irreducible] specI okOpt putL parseE parseS takeE takeO putS




attribute [local irreducible] wrB okTake

/-! ### plain laws -/

theorem wrB_is {w : Wr} (hk : okWr w) : wrB w = putL (putHd w) := by unfold wrB; rw [if_pos hk]
theorem wrB_bytes {w : Wr} (h : w.Wf) (hl : w.inner.length ≤ 4000) : ∀ x ∈ wrB w, 0 ≤ x ∧ x ≤ 255 := by
  by_cases hk : okWr w
  · rw [wrB_is hk]; exact I2.put_bytes (putHd_wf h hl hk.2.2)
  · rw [wrB_no hk]; simp
theorem wr_parse {w : Wr} (h : w.Wf) (hl : w.inner.length ≤ 4000) (hk : okWr w) : parseE (wrB w) = 0 ∧ parseS (wrB w) = putHd w := by
  rw [wrB_is hk]
  exact I2.put_parse (putHd_wf h hl hk.2.2) (putHd_ok h hk.2.2)
theorem wr_back {w : Wr} (h : w.Wf) (hl : w.inner.length ≤ 4000) (hk : okWr w) : takeW (wrB w) = w ∧ takeD (wrB w) = 0 := by
  obtain ⟨h1, h2⟩ := wr_parse h hl hk
  obtain ⟨h3, h4, _⟩ := O6.take_put h.opt hk.2.2
  obtain ⟨f1, f2⟩ := ndOf_adr hk.1
  obtain ⟨t1, t2⟩ := ndOf_adr hk.2.1
  have hc : cand (wrB w) = w := by
    unfold cand
    rw [h2]
    show Wr.mk (ndOf (adr w.frm)) (ndOf (adr w.to)) (takeO (putS w.opt)) w.inner = w
    rw [f2, t2, h3]
  have ho : okTake (wrB w) := by
    unfold okTake
    rw [hc, h2]
    exact ⟨h1, h4, f1, t1, rfl⟩
  unfold takeW takeD
  rw [if_pos ho, if_pos ho]
  exact ⟨hc, rfl⟩
theorem take_wf {l : List Int} (hb : ∀ x ∈ l, 0 ≤ x ∧ x ≤ 255) (hl : l.length ≤ 4000) : (takeW l).Wf := by
  unfold takeW
  split
  · exact cand_wf hb hl
  · exact ⟨⟨by decide, by decide⟩, ⟨by decide, by decide⟩, ⟨by decide, by decide, by decide, by decide⟩, by simp [zeroWr]⟩
theorem take_len {l : List Int} (hb : ∀ x ∈ l, 0 ≤ x ∧ x ≤ 255) (hl : l.length ≤ 4000) : (takeW l).inner.length ≤ l.length := by
  unfold takeW
  split
  · rename_i h
    unfold okTake at h
    have hk := cand_ok hb hl h.2.1 h.2.2.1 h.2.2.2.1
    have := wrB_len (cand_wf hb hl) hk
    rw [h.2.2.2.2] at this
    omega
  · simp [zeroWr]
/-- With a byte fewer it is none. -/
theorem take_short {l : List Int} {n : Nat} (hE : parseE l = 0) (hn : n < l.length) (h4 : 4 ≤ n) : ¬ okTake (l.take n) := by
  intro h
  unfold okTake at h
  have h1 := h.1
  have e1 : I2.wN l 2 = l.length := by
    rcases I2.parse_cases l with ⟨e, _⟩ | ⟨e, _⟩ | ⟨e, _⟩ | ⟨e, _⟩ | ⟨e, _⟩ | ⟨e, _⟩ | ⟨_, _, _, _, _, e, _⟩ <;> first | omega | exact e
  have e2 : I2.wN (l.take n) 2 = (l.take n).length := by
    rcases I2.parse_cases (l.take n) with ⟨e, _⟩ | ⟨e, _⟩ | ⟨e, _⟩ | ⟨e, _⟩ | ⟨e, _⟩ | ⟨e, _⟩ | ⟨_, _, _, _, _, e, _⟩ <;> first | omega | exact e
  have e3 : I2.wN (l.take n) 2 = I2.wN l 2 := by
    unfold I2.wN
    simp only [List.getD_eq_getElem?_getD, List.getElem?_take]
    rw [if_pos (by omega), if_pos (by omega)]
  rw [e3, e1, List.length_take] at e2
  omega
end Go.Proofs.S14.E7
