/- Contracts of functions of the program, or a row of the seat, proved out of them. No condition beyond those that stand in each statement. -/
import Derived.Test.YtlefpinmgabmfaaGreatS14p8
import Derived.Test.YtlefpinmgabmfaaGreatS14p7b
import Derived.Test.YtlefpinmgabmfaaGreatS14p5
import Derived.Test.YtlefpinmgabmfaaGreatS14p6
import Derived.Test.YtlefpinmgabmfaaGreatS14pc3
namespace Go.Proofs.S14.M4
open Go Go.SE
set_option maxRecDepth 100000
set_option maxHeartbeats 4000000
attribute [local irreducible] specI

theorem mixed : Tryz.prog.follows .mixedOrders = true := C1.mixed
abbrev Cl := C1.Cl
abbrev Ent := C1.Ent
abbrev Wr := E7.Wr

/-! ### what goes on of a packet -/

def tuOf (l : List Int) : H8.Tu := ⟨(K5.pkR l).src, (K5.pkR l).dst, (K5.pkR l).sport, (K5.pkR l).dport⟩
def bktOf (l : List Int) : Int := H8.fld (H8.sumT (tuOf l))
def rowAt (c : Cl) (l : List Int) : Ent := C1.clRowE c (bktOf l)
def optAt (e : Ent) (l : List Int) : O6.Opt := O6.mayO ⟨1, bktOf l, e.cur, e.prev, e.gen, e.tick⟩
def wrAt (e : Ent) (s : Int) (l : List Int) : Wr := ⟨⟨1, s⟩, ⟨2, e.cur⟩, optAt e l, l⟩
def hasOk (c : Cl) : Prop := c.has = true ∧ C1.okCl c
instance (c : Cl) : Decidable (hasOk c) := by unfold hasOk; infer_instance
def fwE (c : Cl) (s : Int) (l : List Int) : Int := if ¬ hasOk c then 10 else if ¬ K5.pkE l = 0 then K5.pkE l else if (rowAt c l).cur < 0 then 11 else E7.wrD (wrAt (rowAt c l) s l)
def fwB (c : Cl) (s : Int) (l : List Int) : List Int := if fwE c s l = 0 then E7.wrB (wrAt (rowAt c l) s l) else []
def fwN (c : Cl) (s : Int) (l : List Int) : Int := if fwE c s l = 0 then (rowAt c l).cur else -1

theorem fw_no {c : Cl} {s : Int} {l : List Int} (h : ¬ fwE c s l = 0) : fwB c s l = [] ∧ fwN c s l = -1 := ⟨if_neg h, if_neg h⟩
theorem wrD_or (w : Wr) : (E7.okWr w ∧ E7.wrD w = 0) ∨ (¬ E7.okWr w ∧ E7.wrD w = 13) := by
  by_cases h : E7.okWr w
  · exact .inl ⟨h, if_pos h⟩
  · exact .inr ⟨h, if_neg h⟩
theorem tuOf_wf {l : List Int} (hb : ∀ x ∈ l, 0 ≤ x ∧ x ≤ 255) (hl : l.length ≤ 4000) : (tuOf l).Wf := by
  have hw := I2.parse_wf hb hl
  have ht := T3.parse_wf (a := (I2.parseS l).src) (b := (I2.parseS l).dst) hw.pay hw.plen
  exact ⟨hw.src, hw.dst, ht.1, ht.2.1⟩
theorem fld_bd (s : Int) : 0 ≤ H8.fld s ∧ H8.fld s ≤ 15 := by unfold H8.fld; omega
theorem bkt_bd (l : List Int) : 0 ≤ bktOf l ∧ bktOf l ≤ 15 := fld_bd _
theorem opt_wf (e : Ent) (l : List Int) : (optAt e l).Wf := by
  have h := bkt_bd l
  unfold optAt O6.mayO
  split
  · exact ⟨by show (0 : Int) ≤ 1; omega, by show (1 : Int) ≤ 255; omega, h.1, by show bktOf l ≤ 255; omega⟩
  · exact ⟨by decide, by decide, by decide, by decide⟩
theorem wrAt_wf {e : Ent} {s : Int} {l : List Int} (hb : ∀ x ∈ l, 0 ≤ x ∧ x ≤ 255) (hs : C1.isI s) (hc : C1.isI e.cur) : (wrAt e s l).Wf := ⟨⟨⟨by show (0 : Int) ≤ 1; omega, by show (1 : Int) ≤ 255; omega⟩, hs⟩, ⟨⟨by show (0 : Int) ≤ 2; omega, by show (2 : Int) ≤ 255; omega⟩, hc⟩, opt_wf e l, hb⟩
/-- The bucket's row, of a client that may be. -/
theorem row_ok {c : Cl} (h : hasOk c) (l : List Int) : C1.okE (rowAt c l) := by
  obtain ⟨h1, h2⟩ := h
  have hb := bkt_bd l
  unfold rowAt C1.clRowE
  rw [if_pos h1]
  unfold C1.rowE
  rw [if_pos (by omega)]
  rcases h2 with ⟨_, h3⟩ | ⟨h3, _⟩
  · exact h3.2 _ (by omega)
  · rw [h1] at h3; cases h3
theorem okE_isI {e : Ent} (h : C1.okE e) : C1.isI e.cur := by
  obtain ⟨_, ⟨h5, h6⟩ | ⟨⟨h5, h6⟩, _⟩⟩ := h <;> (unfold C1.isI; omega)
theorem opt_ok {e : Ent} (h : C1.okE e) (hc : ¬ e.cur < 0) (l : List Int) : O6.okOpt ⟨1, bktOf l, e.cur, e.prev, e.gen, e.tick⟩ = true := by
  have hb := bkt_bd l
  obtain ⟨⟨h1, h2, h3, h4⟩, ⟨h5, h6⟩ | ⟨⟨h5, h6⟩, ⟨h7, h8⟩, h9⟩⟩ := h
  · omega
  · unfold O6.okOpt
    refine decide_eq_true ?_
    dsimp only
    omega
theorem opt_is {e : Ent} (h : C1.okE e) (hc : ¬ e.cur < 0) (l : List Int) : optAt e l = ⟨1, bktOf l, e.cur, e.prev, e.gen, e.tick⟩ := if_pos (opt_ok h hc l)
theorem wr_ok {e : Ent} (h : C1.okE e) (hc : ¬ e.cur < 0) (s : Int) (l : List Int) : E7.okWr (wrAt e s l) ↔ (0 ≤ s ∧ s < 3) := by
  have h0 : O6.okOpt (wrAt e s l).opt = true := by
    show O6.okOpt (optAt e l) = true
    rw [opt_is h hc l]; exact opt_ok h hc l
  have h1 : E7.okNd (wrAt e s l).to := by
    obtain ⟨_, ⟨h5, h6⟩ | ⟨⟨h5, h6⟩, _⟩⟩ := h
    · omega
    · exact .inr (.inl ⟨rfl, h5, h6⟩)
  constructor
  · rintro ⟨h2, _⟩
    have h2 : (1 : Int) = 1 ∧ 0 ≤ s ∧ s < 3 ∨ (1 : Int) = 2 ∧ 0 ≤ s ∧ s < 6 ∨ (1 : Int) = 3 ∧ s = 0 := h2
    omega
  · intro hs
    exact ⟨.inl ⟨rfl, hs.1, hs.2⟩, h1, h0⟩

theorem forward_con {c : Cl} (hT : c.tab.rows.length = 16) {s : Int} (hs : C1.isI s) {l : List Int} (hb : ∀ x ∈ l, 0 ≤ x ∧ x ≤ 255) (hl : l.length ≤ 4000) :
    CallCon Tryz.prog 30 [C1.clT c, .one (.v (.int .i64 s)), .one (.sl 0 0 l.length), .one (.fn 31 [])] [.row (ints .u8 l) 1 5 false] (.tup [.one (.sl 0 0 (fwB c s l).length), .one (.v (.int .i64 (fwN c s l))), .one (.v (.int .u8 (fwE c s l)))]) [.row (ints .u8 (fwB c s l)) 1 5 true] := by
  have hR := C1.clright_con hT
  have hP := K5.parse_con hb hl
  have hO := H8.of_con (tuOf_wf hb hl)
  have hrow := C1.clrow_con c (bktOf l)
  by_cases h1 : c.has = true
  · by_cases h2 : C1.okCl c
    · have hk : hasOk c := ⟨h1, h2⟩
      have hR := con_yes hR h2
      by_cases h3 : K5.pkE l = 0
      · have e3 : K5.pkS l = K5.pkR l := if_pos h3
        rw [h3, e3] at hP
        have hP := con_num2 hP
        have hr := row_ok hk l
        have hOp := O6.of_con (kind := 1) (bucket := bktOf l) (cur := (rowAt c l).cur) (prev := (rowAt c l).prev) (gen := (rowAt c l).gen) (tick := (rowAt c l).tick) (by decide) (by decide)
        have hW := E7.put_con (wrAt_wf (e := rowAt c l) hb hs (okE_isI hr)) (by exact hl)
        by_cases h4 : (rowAt c l).cur < 0
        · have e4 : fwE c s l = 11 := by unfold fwE; rw [if_neg (by simpa using hk), if_neg (by simpa using h3), if_pos h4]
          obtain ⟨e5, e6⟩ := fw_no (by rw [e4]; decide : ¬ fwE c s l = 0)
          rw [e4, e5, e6]
          unfold rowAt at h4
          obtain ⟨has, tab⟩ := c
          cases h1
          refine con_of_call2 rfl ?_
          refine call_inline Tryz.func30 rfl rfl ?_
          intro _
          repeat' (first | (refine is_split ?_; refine sp_yes (by exact dec_t (by omega)) ?_ <;> (intro u; clear u)) | (refine is_scope ?_; refine scope_step ?_; intro u; clear u) | (refine is_call ?_; (first | refine call_auto (hR) (lets_rfl rfl) (by exact trivial) rfl ?_ | refine call_auto (hP) (lets_rfl rfl) (by exact ⟨⟨_, rfl, rfl, rfl⟩, trivial⟩) rfl ?_ | refine call_auto (hO) (lets_rfl rfl) (by exact trivial) rfl ?_ | refine call_auto (hrow) (lets_rfl rfl) (by exact trivial) rfl ?_); intro u; clear u))
          all_goals first
            | ((refine con_end ?_ rfl; intro u; clear u; refine ⟨rfl, rfl, EntGoal.mk ?_ ?_⟩ <;> (repeat' (first | exact trivial | (with_reducible rfl) | apply And.intro | rfl))); done)
            | (exfalso; omega)
        · have e4 : fwE c s l = E7.wrD (wrAt (rowAt c l) s l) := by unfold fwE; rw [if_neg (by simpa using hk), if_neg (by simpa using h3), if_neg h4]
          rcases wrD_or (wrAt (rowAt c l) s l) with ⟨h5, e5⟩ | ⟨h5, e5⟩
          · have e6 : fwE c s l = 0 := by rw [e4, e5]
            rw [show fwB c s l = E7.wrB (wrAt (rowAt c l) s l) from if_pos e6, show fwN c s l = (rowAt c l).cur from if_pos e6, e6]
            rw [e5] at hW
            have hW := con_num2 hW
            obtain ⟨has, tab⟩ := c
            cases h1
            refine con_of_call2 rfl ?_
            refine call_inline Tryz.func30 rfl rfl ?_
            intro _
            repeat' (first | (refine is_split ?_; refine sp_dec (fun g => ?_) (fun g => ?_) <;> (intro u; clear u)) | (refine is_draw ?_; refine draw_step mixed (by kernel_rfl) ?_; intro u; clear u) | (refine is_scope ?_; refine scope_step ?_; intro u; clear u) | (refine is_call ?_; (first | refine call_auto (hR) (lets_rfl rfl) (by exact trivial) rfl ?_ | refine call_auto (hP) (lets_rfl rfl) (by exact ⟨⟨_, rfl, rfl, rfl⟩, trivial⟩) rfl ?_ | refine call_auto (hO) (lets_rfl rfl) (by exact trivial) rfl ?_ | refine call_auto (hrow) (lets_rfl rfl) (by exact trivial) rfl ?_ | refine call_le (by (repeat' (first | exact trivial | apply And.intro | exact rfl)); (first | done | fail)) (hOp) (by exact trivial) rfl ?_ | refine call_le (by (repeat' (first | exact trivial | apply And.intro | exact rfl)); (first | done | fail)) (hW) (by exact ⟨⟨_, rfl, rfl, rfl⟩, trivial⟩) rfl ?_); intro u; clear u))
            all_goals first
              | ((refine con_end ?_ rfl; intro u; clear u; refine ⟨rfl, rfl, EntGoal.mk ?_ ?_⟩ <;> (repeat' (first | exact trivial | (with_reducible rfl) | apply And.intro | rfl))); done)
              | (exfalso; unfold rowAt at h4; omega)
          · have e6 : fwE c s l = 13 := by rw [e4, e5]
            obtain ⟨e7, e8⟩ := fw_no (by rw [e6]; decide : ¬ fwE c s l = 0)
            rw [e7, e8, e6]
            rw [e5] at hW
            have hW := con_num2 hW
            obtain ⟨has, tab⟩ := c
            cases h1
            refine con_of_call2 rfl ?_
            refine call_inline Tryz.func30 rfl rfl ?_
            intro _
            repeat' (first | (refine is_split ?_; refine sp_dec (fun g => ?_) (fun g => ?_) <;> (intro u; clear u)) | (refine is_scope ?_; refine scope_step ?_; intro u; clear u) | (refine is_call ?_; (first | refine call_auto (hR) (lets_rfl rfl) (by exact trivial) rfl ?_ | refine call_auto (hP) (lets_rfl rfl) (by exact ⟨⟨_, rfl, rfl, rfl⟩, trivial⟩) rfl ?_ | refine call_auto (hO) (lets_rfl rfl) (by exact trivial) rfl ?_ | refine call_auto (hrow) (lets_rfl rfl) (by exact trivial) rfl ?_ | refine call_le (by (repeat' (first | exact trivial | apply And.intro | exact rfl)); (first | done | fail)) (hOp) (by exact trivial) rfl ?_ | refine call_le (by (repeat' (first | exact trivial | apply And.intro | exact rfl)); (first | done | fail)) (hW) (by exact ⟨⟨_, rfl, rfl, rfl⟩, trivial⟩) rfl ?_); intro u; clear u))
            all_goals first
              | ((refine con_end ?_ rfl; intro u; clear u; refine ⟨rfl, rfl, EntGoal.mk ?_ ?_⟩ <;> (repeat' (first | exact trivial | (with_reducible rfl) | apply And.intro | rfl))); done)
              | (exfalso; unfold rowAt at h4; omega)
      · have e4 : fwE c s l = K5.pkE l := by unfold fwE; rw [if_neg (by simpa using hk), if_pos h3]
        obtain ⟨e5, e6⟩ := fw_no (by rw [e4]; exact h3 : ¬ fwE c s l = 0)
        rw [e4, e5, e6]
        have e3 : K5.pkS l = K5.zeroPk := if_neg h3
        rw [e3] at hP
        generalize K5.pkE l = q at *
        obtain ⟨has, tab⟩ := c
        cases h1
        refine con_of_call2 rfl ?_
        refine call_inline Tryz.func30 rfl rfl ?_
        intro _
        repeat' (first | (refine is_split ?_; refine sp_yes (by exact ndec_t (by omega)) ?_ <;> (intro u; clear u)) | (refine is_scope ?_; refine scope_step ?_; intro u; clear u) | (refine is_call ?_; (first | refine call_auto (hR) (lets_rfl rfl) (by exact trivial) rfl ?_ | refine call_auto (hP) (lets_rfl rfl) (by exact ⟨⟨_, rfl, rfl, rfl⟩, trivial⟩) rfl ?_); intro u; clear u))
        all_goals first
          | ((refine con_end ?_ rfl; intro u; clear u; refine ⟨rfl, rfl, EntGoal.mk ?_ ?_⟩ <;> (repeat' (first | exact trivial | (with_reducible rfl) | apply And.intro | rfl))); done)
          | (exfalso; omega)
    · have hR := con_no hR h2
      have e4 : fwE c s l = 10 := if_pos (fun h => h2 h.2)
      obtain ⟨e5, e6⟩ := fw_no (by rw [e4]; decide : ¬ fwE c s l = 0)
      rw [e4, e5, e6]
      obtain ⟨has, tab⟩ := c
      cases h1
      refine con_of_call2 rfl ?_
      refine call_inline Tryz.func30 rfl rfl ?_
      intro _
      repeat' (first | (refine is_scope ?_; refine scope_step ?_; intro u; clear u) | (refine is_call ?_; refine call_auto (hR) (lets_rfl rfl) (by exact trivial) rfl ?_; intro u; clear u))
      all_goals (refine con_end ?_ rfl; intro u; clear u; refine ⟨rfl, rfl, EntGoal.mk ?_ ?_⟩ <;> (repeat' (first | exact trivial | (with_reducible rfl) | apply And.intro | rfl)))
  · have e4 : fwE c s l = 10 := if_pos (fun h => h1 h.1)
    obtain ⟨e5, e6⟩ := fw_no (by rw [e4]; decide : ¬ fwE c s l = 0)
    rw [e4, e5, e6]
    obtain ⟨has, tab⟩ := c
    cases has with
    | true => exact absurd rfl h1
    | false =>
      refine con_of_call2 rfl ?_
      refine call_inline Tryz.func30 rfl rfl ?_
      intro _
      repeat' (refine is_scope ?_; refine scope_step ?_; intro u; clear u)
      all_goals (refine con_end ?_ rfl; intro u; clear u; refine ⟨rfl, rfl, EntGoal.mk ?_ ?_⟩ <;> (repeat' (first | exact trivial | (with_reducible rfl) | apply And.intro | rfl)))

theorem Forward_con {c : Cl} (hT : c.tab.rows.length = 16) {s : Int} (hs : C1.isI s) {l : List Int} (hb : ∀ x ∈ l, 0 ≤ x ∧ x ≤ 255) (hl : l.length ≤ 4000) :
    CallCon Tryz.prog 10 [C1.clT c, .one (.v (.int .i64 s)), .one (.sl 0 0 l.length)] [.row (ints .u8 l) 1 5 false] (.tup [.one (.sl 0 0 (fwB c s l).length), .one (.v (.int .i64 (fwN c s l))), .one (.v (.int .u8 (fwE c s l)))]) [.row (ints .u8 (fwB c s l)) 1 5 true] := by
  have hF := forward_con hT hs hb hl
  refine con_of_call2 rfl ?_
  refine call_inline Tryz.func10 rfl rfl ?_
  intro _
  repeat' (refine is_call ?_; refine call_auto (hF) (lets_rfl rfl) (by exact ⟨⟨_, rfl, rfl, rfl⟩, trivial⟩) rfl ?_; intro u; clear u)
  all_goals (refine con_end ?_ rfl; intro u; clear u; refine ⟨rfl, rfl, EntGoal.mk ?_ ?_⟩ <;> (repeat' (first | exact trivial | (with_reducible rfl) | apply And.intro | rfl)))
end Go.Proofs.S14.M4
