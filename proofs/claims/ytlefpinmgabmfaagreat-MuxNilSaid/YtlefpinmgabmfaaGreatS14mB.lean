/- Contracts of functions of the program, or a row of the seat, proved out of them. No condition beyond those that stand in each statement. -/
import Derived.Test.YtlefpinmgabmfaaGreatSeD
import Derived.Test.YtlefpinmgabmfaaGreatSeE
import Derived.Test.YtlefpinmgabmfaaGreatS14Locks
import Derived.Test.YtlefpinmgabmfaaGreatS14mA
import Derived.Test.YtlefpinmgabmfaaGreatS14mN
import Derived.Test.YtlefpinmgabmfaaGreatS14p7b
import Derived.Test.YtlefpinmgabmfaaGreatS14h8e
import Derived.Test.YtlefpinmgabmfaaGreatS14pc3
import Derived.Test.YtlefpinmgabmfaaGreatS14pc2
namespace Go.Proofs.S14.M4
open Go Go.SE
set_option maxRecDepth 100000
set_option maxHeartbeats 4000000
attribute [local irreducible] specI

theorem load64 : Load64 Tryz.prog 152 := ⟨fun ys w => enters Tryz.func152 rfl rfl ys w, load_i64⟩
theorem add64 : Add64 Tryz.prog 150 := ⟨fun ys w => enters Tryz.func150 rfl rfl ys w, add_i64⟩
theorem onceC : OnceFirst Tryz.prog 176 201 := ⟨fun ys w => enters Tryz.func176 rfl rfl ys w, do_first⟩

/-! ### the values that the wakes make -/
def one4 : K5.Tu := ⟨1, 2, 3, 4⟩
theorem one4_wf : one4.Wf := ⟨by decide, by decide, by decide, by decide⟩
def W4 : List Int := K5.makeL one4 2 []
theorem W4_len : W4.length = 40 := K5.make_len
theorem W4_bytes : ∀ x ∈ W4, 0 ≤ x ∧ x ≤ 255 := K5.make_bytes one4_wf (by decide) (by simp) (by decide)
theorem W4_ok : K5.pkE W4 = 0 := by decide +kernel
theorem W4_pk : K5.pkR W4 = ⟨1, 2, 3, 4, 2, W4⟩ := by decide +kernel
theorem tu4 : tuOf W4 = ⟨1, 2, 3, 4⟩ := by unfold tuOf; rw [W4_pk]
def bk4 : Int := H8.fld (H8.sumT ⟨1, 2, 3, 4⟩)
theorem bkt4 : bktOf W4 = bk4 := by unfold bktOf bk4; rw [tu4]
def E4 : Ent := ⟨2, -1, 1, 0⟩
theorem E4_ok : C1.okE E4 := by unfold E4; decide
def tab4 : C1.Tab := ⟨16, List.replicate 16 E4⟩
def cl4 : Cl := ⟨true, tab4⟩
theorem tab4_ok : C1.okTab tab4 := ⟨by decide, C1.lt16 ⟨E4_ok, E4_ok, E4_ok, E4_ok, E4_ok, E4_ok, E4_ok, E4_ok, E4_ok, E4_ok, E4_ok, E4_ok, E4_ok, E4_ok, E4_ok, E4_ok⟩⟩
theorem cl4_ok : hasOk cl4 := ⟨rfl, .inl ⟨rfl, tab4_ok⟩⟩
def s4 : C1.Sh := C1.ofSh tab4
theorem ofE4 : C1.ofE tab4 = 0 := if_pos tab4_ok
theorem s4_is : s4 = ⟨-1, 16, C1.snapL tab4⟩ := by unfold s4 C1.ofSh; rw [if_pos tab4_ok]; rfl
theorem s4_len : s4.rows.length = 16 := by rw [s4_is]; decide +kernel
theorem take4 : C1.ctOk C1.zeroCl s4 := by decide +kernel
theorem takeE4 : C1.ctE C1.zeroCl s4 = 0 := by decide +kernel
theorem takeC4 : C1.ctC C1.zeroCl s4 = cl4 := by decide +kernel
theorem row4 : rowAt cl4 W4 = E4 := by
  unfold rowAt
  rw [bkt4]
  decide +kernel
theorem bk4_is : bk4 = 13 := by decide +kernel

def clN : List S := .v (.bool true) :: .n .i64 16 :: rep [.n .i64 2, .n .i64 (-1), .n .i64 1, .n .i64 0] 16
theorem clN_num : numL (C1.clS cl4) = clN := by rfl
theorem owned_con : CallCon Tryz.prog 29 [] [] (.t (.agg clN)) [] := by
  have hN := C1.refnew_con
  refine con_of_call2 rfl ?_
  refine call_inline Tryz.func29 rfl rfl ?_
  intro _
  repeat' (first | (refine is_loop ?_; refine loop_step ?_; intro u; clear u) | (refine is_call ?_; refine call_auto (hN) (lets_rfl rfl) (by exact trivial) rfl ?_; intro u; clear u))
  all_goals (refine con_end ?_ rfl; intro u; clear u; refine ⟨rfl, rfl, EntGoal.mk ?_ ?_⟩ <;> (repeat' (first | exact trivial | (with_reducible rfl) | apply And.intro | rfl)))
theorem make4_con : CallCon Tryz.prog 28 [.agg [.n .u32 1, .n .u32 2, .n .u16 3, .n .u16 4], .one (.n .u8 2), .one (.v (.slice none 0 0))] [] (.tup [.one (.sl 0 0 40), .one (.v (.bool true))]) [.row (ints .u8 W4) 1 5 true] := by
  have h := K5.refmake_con (t := one4) (f := 2) (d := []) one4_wf (by decide) (by simp) (by decide)
  have h := con_nil [.agg [.n .u32 1, .n .u32 2, .n .u16 3, .n .u16 4], .one (.n .u8 2), .one (.v (.slice none 0 0))] [] rfl h (by repeat' (first | exact trivial | exact rfl | exact Or.inl rfl | apply And.intro)) rfl
  exact con_nums _ h rfl
theorem of4_con : CallCon Tryz.prog 27 [C1.tabT tab4] [] (.tup [.agg [.n .i64 (-1), .n .i64 16, .sl 0 0 16], .one (.n .i64 0)]) [.row (C1.rowsV s4.rows) 5 126 true] := by
  have h := C1.refof_con tab4
  rw [ofE4, show C1.ofSh tab4 = s4 from rfl] at h
  refine con_nums _ h ?_
  show X.tup [.agg [.n .i64 s4.base, .n .i64 s4.to, .sl 0 0 s4.rows.length], .one (.n .i64 0)] = _
  rw [s4_len, s4_is]
theorem cltake4_con : CallCon Tryz.prog 43 [C1.clT C1.zeroCl, .agg [.v (.int .i64 (-1)), .v (.int .i64 16), .sl 0 0 16]] [.row (C1.rowsV s4.rows) 5 126 false] (.tup [.agg clN, .one (.v (.bool true)), .one (.n .i64 0)]) [] := by
  have h := C1.cltake_con (c := C1.zeroCl) rfl s4 (by rw [s4_len]; decide)
  rw [takeE4, decide_eq_true take4, takeC4] at h
  have e : C1.shT 0 s4 = .agg [.v (.int .i64 (-1)), .v (.int .i64 16), .sl 0 0 16] := by
    show T.agg [.v (.int .i64 s4.base), .v (.int .i64 s4.to), .sl 0 0 s4.rows.length] = _
    rw [s4_len, s4_is]
  rw [e] at h
  exact con_nums _ h rfl
def w4 : Wr := ⟨⟨1, 1⟩, ⟨2, 2⟩, ⟨1, 13, 2, -1, 1, 0⟩, W4⟩
theorem w4_ok : E7.okWr w4 := by unfold E7.okWr; decide
theorem w4_wf : w4.Wf := ⟨⟨by decide, by decide⟩, ⟨by decide, by decide⟩, ⟨by decide, by decide, by decide, by decide⟩, W4_bytes⟩
theorem w4_inner : w4.inner.length = 40 := W4_len
theorem w4_len : (E7.wrB w4).length = 76 := by rw [E7.wrB_len w4_wf w4_ok, w4_inner]
theorem w4_bytes : ∀ x ∈ E7.wrB w4, 0 ≤ x ∧ x ≤ 255 := E7.wrB_bytes w4_wf (by rw [w4_inner]; decide)
theorem put4_con : CallCon Tryz.prog 62 [.agg [.v (.int .u8 1), .v (.int .i64 1), .v (.int .u8 2), .v (.int .i64 2), .v (.int .u8 1), .v (.int .u8 13), .v (.int .i64 2), .v (.int .i64 (-1)), .v (.int .i64 1), .v (.int .i64 0), .sl 0 0 40]] [.row (ints .u8 W4) 1 5 false] (.tup [.one (.sl 0 0 76), .one (.n .u8 0)]) [.row (ints .u8 (E7.wrB w4)) 1 5 true] := by
  have h := E7.put_con w4_wf (by rw [w4_inner]; decide)
  rw [w4_len, show E7.wrD w4 = 0 from if_pos w4_ok] at h
  have e : E7.wrT w4 0 = .agg [.v (.int .u8 1), .v (.int .i64 1), .v (.int .u8 2), .v (.int .i64 2), .v (.int .u8 1), .v (.int .u8 13), .v (.int .i64 2), .v (.int .i64 (-1)), .v (.int .i64 1), .v (.int .i64 0), .sl 0 0 40] := by
    show T.agg [_, _, _, _, _, _, _, _, _, _, .sl 0 0 w4.inner.length] = _
    rw [w4_inner]
    rfl
  rw [e] at h
  exact con_nums _ h rfl
theorem take4_con : CallCon Tryz.prog 13 [.one (.sl 0 0 76)] [.row (ints .u8 (E7.wrB w4)) 1 5 false] (.tup [.agg [.n .u8 1, .n .i64 1, .n .u8 2, .n .i64 2, .n .u8 1, .n .u8 13, .n .i64 2, .n .i64 (-1), .n .i64 1, .n .i64 0, .sl 0 0 40], .one (.n .u8 0)]) [.row (ints .u8 W4) 1 5 true] := by
  have h := E7.reftake_con w4_bytes (by rw [w4_len]; decide)
  obtain ⟨e1, e2⟩ := E7.wr_back w4_wf (by rw [w4_inner]; decide) w4_ok
  rw [w4_len, e1, e2] at h
  have e : E7.wrT w4 0 = .agg [.v (.int .u8 1), .v (.int .i64 1), .v (.int .u8 2), .v (.int .i64 2), .v (.int .u8 1), .v (.int .u8 13), .v (.int .i64 2), .v (.int .i64 (-1)), .v (.int .i64 1), .v (.int .i64 0), .sl 0 0 40] := by
    show T.agg [_, _, _, _, _, _, _, _, _, _, .sl 0 0 w4.inner.length] = _
    rw [w4_inner]
    rfl
  rw [e] at h
  exact con_nums _ h rfl
theorem short_e : fwE cl4 1 [] = 1 := by decide +kernel
theorem short4_con : CallCon Tryz.prog 10 [.agg clN, .one (.n .i64 1), .one (.v (.slice none 0 0))] [] (.tup [.one (.sl 0 0 0), .one (.n .i64 (-1)), .one (.n .u8 1)]) [.row (ints .u8 []) 1 5 true] := by
  have h := Forward_con (c := cl4) rfl (s := 1) ⟨by decide, by decide⟩ (l := []) (by simp) (by decide)
  obtain ⟨e1, e2⟩ := fw_no (c := cl4) (s := 1) (l := []) (by rw [short_e]; decide)
  rw [e1, e2, short_e] at h
  have h := con_nil [.agg clN, .one (.n .i64 1), .one (.v (.slice none 0 0))] [] rfl h (by repeat' (first | exact trivial | exact rfl | exact Or.inl rfl | apply And.intro)) rfl
  exact con_nums _ h rfl
theorem parse4_con : CallCon Tryz.prog 59 [.one (.sl 0 0 40)] [.row (ints .u8 W4) 1 5 false] (.tup [.agg [.n .u32 1, .n .u32 2, .n .u16 3, .n .u16 4, .n .u8 2, .sl 0 0 40], .one (.n .u8 0)]) [.row (ints .u8 W4) 1 5 true] := by
  have h := K5.parse_con W4_bytes (by rw [W4_len]; decide)
  rw [show K5.pkS W4 = K5.pkR W4 from if_pos W4_ok, W4_ok, W4_pk, W4_len] at h
  refine con_nums _ h ?_
  show X.tup [.agg [.n .u32 1, .n .u32 2, .n .u16 3, .n .u16 4, .n .u8 2, .sl 0 0 W4.length], .one (.n .u8 0)] = _
  rw [W4_len]
theorem row4_con : CallCon Tryz.prog 60 [C1.clT cl4, .one (.v (.int .i64 13))] [] (.tup [.agg [.n .i64 2, .n .i64 (-1), .n .i64 1, .n .i64 0], .one (.v (.bool true))]) [] := by
  have h := C1.clrow_con cl4 13
  exact con_nums _ h rfl
theorem right4_con : CallCon Tryz.prog 58 [C1.clT cl4] [] (.t (.one (.v (.bool true)))) [] := con_yes (C1.clright_con (c := cl4) rfl) cl4_ok.2
theorem opt4_con : CallCon Tryz.prog 61 [.one (.v (.int .u8 1)), .one (.v (.int .i64 13)), .agg [.v (.int .i64 2), .v (.int .i64 (-1)), .v (.int .i64 1), .v (.int .i64 0)]] [] (.tup [.agg [.n .u8 1, .n .u8 13, .n .i64 2, .n .i64 (-1), .n .i64 1, .n .i64 0], .one (.n .i64 0)]) [] := by
  have h := O6.of_con (kind := 1) (bucket := 13) (cur := 2) (prev := -1) (gen := 1) (tick := 0) (by decide) (by decide)
  exact con_nums _ h rfl
end Go.Proofs.S14.M4
