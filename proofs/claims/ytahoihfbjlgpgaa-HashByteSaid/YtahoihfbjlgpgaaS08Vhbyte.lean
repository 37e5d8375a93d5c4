/- Contracts of functions of the program, or a row of the seat, proved out of them. No condition beyond those that stand in each statement. -/
import Derived.Test.YtahoihfbjlgpgaaSeE
import Derived.Test.YtahoihfbjlgpgaaS08gHo
namespace Go.Proofs.Ytahoihfbjlgpgaa
open Go Go.Conc Go.SE Go.RowKit Go.WideShapes Go.ChangeShapes Go.Proofs.S08
set_option maxRecDepth 100000
set_option maxHeartbeats 4000000

theorem hbyte_calls {H : Type} {enc : TypeId × Value → H} {W : World} {base : Nat} {args : Array Value} {ds gs : List (DataW H)} {before : List MemPlace}
    (hval : ∀ (j : Nat) t v, Try.f5.params[j]? = some t → args[j]? = some v → Value.okWide Try.prog W .any base t v)
    (hW : DataW.Whole enc Try.prog Try.f5.params.toList Rows.hashByteSpec.vars false W args.toList ds gs before) :
    Calls Try.prog 5 args W fun e w' => e = .returned (.bool true) ∧ Below W.heap.size W w' := by
  obtain ⟨ps, qs, hA0, hV, rfl, hfz, hnd⟩ := hW
  have hA : DataW.TrodAll enc Try.prog W 0 (fun _ => true) true Try.f5.params.toList args.toList ds ps := hA0
  rw [Try.params5] at hA hval
  obtain ⟨v0, vs0, d0, ds0, p0, q0, hargs, rfl, rfl, h0, r0⟩ := trodAll_cons hA
  obtain ⟨v1, vs1, d1, ds1, p1, q1, rfl, rfl, rfl, h1, r1⟩ := trodAll_cons r0
  obtain ⟨v2, vs2, d2, ds2, p2, q2, rfl, rfl, rfl, h2, r2⟩ := trodAll_cons r1
  obtain ⟨rfl, rfl, rfl⟩ := trodAll_nil r2
  obtain rfl : args = #[v0, v1, v2] := by cases args; simp_all
  obtain ⟨a0, w0, e0⟩ := open_tu (hval 0 31 v0 rfl rfl)
  obtain ⟨a1, rfl, b1, c1⟩ := open_num Try.underlying3 (hval 1 3 v1 rfl rfl)
  obtain ⟨a2, rfl, b2, c2⟩ := open_num Try.underlying5 (hval 2 5 v2 rfl rfl)
  let R : Rho := fun h => ⟨0, 0, 0, 0, false⟩
  refine law_calls (byte_con w0 a1 ⟨b2,c2⟩) R (fun i r hi => ?_) ⟨e0 R, ⟨rfl, rfl⟩, ⟨rfl, rfl⟩, trivial⟩
  simp at hi

theorem hbyte_lifted (os : Os) (started : os.Started) (H : Type) (enc : TypeId × Value → H) (F : Stop.Interp) :
    ReturnsInLeavingWide { calm := true } Try.checked os 5 .any (Rows.hashByteSpec.pre6 enc Try.prog Try.f5 Rows.hashByteRow.domain false) ((OpenSpec.ofChange Rows.hashByteSpec).postWith enc Try.prog Try.f5 F (outsideKept [.timePasses]) false true false) := by
  refine returnsInLeavingWide_of_change_time (C := Try.checked) own started Try.func5
    (ChangeSpec.witness6c (enc := enc) (C := Try.checked) ⟨#[], #[.agg #[.int .u32 0, .int .u32 0, .int .u16 0, .int .u16 0], .int .i64 0, .int .u8 0], []⟩ 8 (by kernel_rfl) (by kernel_rfl) (by kernel_rfl) (by kernel_rfl)) ?_
  intro W base args ds gs before hval hW _ _ _
  refine leaving_row (t := 4) (by kernel_rfl) rfl (fun l hl => ?_) rfl Try.underlying4 laid (by kernel_rfl) hW (hbyte_calls hval hW)
  match l, hl with
  | [_, _, _], _ => exact ⟨rfl, rfl, rfl⟩

theorem hbyte_holds : Rows.HashByteSaid :=
  OpenClaim.holds_of_wide_leaving_time 5 Try.f5 rfl rfl rfl rfl rfl rfl rfl ⟨rfl, rfl, rfl, rfl, rfl⟩ rfl rfl rfl rfl rfl (by kernel_rfl) Try.func5 (by kernel_rfl)
    (of_decide_eq_true (by kernel_rfl)) (by unfold Func.isWrapper; first | (rw [if_pos (by decide +kernel)]; kernel_rfl) | (rw [if_neg (by decide +kernel)]; exact ⟨rfl, rfl⟩))
    (fun os started H enc _ F => hbyte_lifted os started H enc F)
#print axioms hbyte_holds
end Go.Proofs.Ytahoihfbjlgpgaa
