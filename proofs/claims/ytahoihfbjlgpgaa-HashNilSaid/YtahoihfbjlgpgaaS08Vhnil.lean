/- Contracts of functions of the program, or a row of the seat, proved out of them. No condition beyond those that stand in each statement. -/
import Derived.Test.YtahoihfbjlgpgaaSeE
import Derived.Test.YtahoihfbjlgpgaaS08gHo
namespace Go.Proofs.Ytahoihfbjlgpgaa
open Go Go.Conc Go.SE Go.RowKit Go.WideShapes Go.ChangeShapes Go.Proofs.S08
set_option maxRecDepth 100000
set_option maxHeartbeats 4000000

theorem hnil_calls {H : Type} {enc : TypeId × Value → H} {W : World} {base : Nat} {args : Array Value} {ds gs : List (DataW H)} {before : List MemPlace}
    (hval : ∀ (j : Nat) t v, Try.f7.params[j]? = some t → args[j]? = some v → Value.okWide Try.prog W .any base t v)
    (hW : DataW.Whole enc Try.prog Try.f7.params.toList Rows.hashNilSpec.vars false W args.toList ds gs before) :
    Calls Try.prog 7 args W fun e w' => e = .returned (.bool true) ∧ Below W.heap.size W w' := by
  obtain ⟨ps, qs, hA0, hV, rfl, hfz, hnd⟩ := hW
  have hA : DataW.TrodAll enc Try.prog W 0 (fun _ => true) true Try.f7.params.toList args.toList ds ps := hA0
  rw [Try.params7] at hA hval
  obtain ⟨v0, vs0, d0, ds0, p0, q0, hargs, rfl, rfl, h0, r0⟩ := trodAll_cons hA
  obtain ⟨v1, vs1, d1, ds1, p1, q1, rfl, rfl, rfl, h1, r1⟩ := trodAll_cons r0
  obtain ⟨rfl, rfl, rfl⟩ := trodAll_nil r1
  obtain rfl : args = #[v0, v1] := by cases args; simp_all
  obtain ⟨L0, a0, w0, e0⟩ := open_apiTuple (hval 0 40 v0 rfl rfl) h0
  obtain ⟨a1, w1, e1⟩ := open_tu (hval 1 31 v1 rfl rfl)
  let R : Rho := fun h => L0
  refine law_calls (nil_con a0 a1) R (fun i r hi => ?_) ⟨(e0 R 0 rfl).1, e1 R, trivial⟩
  cases i with
  | zero => simp at hi; subst hi; exact (e0 R 0 rfl).2
  | succ i =>
    simp at hi

theorem hnil_lifted (os : Os) (started : os.Started) (H : Type) (enc : TypeId × Value → H) (F : Stop.Interp) :
    ReturnsInLeavingWide { calm := true } Try.checked os 7 .any (Rows.hashNilSpec.pre6 enc Try.prog Try.f7 Rows.hashNilRow.domain false) ((OpenSpec.ofChange Rows.hashNilSpec).postWith enc Try.prog Try.f7 F (outsideKept [.timePasses]) false true false) := by
  refine returnsInLeavingWide_of_change_time (C := Try.checked) own started Try.func7
    (ChangeSpec.witness6c (enc := enc) (C := Try.checked) ⟨#[], #[.slice none 0 0, .agg #[.int .u32 0, .int .u32 0, .int .u16 0, .int .u16 0]], []⟩ 8 (by kernel_rfl) (by kernel_rfl) (by kernel_rfl) (by kernel_rfl)) ?_
  intro W base args ds gs before hval hW _ _ _
  refine leaving_row (t := 4) (by kernel_rfl) rfl (fun l hl => ?_) rfl Try.underlying4 laid (by kernel_rfl) hW (hnil_calls hval hW)
  match l, hl with
  | [_, _], _ => exact ⟨rfl, rfl, rfl⟩

theorem hnil_holds : Rows.HashNilSaid :=
  OpenClaim.holds_of_wide_leaving_time 7 Try.f7 rfl rfl rfl rfl rfl rfl rfl ⟨rfl, rfl, rfl, rfl, rfl⟩ rfl rfl rfl rfl rfl (by kernel_rfl) Try.func7 (by kernel_rfl)
    (of_decide_eq_true (by kernel_rfl)) (by unfold Func.isWrapper; first | (rw [if_pos (by decide +kernel)]; kernel_rfl) | (rw [if_neg (by decide +kernel)]; exact ⟨rfl, rfl⟩))
    (fun os started H enc _ F => hnil_lifted os started H enc F)
#print axioms hnil_holds
end Go.Proofs.Ytahoihfbjlgpgaa
