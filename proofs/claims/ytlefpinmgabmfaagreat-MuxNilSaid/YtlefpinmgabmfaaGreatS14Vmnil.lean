/- Contracts of functions of the program, or a row of the seat, proved out of them. No condition beyond those that stand in each statement. -/
import Derived.Test.YtlefpinmgabmfaaGreatSeE
import Derived.Test.YtlefpinmgabmfaaGreatS14pO
import Derived.Test.YtlefpinmgabmfaaGreatS14mO
namespace Go.Proofs.YtlefpinmgabmfaaGreat
open Go Go.Conc Go.SE Go.RowKit Go.WideShapes Go.ChangeShapes Go.Proofs.S14
set_option maxRecDepth 100000
set_option maxHeartbeats 4000000

theorem mnil_calls {H : Type} {enc : TypeId × Value → H} {W : World} {base : Nat} {args : Array Value} {ds gs : List (DataW H)} {before : List MemPlace}
    (hval : ∀ (j : Nat) t v, Tryz.f7.params[j]? = some t → args[j]? = some v → Value.okWide Tryz.prog W .any base t v)
    (hW : DataW.Whole enc Tryz.prog Tryz.f7.params.toList Rows.muxNilSpec.vars false W args.toList ds gs before) :
    Calls Tryz.prog 7 args W fun e w' => e = .returned (.bool true) ∧ Below W.heap.size W w' := by
  obtain ⟨ps, qs, hA0, hV, rfl, hfz, hnd⟩ := hW
  have hA : DataW.TrodAll enc Tryz.prog W 0 (fun _ => true) true Tryz.f7.params.toList args.toList ds ps := hA0
  rw [Tryz.params7] at hA hval
  obtain ⟨v0, vs0, d0, ds0, p0, q0, hargs, rfl, rfl, h0, r0⟩ := trodAll_cons hA
  obtain ⟨v1, vs1, d1, ds1, p1, q1, rfl, rfl, rfl, h1, r1⟩ := trodAll_cons r0
  obtain ⟨rfl, rfl, rfl⟩ := trodAll_nil r1
  obtain rfl : args = #[v0, v1] := by cases args; simp_all
  obtain ⟨L0, a0, w0, len0, e0⟩ := open_row Tryz.underlying29 Tryz.underlying5 cells5 (hval 0 29 v0 rfl rfl) h0
  obtain ⟨L1, a1, w1, e1⟩ := open_uint8 (hval 1 56 v1 rfl rfl) h1
  let R : Rho := fun h => bif Nat.beq h 0 then L0 else L1
  refine law_calls (M4.mnil_con (b := a0) (l := a1)) R (fun i r hi => ?_) ⟨(e0 R 0 rfl).1, (e1 R 1 rfl).1, trivial⟩
  cases i with
  | zero => simp at hi; subst hi; exact (e0 R 0 rfl).2
  | succ i =>
    cases i with
    | zero => simp at hi; subst hi; exact (e1 R 1 rfl).2
    | succ i =>
      simp at hi

theorem mnil_lifted (os : Os) (started : os.Started) (H : Type) (enc : TypeId × Value → H) (F : Stop.Interp) :
    ReturnsInLeavingWide { calm := true } Tryz.checked os 7 .any (Rows.muxNilSpec.pre6 enc Tryz.prog Tryz.f7 Rows.muxNilRow.domain false) ((OpenSpec.ofChange Rows.muxNilSpec).postWith enc Tryz.prog Tryz.f7 F (outsideKept [.timePasses]) false true false) := by
  refine returnsInLeavingWide_of_change_time (C := Tryz.checked) own started Tryz.func7
    (ChangeSpec.witness6c (enc := enc) (C := Tryz.checked) ⟨#[], #[.slice none 0 0, .slice none 0 0], []⟩ 8 (by kernel_rfl) (by kernel_rfl) (by kernel_rfl) (by kernel_rfl)) ?_
  intro W base args ds gs before hval hW _ _ _
  refine leaving_row (t := 4) (by kernel_rfl) rfl (fun l hl => ?_) rfl Tryz.underlying4 laid (by kernel_rfl) hW (mnil_calls hval hW)
  match l, hl with
  | [_, _], _ => exact ⟨rfl, rfl, rfl⟩

theorem mnil_holds : Rows.MuxNilSaid :=
  OpenClaim.holds_of_wide_leaving_time 7 Tryz.f7 rfl rfl rfl rfl rfl rfl rfl ⟨rfl, rfl, rfl, rfl, rfl⟩ rfl rfl rfl rfl rfl (by kernel_rfl) Tryz.func7 (by kernel_rfl)
    (of_decide_eq_true (by kernel_rfl)) (by unfold Func.isWrapper; first | (rw [if_pos (by decide +kernel)]; kernel_rfl) | (rw [if_neg (by decide +kernel)]; exact ⟨rfl, rfl⟩))
    (fun os started H enc _ F => mnil_lifted os started H enc F)
#print axioms mnil_holds
end Go.Proofs.YtlefpinmgabmfaaGreat
