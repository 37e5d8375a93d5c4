/- Contracts of functions of the program, or a row of the seat, proved out of them. No condition beyond those that stand in each statement. -/
import Derived.Test.YtahoihfbjlgpgaaSeE
import Derived.Test.YtahoihfbjlgpgaaS08gHo
import Derived.Test.YtahoihfbjlgpgaaS08gHj
namespace Go.Proofs.Ytahoihfbjlgpgaa
open Go Go.Conc Go.SE Go.RowKit Go.WideShapes Go.ChangeShapes Go.Proofs.S08
set_option maxRecDepth 100000
set_option maxHeartbeats 4000000

theorem htells_calls {H : Type} {enc : TypeId × Value → H} {W : World} {base : Nat} {args : Array Value} {ds gs : List (DataW H)} {before : List MemPlace}
    (hval : ∀ (j : Nat) t v, Try.f6.params[j]? = some t → args[j]? = some v → Value.okWide Try.prog W .any base t v)
    (hW : DataW.Whole enc Try.prog Try.f6.params.toList Rows.hashTellsSpec.vars false W args.toList ds gs before) :
    Calls Try.prog 6 args W fun e w' => e = .returned (.bool true) ∧ Below W.heap.size W w' := by
  obtain ⟨ps, qs, hA0, hV, rfl, hfz, hnd⟩ := hW
  have hA : DataW.TrodAll enc Try.prog W 0 (fun _ => true) true Try.f6.params.toList args.toList ds ps := hA0
  rw [Try.params6] at hA hval
  obtain ⟨v0, vs0, d0, ds0, p0, q0, hargs, rfl, rfl, h0, r0⟩ := trodAll_cons hA
  obtain ⟨v1, vs1, d1, ds1, p1, q1, rfl, rfl, rfl, h1, r1⟩ := trodAll_cons r0
  obtain ⟨v2, vs2, d2, ds2, p2, q2, rfl, rfl, rfl, h2, r2⟩ := trodAll_cons r1
  obtain ⟨v3, vs3, d3, ds3, p3, q3, rfl, rfl, rfl, h3, r3⟩ := trodAll_cons r2
  obtain ⟨v4, vs4, d4, ds4, p4, q4, rfl, rfl, rfl, h4, r4⟩ := trodAll_cons r3
  obtain ⟨v5, vs5, d5, ds5, p5, q5, rfl, rfl, rfl, h5, r5⟩ := trodAll_cons r4
  obtain ⟨rfl, rfl, rfl⟩ := trodAll_nil r5
  obtain rfl : args = #[v0, v1, v2, v3, v4, v5] := by cases args; simp_all
  obtain ⟨a0, rfl, b0, c0⟩ := open_num Try.underlying5 (hval 0 5 v0 rfl rfl)
  obtain ⟨a1, rfl, b1, c1⟩ := open_num Try.underlying5 (hval 1 5 v1 rfl rfl)
  obtain ⟨L0, a2, w2, len2, e2⟩ := open_row Try.underlying25 Try.underlying5 cells5 (hval 2 25 v2 rfl rfl) h2
  obtain ⟨a3, w3, e3⟩ := open_tu (hval 3 31 v3 rfl rfl)
  obtain ⟨a4, w4, e4⟩ := open_tu (hval 4 31 v4 rfl rfl)
  obtain ⟨L1, a5, w5, e5⟩ := open_apiTuple (hval 5 40 v5 rfl rfl) h5
  let R : Rho := fun h => bif Nat.beq h 0 then L0 else L1
  refine law_calls (htells_con ⟨b0, c0⟩ ⟨b1, c1⟩ w2 w3 w4 w5) R (fun i r hi => ?_) ⟨⟨rfl, rfl⟩, ⟨rfl, rfl⟩, (e2 R 0 rfl).1, e3 R, e4 R, (e5 R 1 rfl).1, trivial⟩
  cases i with
  | zero => simp at hi; subst hi; exact (e2 R 0 rfl).2
  | succ i =>
    cases i with
    | zero => simp at hi; subst hi; exact (e5 R 1 rfl).2
    | succ i =>
      simp at hi

theorem htells_lifted (os : Os) (started : os.Started) (H : Type) (enc : TypeId × Value → H) (F : Stop.Interp) :
    ReturnsInLeavingWide { calm := true } Try.checked os 6 .any (Rows.hashTellsSpec.pre6 enc Try.prog Try.f6 Rows.hashTellsRow.domain false) ((OpenSpec.ofChange Rows.hashTellsSpec).postWith enc Try.prog Try.f6 F (outsideKept [.timePasses]) false true false) := by
  refine returnsInLeavingWide_of_change_time (C := Try.checked) own started Try.func6
    (ChangeSpec.witness6c (enc := enc) (C := Try.checked) ⟨#[], #[.int .u8 0, .int .u8 0, .slice none 0 0, .agg #[.int .u32 0, .int .u32 0, .int .u16 0, .int .u16 0], .agg #[.int .u32 0, .int .u32 0, .int .u16 0, .int .u16 0], .slice none 0 0], []⟩ 8 (by kernel_rfl) (by kernel_rfl) (by kernel_rfl) (by kernel_rfl)) ?_
  intro W base args ds gs before hval hW _ _ _
  refine leaving_row (t := 4) (by kernel_rfl) rfl (fun l hl => ?_) rfl Try.underlying4 laid (by kernel_rfl) hW (htells_calls hval hW)
  match l, hl with
  | [_, _, _, _, _, _], _ => exact ⟨rfl, rfl, rfl⟩

theorem htells_holds : Rows.HashTellsSaid :=
  OpenClaim.holds_of_wide_leaving_time 6 Try.f6 rfl rfl rfl rfl rfl rfl rfl ⟨rfl, rfl, rfl, rfl, rfl⟩ rfl rfl rfl rfl rfl (by kernel_rfl) Try.func6 (by kernel_rfl)
    (of_decide_eq_true (by kernel_rfl)) (by unfold Func.isWrapper; first | (rw [if_pos (by decide +kernel)]; kernel_rfl) | (rw [if_neg (by decide +kernel)]; exact ⟨rfl, rfl⟩))
    (fun os started H enc _ F => htells_lifted os started H enc F)
#print axioms htells_holds
end Go.Proofs.Ytahoihfbjlgpgaa
