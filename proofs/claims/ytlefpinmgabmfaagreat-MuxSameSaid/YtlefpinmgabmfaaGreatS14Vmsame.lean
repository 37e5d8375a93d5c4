/- Contracts of functions of the program, or a row of the seat, proved out of them. No condition beyond those that stand in each statement. -/
import Derived.Test.YtlefpinmgabmfaaGreatSeE
import Derived.Test.YtlefpinmgabmfaaGreatS14pO
import Derived.Test.YtlefpinmgabmfaaGreatS14mD
namespace Go.Proofs.YtlefpinmgabmfaaGreat
open Go Go.Conc Go.SE Go.RowKit Go.WideShapes Go.ChangeShapes Go.Proofs.S14
set_option maxRecDepth 100000
set_option maxHeartbeats 4000000

theorem msame_calls {H : Type} {enc : TypeId × Value → H} {W : World} {base : Nat} {args : Array Value} {ds gs : List (DataW H)} {before : List MemPlace}
    (hval : ∀ (j : Nat) t v, Tryz.f4.params[j]? = some t → args[j]? = some v → Value.okWide Tryz.prog W .any base t v)
    (hW : DataW.Whole enc Tryz.prog Tryz.f4.params.toList Rows.muxSameSpec.vars false W args.toList ds gs before) :
    Calls Tryz.prog 4 args W fun e w' => e = .returned (.bool true) ∧ Below W.heap.size W w' := by
  obtain ⟨ps, qs, hA0, hV, rfl, hfz, hnd⟩ := hW
  have hA : DataW.TrodAll enc Tryz.prog W 0 (fun _ => true) true Tryz.f4.params.toList args.toList ds ps := hA0
  rw [Tryz.params4] at hA hval
  obtain ⟨v0, vs0, d0, ds0, p0, q0, hargs, rfl, rfl, h0, r0⟩ := trodAll_cons hA
  obtain ⟨v1, vs1, d1, ds1, p1, q1, rfl, rfl, rfl, h1, r1⟩ := trodAll_cons r0
  obtain ⟨v2, vs2, d2, ds2, p2, q2, rfl, rfl, rfl, h2, r2⟩ := trodAll_cons r1
  obtain ⟨v3, vs3, d3, ds3, p3, q3, rfl, rfl, rfl, h3, r3⟩ := trodAll_cons r2
  obtain ⟨rfl, rfl, rfl⟩ := trodAll_nil r3
  obtain rfl : args = #[v0, v1, v2, v3] := by cases args; simp_all
  obtain ⟨a0, w0, e0⟩ := open_cl (hval 0 28 v0 rfl rfl)
  obtain ⟨a1, rfl, b1, c1⟩ := open_num Tryz.underlying3 (hval 1 3 v1 rfl rfl)
  obtain ⟨a2, rfl, b2, c2⟩ := open_num Tryz.underlying3 (hval 2 3 v2 rfl rfl)
  obtain ⟨L0, a3, w3, len3, e3⟩ := open_row Tryz.underlying29 Tryz.underlying5 cells5 (hval 3 29 v3 rfl rfl) h3
  let R : Rho := fun h => L0
  refine law_calls (M4.msame_con w0.tab.len w3) R (fun i r hi => ?_) ⟨e0 R, ⟨rfl, rfl⟩, ⟨rfl, rfl⟩, (e3 R 0 rfl).1, trivial⟩
  cases i with
  | zero => simp at hi; subst hi; exact (e3 R 0 rfl).2
  | succ i =>
    simp at hi

theorem msame_lifted (os : Os) (started : os.Started) (H : Type) (enc : TypeId × Value → H) (F : Stop.Interp) :
    ReturnsInLeavingWide { calm := true } Tryz.checked os 4 .any (Rows.muxSameSpec.pre6 enc Tryz.prog Tryz.f4 Rows.muxSameRow.domain false) ((OpenSpec.ofChange Rows.muxSameSpec).postWith enc Tryz.prog Tryz.f4 F (outsideKept [.timePasses]) false true false) := by
  refine returnsInLeavingWide_of_change_time (C := Tryz.checked) own started Tryz.func4
    (ChangeSpec.witness6c (enc := enc) (C := Tryz.checked) ⟨#[], #[.agg #[.bool false, .int .i64 0, .int .i64 0, .int .i64 0, .int .i64 0, .int .i64 0, .int .i64 0, .int .i64 0, .int .i64 0, .int .i64 0, .int .i64 0, .int .i64 0, .int .i64 0, .int .i64 0, .int .i64 0, .int .i64 0, .int .i64 0, .int .i64 0, .int .i64 0, .int .i64 0, .int .i64 0, .int .i64 0, .int .i64 0, .int .i64 0, .int .i64 0, .int .i64 0, .int .i64 0, .int .i64 0, .int .i64 0, .int .i64 0, .int .i64 0, .int .i64 0, .int .i64 0, .int .i64 0, .int .i64 0, .int .i64 0, .int .i64 0, .int .i64 0, .int .i64 0, .int .i64 0, .int .i64 0, .int .i64 0, .int .i64 0, .int .i64 0, .int .i64 0, .int .i64 0, .int .i64 0, .int .i64 0, .int .i64 0, .int .i64 0, .int .i64 0, .int .i64 0, .int .i64 0, .int .i64 0, .int .i64 0, .int .i64 0, .int .i64 0, .int .i64 0, .int .i64 0, .int .i64 0, .int .i64 0, .int .i64 0, .int .i64 0, .int .i64 0, .int .i64 0, .int .i64 0], .int .i64 0, .int .i64 0, .slice none 0 0], []⟩ 8 (by kernel_rfl) (by kernel_rfl) (by kernel_rfl) (by kernel_rfl)) ?_
  intro W base args ds gs before hval hW _ _ _
  refine leaving_row (t := 4) (by kernel_rfl) rfl (fun l hl => ?_) rfl Tryz.underlying4 laid (by kernel_rfl) hW (msame_calls hval hW)
  match l, hl with
  | [_, _, _, _], _ => exact ⟨rfl, rfl, rfl⟩

theorem msame_holds : Rows.MuxSameSaid :=
  OpenClaim.holds_of_wide_leaving_time 4 Tryz.f4 rfl rfl rfl rfl rfl rfl rfl ⟨rfl, rfl, rfl, rfl, rfl⟩ rfl rfl rfl rfl rfl (by kernel_rfl) Tryz.func4 (by kernel_rfl)
    (of_decide_eq_true (by kernel_rfl)) (by unfold Func.isWrapper; first | (rw [if_pos (by decide +kernel)]; kernel_rfl) | (rw [if_neg (by decide +kernel)]; exact ⟨rfl, rfl⟩))
    (fun os started H enc _ F => msame_lifted os started H enc F)
#print axioms msame_holds
end Go.Proofs.YtlefpinmgabmfaaGreat
