/- Contracts of functions of the program, or a row of the seat, proved out of them. No condition beyond those that stand in each statement. -/
import Derived.Test.YtlefpinmgabmfaaGreatSeE
import Derived.Test.YtlefpinmgabmfaaGreatS14pO
import Derived.Test.YtlefpinmgabmfaaGreatS14mE
namespace Go.Proofs.YtlefpinmgabmfaaGreat
open Go Go.Conc Go.SE Go.RowKit Go.WideShapes Go.ChangeShapes Go.Proofs.S14
set_option maxRecDepth 100000
set_option maxHeartbeats 4000000

theorem mgoes_calls {H : Type} {enc : TypeId × Value → H} {W : World} {base : Nat} {args : Array Value} {ds gs : List (DataW H)} {before : List MemPlace}
    (hval : ∀ (j : Nat) t v, Tryz.f3.params[j]? = some t → args[j]? = some v → Value.okWide Tryz.prog W .any base t v)
    (hW : DataW.Whole enc Tryz.prog Tryz.f3.params.toList Rows.muxGoesSpec.vars false W args.toList ds gs before) :
    Calls Tryz.prog 3 args W fun e w' => e = .returned (.bool true) ∧ Below W.heap.size W w' := by
  obtain ⟨ps, qs, hA0, hV, rfl, hfz, hnd⟩ := hW
  have hA : DataW.TrodAll enc Tryz.prog W 0 (fun _ => true) true Tryz.f3.params.toList args.toList ds ps := hA0
  rw [Tryz.params3] at hA hval
  obtain ⟨v0, vs0, d0, ds0, p0, q0, hargs, rfl, rfl, h0, r0⟩ := trodAll_cons hA
  obtain ⟨v1, vs1, d1, ds1, p1, q1, rfl, rfl, rfl, h1, r1⟩ := trodAll_cons r0
  obtain ⟨v2, vs2, d2, ds2, p2, q2, rfl, rfl, rfl, h2, r2⟩ := trodAll_cons r1
  obtain ⟨rfl, rfl, rfl⟩ := trodAll_nil r2
  obtain rfl : args = #[v0, v1, v2] := by cases args; simp_all
  obtain ⟨a0, w0, e0⟩ := open_cl (hval 0 28 v0 rfl rfl)
  obtain ⟨a1, rfl, b1, c1⟩ := open_num Tryz.underlying3 (hval 1 3 v1 rfl rfl)
  obtain ⟨L0, a2, w2, len2, e2⟩ := open_row Tryz.underlying29 Tryz.underlying5 cells5 (hval 2 29 v2 rfl rfl) h2
  let R : Rho := fun h => L0
  refine law_calls (M4.mgoes_con w0.tab.len w2) R (fun i r hi => ?_) ⟨e0 R, ⟨rfl, rfl⟩, (e2 R 0 rfl).1, trivial⟩
  cases i with
  | zero => simp at hi; subst hi; exact (e2 R 0 rfl).2
  | succ i =>
    simp at hi

theorem mgoes_lifted (os : Os) (started : os.Started) (H : Type) (enc : TypeId × Value → H) (F : Stop.Interp) :
    ReturnsInLeavingWide { calm := true } Tryz.checked os 3 .any (Rows.muxGoesSpec.pre6 enc Tryz.prog Tryz.f3 Rows.muxGoesRow.domain false) ((OpenSpec.ofChange Rows.muxGoesSpec).postWith enc Tryz.prog Tryz.f3 F (outsideKept [.timePasses]) false true false) := by
  refine returnsInLeavingWide_of_change_time (C := Tryz.checked) own started Tryz.func3
    (ChangeSpec.witness6c (enc := enc) (C := Tryz.checked) ⟨#[], #[.agg #[.bool false, .int .i64 0, .int .i64 0, .int .i64 0, .int .i64 0, .int .i64 0, .int .i64 0, .int .i64 0, .int .i64 0, .int .i64 0, .int .i64 0, .int .i64 0, .int .i64 0, .int .i64 0, .int .i64 0, .int .i64 0, .int .i64 0, .int .i64 0, .int .i64 0, .int .i64 0, .int .i64 0, .int .i64 0, .int .i64 0, .int .i64 0, .int .i64 0, .int .i64 0, .int .i64 0, .int .i64 0, .int .i64 0, .int .i64 0, .int .i64 0, .int .i64 0, .int .i64 0, .int .i64 0, .int .i64 0, .int .i64 0, .int .i64 0, .int .i64 0, .int .i64 0, .int .i64 0, .int .i64 0, .int .i64 0, .int .i64 0, .int .i64 0, .int .i64 0, .int .i64 0, .int .i64 0, .int .i64 0, .int .i64 0, .int .i64 0, .int .i64 0, .int .i64 0, .int .i64 0, .int .i64 0, .int .i64 0, .int .i64 0, .int .i64 0, .int .i64 0, .int .i64 0, .int .i64 0, .int .i64 0, .int .i64 0, .int .i64 0, .int .i64 0, .int .i64 0, .int .i64 0], .int .i64 0, .slice none 0 0], []⟩ 8 (by kernel_rfl) (by kernel_rfl) (by kernel_rfl) (by kernel_rfl)) ?_
  intro W base args ds gs before hval hW _ _ _
  refine leaving_row (t := 4) (by kernel_rfl) rfl (fun l hl => ?_) rfl Tryz.underlying4 laid (by kernel_rfl) hW (mgoes_calls hval hW)
  match l, hl with
  | [_, _, _], _ => exact ⟨rfl, rfl, rfl⟩

theorem mgoes_holds : Rows.MuxGoesSaid :=
  OpenClaim.holds_of_wide_leaving_time 3 Tryz.f3 rfl rfl rfl rfl rfl rfl rfl ⟨rfl, rfl, rfl, rfl, rfl⟩ rfl rfl rfl rfl rfl (by kernel_rfl) Tryz.func3 (by kernel_rfl)
    (of_decide_eq_true (by kernel_rfl)) (by unfold Func.isWrapper; first | (rw [if_pos (by decide +kernel)]; kernel_rfl) | (rw [if_neg (by decide +kernel)]; exact ⟨rfl, rfl⟩))
    (fun os started H enc _ F => mgoes_lifted os started H enc F)
#print axioms mgoes_holds
end Go.Proofs.YtlefpinmgabmfaaGreat
