/- Contracts of functions of the program, or a row of the seat, proved out of them. No condition beyond those that stand in each statement. -/
import Derived.Test.YtbeopajnlenglaaL2U
namespace Go.Proofs.Ytbeopajnlenglaa
open Go Go.SE Go.RowKit Go.WideShapes Go.ChangeShapes Go.Proofs.L2
set_option maxRecDepth 100000
set_option maxHeartbeats 4000000

theorem reasons_calls {H : Type} {enc : TypeId × Value → H} {W : World} {base : Nat} {args : Array Value} {ds gs : List (DataW H)} {before : List MemPlace}
    (hval : ∀ (j : Nat) t v, Try.f6.params[j]? = some t → args[j]? = some v → Value.okWide Try.prog W .any base t v)
    (hW : DataW.Whole enc Try.prog Try.f6.params.toList Rows.ipReasonsSpec.vars false W args.toList ds gs before) :
    Calls Try.prog 6 args W fun e w' => e = .returned (.bool true) ∧ Below W.heap.size W w' := by
  obtain ⟨p, q, hA0, hV, rfl, hfz, hnd⟩ := hW
  have hA : DataW.TrodAll enc Try.prog W 0 (fun _ => true) true Try.f6.params.toList args.toList ds p := hA0
  rw [Try.params6] at hA hval
  obtain ⟨v0, vs0, d0, ds0, p0, q0, hargs, rfl, rfl, h0, r0⟩ := trodAll_cons hA
  obtain ⟨v1, vs1, d1, ds1, p1, q1, rfl, rfl, rfl, h1, r1⟩ := trodAll_cons r0
  obtain ⟨v2, vs2, d2, ds2, p2, q2, rfl, rfl, rfl, h2, r2⟩ := trodAll_cons r1
  obtain ⟨v3, vs3, d3, ds3, p3, q3, rfl, rfl, rfl, h3, r3⟩ := trodAll_cons r2
  obtain ⟨rfl, rfl, rfl⟩ := trodAll_nil r3
  obtain rfl : args = #[v0, v1, v2, v3] := by cases args; simp_all
  obtain ⟨L0, L1, t, ht, e0⟩ := open_hd (hval 0 26 v0 rfl rfl) h0
  obtain ⟨n, rfl, n0, n1⟩ := open_num Try.underlying3 (hval 1 3 v1 rfl rfl)
  obtain ⟨w, rfl, w0, w1⟩ := open_num Try.underlying5 (hval 2 5 v2 rfl rfl)
  obtain ⟨f, rfl, f0, f1⟩ := open_num Try.underlying22 (hval 3 22 v3 rfl rfl)
  let R : Rho := fun h => bif Nat.beq h 0 then L0 else L1
  refine law_calls (reasons_con ht ⟨n0, n1⟩ ⟨w0, w1⟩ ⟨f0, f1⟩) R (fun i r hi => ?_) ⟨(e0 R 0 1 rfl rfl).1, ⟨rfl, rfl⟩, ⟨rfl, rfl⟩, ⟨rfl, rfl⟩, trivial⟩
  cases i with
  | zero => simp at hi; subst hi; exact (e0 R 0 1 rfl rfl).2.1
  | succ i =>
    cases i with
    | zero => simp at hi; subst hi; exact (e0 R 0 1 rfl rfl).2.2
    | succ i =>
      simp at hi

theorem reasons_lifted (os : Os) (started : os.Started) (H : Type) (enc : TypeId × Value → H) :
    ReturnsInHanded {} Try.checked os 6 .any (Rows.ipReasonsSpec.pre6 enc Try.prog Try.f6 Rows.ipReasonsRow.domain false) (Rows.ipReasonsSpec.post enc Try.prog Try.f6 false true false false) := by
  refine returnsInHanded_of_change (C := Try.checked) own started (by kernel_rfl) Try.func6
    (ChangeSpec.witness6 (enc := enc) (C := Try.checked) false ⟨#[], #[.agg #[.int .u8 0, .int .u16 0, .int .u16 0, .int .u8 0, .int .u8 0, .int .u32 0, .int .u32 0, .slice none 0 0, .slice none 0 0], .int .i64 0, .int .u8 0, .int .u16 0], []⟩ 8 (by kernel_rfl) (by kernel_rfl) (by kernel_rfl) (by kernel_rfl)) ?_
  intro W base args ds gs before hval hW _ _
  refine law_row (t := 4) rfl (fun l hl => ?_) rfl Try.underlying4 laid (by kernel_rfl) hW (reasons_calls hval hW)
  match l, hl with
  | [_, _, _, _], _ => exact ⟨rfl, rfl, rfl⟩

theorem reasons_holds : Rows.IpReasonsSaid :=
  OpenClaim.holds_of_wide 6 Try.f6 rfl rfl rfl rfl rfl rfl rfl ⟨rfl, rfl, rfl, rfl, rfl⟩ rfl rfl rfl rfl rfl (by kernel_rfl) Try.func6 (by kernel_rfl)
    (of_decide_eq_true (by kernel_rfl)) (by unfold Func.isWrapper; first | (rw [if_pos (by decide +kernel)]; kernel_rfl) | (rw [if_neg (by decide +kernel)]; exact ⟨rfl, rfl⟩))
    (fun os started H enc _ => reasons_lifted os started H enc)
#print axioms reasons_holds
end Go.Proofs.Ytbeopajnlenglaa
