/- Contracts of functions of the program, or a row of the seat, proved out of them. No condition beyond those that stand in each statement. -/
import Derived.Test.YtcnijhilkemplaaS07h7O
import Derived.Test.YtcnijhilkemplaaS07h7J
namespace Go.Proofs.Ytcnijhilkemplaa
open Go Go.SE Go.RowKit Go.WideShapes Go.ChangeShapes Go.Proofs.S07
set_option maxRecDepth 100000
set_option maxHeartbeats 4000000

theorem eown_calls {H : Type} {enc : TypeId × Value → H} {W : World} {base : Nat} {args : Array Value} {ds gs : List (DataW H)} {before : List MemPlace}
    (hval : ∀ (j : Nat) t v, Try.f7.params[j]? = some t → args[j]? = some v → Value.okWide Try.prog W .any base t v)
    (hW : DataW.Whole enc Try.prog Try.f7.params.toList Rows.encapOwnSpec.vars false W args.toList ds gs before) :
    Calls Try.prog 7 args W fun e w' => e = .returned (.bool true) ∧ Below W.heap.size W w' := by
  obtain ⟨ps, qs, hA0, hV, rfl, hfz, hnd⟩ := hW
  have hA : DataW.TrodAll enc Try.prog W 0 (fun _ => true) true Try.f7.params.toList args.toList ds ps := hA0
  rw [Try.params7] at hA hval
  obtain ⟨v0, vs0, d0, ds0, p0, q0, hargs, rfl, rfl, h0, r0⟩ := trodAll_cons hA
  obtain ⟨v1, vs1, d1, ds1, p1, q1, rfl, rfl, rfl, h1, r1⟩ := trodAll_cons r0
  obtain ⟨rfl, rfl, rfl⟩ := trodAll_nil r1
  obtain rfl : args = #[v0, v1] := by cases args; simp_all
  obtain ⟨L0, a0, w0, e0⟩ := open_wr (hval 0 29 v0 rfl rfl) h0
  obtain ⟨a1, rfl, b1, c1⟩ := open_num Try.underlying3 (hval 1 3 v1 rfl rfl)
  let R : Rho := fun h => L0
  refine law_calls (E7.own_law_con w0 ⟨b1, c1⟩) R (fun i r hi => ?_) ⟨(e0 R 0 rfl).1, ⟨rfl, rfl⟩, trivial⟩
  cases i with
  | zero => simp at hi; subst hi; exact (e0 R 0 rfl).2
  | succ i =>
    simp at hi

theorem eown_lifted (os : Os) (started : os.Started) (H : Type) (enc : TypeId × Value → H) :
    ReturnsInHanded {} Try.checked os 7 .any (Rows.encapOwnSpec.pre6 enc Try.prog Try.f7 Rows.encapOwnRow.domain false) (Rows.encapOwnSpec.post enc Try.prog Try.f7 false true false false) := by
  refine returnsInHanded_of_change (C := Try.checked) own started (by kernel_rfl) Try.func7
    (ChangeSpec.witness6 (enc := enc) (C := Try.checked) false ⟨#[], #[.agg #[.int .u8 0, .int .i64 0, .int .u8 0, .int .i64 0, .int .u8 0, .int .u8 0, .int .i64 0, .int .i64 0, .int .i64 0, .int .i64 0, .slice none 0 0], .int .i64 0], []⟩ 8 (by kernel_rfl) (by kernel_rfl) (by kernel_rfl) (by kernel_rfl)) ?_
  intro W base args ds gs before hval hW _ _
  refine law_row (t := 4) rfl (fun l hl => ?_) rfl Try.underlying4 laid (by kernel_rfl) hW (eown_calls hval hW)
  match l, hl with
  | [_, _], _ => exact ⟨rfl, rfl, rfl⟩

theorem eown_holds : Rows.EncapOwnSaid :=
  OpenClaim.holds_of_wide 7 Try.f7 rfl rfl rfl rfl rfl rfl rfl ⟨rfl, rfl, rfl, rfl, rfl⟩ rfl rfl rfl rfl rfl (by kernel_rfl) Try.func7 (by kernel_rfl)
    (of_decide_eq_true (by kernel_rfl)) (by unfold Func.isWrapper; first | (rw [if_pos (by decide +kernel)]; kernel_rfl) | (rw [if_neg (by decide +kernel)]; exact ⟨rfl, rfl⟩))
    (fun os started H enc _ => eown_lifted os started H enc)
#print axioms eown_holds
end Go.Proofs.Ytcnijhilkemplaa
