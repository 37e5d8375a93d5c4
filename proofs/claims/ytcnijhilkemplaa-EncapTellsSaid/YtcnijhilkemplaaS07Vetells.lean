/- Contracts of functions of the program, or a row of the seat, proved out of them. No condition beyond those that stand in each statement. -/
import Derived.Test.YtcnijhilkemplaaS07h7O
import Derived.Test.YtcnijhilkemplaaS07h7H
namespace Go.Proofs.Ytcnijhilkemplaa
open Go Go.SE Go.RowKit Go.WideShapes Go.ChangeShapes Go.Proofs.S07
set_option maxRecDepth 100000
set_option maxHeartbeats 4000000

theorem etells_calls {H : Type} {enc : TypeId × Value → H} {W : World} {base : Nat} {args : Array Value} {ds gs : List (DataW H)} {before : List MemPlace}
    (hval : ∀ (j : Nat) t v, Try.f3.params[j]? = some t → args[j]? = some v → Value.okWide Try.prog W .any base t v)
    (hW : DataW.Whole enc Try.prog Try.f3.params.toList Rows.encapTellsSpec.vars false W args.toList ds gs before) :
    Calls Try.prog 3 args W fun e w' => e = .returned (.bool true) ∧ Below W.heap.size W w' := by
  obtain ⟨ps, qs, hA0, hV, rfl, hfz, hnd⟩ := hW
  have hA : DataW.TrodAll enc Try.prog W 0 (fun _ => true) true Try.f3.params.toList args.toList ds ps := hA0
  rw [Try.params3] at hA hval
  obtain ⟨v0, vs0, d0, ds0, p0, q0, hargs, rfl, rfl, h0, r0⟩ := trodAll_cons hA
  obtain ⟨v1, vs1, d1, ds1, p1, q1, rfl, rfl, rfl, h1, r1⟩ := trodAll_cons r0
  obtain ⟨v2, vs2, d2, ds2, p2, q2, rfl, rfl, rfl, h2, r2⟩ := trodAll_cons r1
  obtain ⟨v3, vs3, d3, ds3, p3, q3, rfl, rfl, rfl, h3, r3⟩ := trodAll_cons r2
  obtain ⟨v4, vs4, d4, ds4, p4, q4, rfl, rfl, rfl, h4, r4⟩ := trodAll_cons r3
  obtain ⟨rfl, rfl, rfl⟩ := trodAll_nil r4
  obtain rfl : args = #[v0, v1, v2, v3, v4] := by cases args; simp_all
  obtain ⟨a0, w0, e0⟩ := open_nd (hval 0 23 v0 rfl rfl)
  obtain ⟨a1, rfl, b1, c1⟩ := open_num Try.underlying24 (hval 1 24 v1 rfl rfl)
  obtain ⟨L0, a2, w2, e2⟩ := open_wr (hval 2 29 v2 rfl rfl) h2
  obtain ⟨L1, a3, w3, e3⟩ := open_wr (hval 3 29 v3 rfl rfl) h3
  obtain ⟨L2, a4, w4, len4, e4⟩ := open_row Try.underlying27 Try.underlying5 cells5 (hval 4 27 v4 rfl rfl) h4
  let R : Rho := fun h => bif Nat.beq h 0 then L0 else bif Nat.beq h 1 then L1 else L2
  refine law_calls (E7.tells_con w0 ⟨b1, c1⟩ w2 w3 w4) R (fun i r hi => ?_) ⟨e0 R, ⟨rfl, rfl⟩, (e2 R 0 rfl).1, (e3 R 1 rfl).1, (e4 R 2 rfl).1, trivial⟩
  cases i with
  | zero => simp at hi; subst hi; exact (e2 R 0 rfl).2
  | succ i =>
    cases i with
    | zero => simp at hi; subst hi; exact (e3 R 1 rfl).2
    | succ i =>
      cases i with
      | zero => simp at hi; subst hi; exact (e4 R 2 rfl).2
      | succ i =>
        simp at hi

theorem etells_lifted (os : Os) (started : os.Started) (H : Type) (enc : TypeId × Value → H) :
    ReturnsInHanded {} Try.checked os 3 .any (Rows.encapTellsSpec.pre6 enc Try.prog Try.f3 Rows.encapTellsRow.domain false) (Rows.encapTellsSpec.post enc Try.prog Try.f3 false true false false) := by
  refine returnsInHanded_of_change (C := Try.checked) own started (by kernel_rfl) Try.func3
    (ChangeSpec.witness6 (enc := enc) (C := Try.checked) false ⟨#[], #[.agg #[.int .u8 0, .int .i64 0], .int .u32 0, .agg #[.int .u8 0, .int .i64 0, .int .u8 0, .int .i64 0, .int .u8 0, .int .u8 0, .int .i64 0, .int .i64 0, .int .i64 0, .int .i64 0, .slice none 0 0], .agg #[.int .u8 0, .int .i64 0, .int .u8 0, .int .i64 0, .int .u8 0, .int .u8 0, .int .i64 0, .int .i64 0, .int .i64 0, .int .i64 0, .slice none 0 0], .slice none 0 0], []⟩ 8 (by kernel_rfl) (by kernel_rfl) (by kernel_rfl) (by kernel_rfl)) ?_
  intro W base args ds gs before hval hW _ _
  refine law_row (t := 4) rfl (fun l hl => ?_) rfl Try.underlying4 laid (by kernel_rfl) hW (etells_calls hval hW)
  match l, hl with
  | [_, _, _, _, _], _ => exact ⟨rfl, rfl, rfl⟩

theorem etells_holds : Rows.EncapTellsSaid :=
  OpenClaim.holds_of_wide 3 Try.f3 rfl rfl rfl rfl rfl rfl rfl ⟨rfl, rfl, rfl, rfl, rfl⟩ rfl rfl rfl rfl rfl (by kernel_rfl) Try.func3 (by kernel_rfl)
    (of_decide_eq_true (by kernel_rfl)) (by unfold Func.isWrapper; first | (rw [if_pos (by decide +kernel)]; kernel_rfl) | (rw [if_neg (by decide +kernel)]; exact ⟨rfl, rfl⟩))
    (fun os started H enc _ => etells_lifted os started H enc)
#print axioms etells_holds
end Go.Proofs.Ytcnijhilkemplaa
