/- Contracts of functions of the program, or a row of the seat, proved out of them. No condition beyond those that stand in each statement. -/
import Derived.Test.YtooempepoejmhaaP5J
import Derived.Test.YtooempepoejmhaaP5E
namespace Go.Proofs.Ytooempepoejmhaa
open Go Go.SE Go.RowKit Go.WideShapes Go.ChangeShapes Go.Proofs.P5
set_option maxRecDepth 100000
set_option maxHeartbeats 4000000

theorem tells_calls {H : Type} {enc : TypeId × Value → H} {W : World} {base : Nat} {args : Array Value} {ds gs : List (DataW H)} {before : List MemPlace}
    (hval : ∀ (j : Nat) t v, Try.f3.params[j]? = some t → args[j]? = some v → Value.okWide Try.prog W .any base t v)
    (hW : DataW.Whole enc Try.prog Try.f3.params.toList Rows.packetTellsSpec.vars false W args.toList ds gs before) :
    Calls Try.prog 3 args W fun e w' => e = .returned (.bool true) ∧ Below W.heap.size W w' := by
  obtain ⟨ps, qs, hA0, hV, rfl, hfz, hnd⟩ := hW
  have hA : DataW.TrodAll enc Try.prog W 0 (fun _ => true) true Try.f3.params.toList args.toList ds ps := hA0
  rw [Try.params3] at hA hval
  obtain ⟨v0, vs0, d0, ds0, p0, q0, hargs, rfl, rfl, h0, r0⟩ := trodAll_cons hA
  obtain ⟨v1, vs1, d1, ds1, p1, q1, rfl, rfl, rfl, h1, r1⟩ := trodAll_cons r0
  obtain ⟨v2, vs2, d2, ds2, p2, q2, rfl, rfl, rfl, h2, r2⟩ := trodAll_cons r1
  obtain ⟨v3, vs3, d3, ds3, p3, q3, rfl, rfl, rfl, h3, r3⟩ := trodAll_cons r2
  obtain ⟨v4, vs4, d4, ds4, p4, q4, rfl, rfl, rfl, h4, r4⟩ := trodAll_cons r3
  obtain ⟨v5, vs5, d5, ds5, p5, q5, rfl, rfl, rfl, h5, r5⟩ := trodAll_cons r4
  obtain ⟨rfl, rfl, rfl⟩ := trodAll_nil r5
  obtain rfl : args = #[v0, v1, v2, v3, v4, v5] := by cases args; simp_all
  obtain ⟨L0, l, hl, _, e0⟩ := open_row Try.underlying22 Try.underlying5 cells5 (hval 0 22 v0 rfl rfl) h0
  obtain ⟨t, ht, e1⟩ := open_tu (hval 1 26 v1 rfl rfl)
  obtain ⟨f, rfl, f0, f1⟩ := open_num Try.underlying5 (hval 2 5 v2 rfl rfl)
  obtain ⟨L1, d, hd, _, e3⟩ := open_row Try.underlying22 Try.underlying5 cells5 (hval 3 22 v3 rfl rfl) h3
  obtain ⟨L2, p, hp, e4⟩ := open_pk (hval 4 28 v4 rfl rfl) h4
  obtain ⟨L3, q, hq, e5⟩ := open_pk (hval 5 28 v5 rfl rfl) h5
  let R : Rho := fun h => bif Nat.beq h 0 then L0 else bif Nat.beq h 1 then L1 else bif Nat.beq h 2 then L2 else L3
  refine law_calls (tells_con ht ⟨f0, f1⟩ hp hq hl hd) R (fun i r hi => ?_) ⟨(e0 R 0 rfl).1, e1 R, ⟨rfl, rfl⟩, (e3 R 1 rfl).1, (e4 R 2 rfl).1, (e5 R 3 rfl).1, trivial⟩
  cases i with
  | zero => simp at hi; subst hi; exact (e0 R 0 rfl).2
  | succ i =>
    cases i with
    | zero => simp at hi; subst hi; exact (e3 R 1 rfl).2
    | succ i =>
      cases i with
      | zero => simp at hi; subst hi; exact (e4 R 2 rfl).2
      | succ i =>
        cases i with
        | zero => simp at hi; subst hi; exact (e5 R 3 rfl).2
        | succ i =>
          simp at hi

theorem tells_lifted (os : Os) (started : os.Started) (H : Type) (enc : TypeId × Value → H) :
    ReturnsInHanded {} Try.checked os 3 .any (Rows.packetTellsSpec.pre6 enc Try.prog Try.f3 Rows.packetTellsRow.domain false) (Rows.packetTellsSpec.post enc Try.prog Try.f3 false true false false) := by
  refine returnsInHanded_of_change (C := Try.checked) own started (by kernel_rfl) Try.func3
    (ChangeSpec.witness6 (enc := enc) (C := Try.checked) false ⟨#[], #[.slice none 0 0, .agg #[.int .u32 0, .int .u32 0, .int .u16 0, .int .u16 0], .int .u8 0, .slice none 0 0, .agg #[.int .u32 0, .int .u32 0, .int .u16 0, .int .u16 0, .int .u8 0, .slice none 0 0], .agg #[.int .u32 0, .int .u32 0, .int .u16 0, .int .u16 0, .int .u8 0, .slice none 0 0]], []⟩ 8 (by kernel_rfl) (by kernel_rfl) (by kernel_rfl) (by kernel_rfl)) ?_
  intro W base args ds gs before hval hW _ _
  refine law_row (t := 4) rfl (fun l hl => ?_) rfl Try.underlying4 laid (by kernel_rfl) hW (tells_calls hval hW)
  match l, hl with
  | [_, _, _, _, _, _], _ => exact ⟨rfl, rfl, rfl⟩

theorem tells_holds : Rows.PacketTellsSaid :=
  OpenClaim.holds_of_wide 3 Try.f3 rfl rfl rfl rfl rfl rfl rfl ⟨rfl, rfl, rfl, rfl, rfl⟩ rfl rfl rfl rfl rfl (by kernel_rfl) Try.func3 (by kernel_rfl)
    (of_decide_eq_true (by kernel_rfl)) (by unfold Func.isWrapper; first | (rw [if_pos (by decide +kernel)]; kernel_rfl) | (rw [if_neg (by decide +kernel)]; exact ⟨rfl, rfl⟩))
    (fun os started H enc _ => tells_lifted os started H enc)
#print axioms tells_holds
end Go.Proofs.Ytooempepoejmhaa
