/- Contracts of functions of the program, or a row of the seat, proved out of them. No condition beyond those that stand in each statement. -/
import Derived.Test.YtooempepoejmhaaP5J
import Derived.Test.YtooempepoejmhaaP5I
namespace Go.Proofs.Ytooempepoejmhaa
open Go Go.SE Go.RowKit Go.WideShapes Go.ChangeShapes Go.Proofs.P5
set_option maxRecDepth 100000
set_option maxHeartbeats 4000000

theorem back_calls {H : Type} {enc : TypeId × Value → H} {W : World} {base : Nat} {args : Array Value} {ds gs : List (DataW H)} {before : List MemPlace}
    (hval : ∀ (j : Nat) t v, Try.f4.params[j]? = some t → args[j]? = some v → Value.okWide Try.prog W .any base t v)
    (hW : DataW.Whole enc Try.prog Try.f4.params.toList Rows.packetBackSpec.vars false W args.toList ds gs before) :
    Calls Try.prog 4 args W fun e w' => e = .returned (.bool true) ∧ Below W.heap.size W w' := by
  obtain ⟨ps, qs, hA0, hV, rfl, hfz, hnd⟩ := hW
  have hA : DataW.TrodAll enc Try.prog W 0 (fun _ => true) true Try.f4.params.toList args.toList ds ps := hA0
  rw [Try.params4] at hA hval
  obtain ⟨v0, vs0, d0, ds0, p0, q0, hargs, rfl, rfl, h0, r0⟩ := trodAll_cons hA
  obtain ⟨v1, vs1, d1, ds1, p1, q1, rfl, rfl, rfl, h1, r1⟩ := trodAll_cons r0
  obtain ⟨v2, vs2, d2, ds2, p2, q2, rfl, rfl, rfl, h2, r2⟩ := trodAll_cons r1
  obtain ⟨v3, vs3, d3, ds3, p3, q3, rfl, rfl, rfl, h3, r3⟩ := trodAll_cons r2
  obtain ⟨rfl, rfl, rfl⟩ := trodAll_nil r3
  obtain rfl : args = #[v0, v1, v2, v3] := by cases args; simp_all
  obtain ⟨t, ht, e0⟩ := open_tu (hval 0 26 v0 rfl rfl)
  obtain ⟨f, rfl, f0, f1⟩ := open_num Try.underlying5 (hval 1 5 v1 rfl rfl)
  obtain ⟨L0, d, hd, _, e2⟩ := open_row Try.underlying22 Try.underlying5 cells5 (hval 2 22 v2 rfl rfl) h2
  obtain ⟨bit, rfl, bit0, bit1⟩ := open_num Try.underlying3 (hval 3 3 v3 rfl rfl)
  let R : Rho := fun h => L0
  refine law_calls (back_con ht ⟨f0, f1⟩ hd ⟨bit0, bit1⟩) R (fun i r hi => ?_) ⟨e0 R, ⟨rfl, rfl⟩, (e2 R 0 rfl).1, ⟨rfl, rfl⟩, trivial⟩
  cases i with
  | zero => simp at hi; subst hi; exact (e2 R 0 rfl).2
  | succ i =>
    simp at hi

theorem back_lifted (os : Os) (started : os.Started) (H : Type) (enc : TypeId × Value → H) :
    ReturnsInHanded {} Try.checked os 4 .any (Rows.packetBackSpec.pre6 enc Try.prog Try.f4 Rows.packetBackRow.domain false) (Rows.packetBackSpec.post enc Try.prog Try.f4 false true false false) := by
  refine returnsInHanded_of_change (C := Try.checked) own started (by kernel_rfl) Try.func4
    (ChangeSpec.witness6 (enc := enc) (C := Try.checked) false ⟨#[], #[.agg #[.int .u32 0, .int .u32 0, .int .u16 0, .int .u16 0], .int .u8 0, .slice none 0 0, .int .i64 0], []⟩ 8 (by kernel_rfl) (by kernel_rfl) (by kernel_rfl) (by kernel_rfl)) ?_
  intro W base args ds gs before hval hW _ _
  refine law_row (t := 4) rfl (fun l hl => ?_) rfl Try.underlying4 laid (by kernel_rfl) hW (back_calls hval hW)
  match l, hl with
  | [_, _, _, _], _ => exact ⟨rfl, rfl, rfl⟩

theorem back_holds : Rows.PacketBackSaid :=
  OpenClaim.holds_of_wide 4 Try.f4 rfl rfl rfl rfl rfl rfl rfl ⟨rfl, rfl, rfl, rfl, rfl⟩ rfl rfl rfl rfl rfl (by kernel_rfl) Try.func4 (by kernel_rfl)
    (of_decide_eq_true (by kernel_rfl)) (by unfold Func.isWrapper; first | (rw [if_pos (by decide +kernel)]; kernel_rfl) | (rw [if_neg (by decide +kernel)]; exact ⟨rfl, rfl⟩))
    (fun os started H enc _ => back_lifted os started H enc)
#print axioms back_holds
end Go.Proofs.Ytooempepoejmhaa
