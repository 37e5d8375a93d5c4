/- Contracts of functions of the program, or a row of the seat, proved out of them. No condition beyond those that stand in each statement. -/
import Derived.Test.YtlfggbhflepnkaaL6H0
namespace Go.Proofs.Ytlfggbhflepnkaa
open Go Go.SE Go.RowKit Go.WideShapes Go.ChangeShapes Go.Proofs.L6
set_option maxRecDepth 100000
set_option maxHeartbeats 4000000

theorem turned_calls {H : Type} {enc : TypeId × Value → H} {W : World} {base : Nat} {args : Array Value} {ds gs : List (DataW H)} {before : List MemPlace}
    (hval : ∀ (j : Nat) t v, Try.f7.params[j]? = some t → args[j]? = some v → Value.okWide Try.prog W .any base t v)
    (hW : DataW.Whole enc Try.prog Try.f7.params.toList Rows.optionTurnedSpec.vars false W args.toList ds gs before) :
    Calls Try.prog 7 args W fun e w' => e = .returned (.bool true) ∧ Below W.heap.size W w' := by
  obtain ⟨p, q, hA0, hV, rfl, hfz, hnd⟩ := hW
  have hA : DataW.TrodAll enc Try.prog W 0 (fun _ => true) true Try.f7.params.toList args.toList ds p := hA0
  rw [Try.params7] at hA hval
  obtain ⟨v0, vs0, d0, ds0, p0, q0, hargs, rfl, rfl, h0, r0⟩ := trodAll_cons hA
  obtain ⟨v1, vs1, d1, ds1, p1, q1, rfl, rfl, rfl, h1, r1⟩ := trodAll_cons r0
  obtain ⟨v2, vs2, d2, ds2, p2, q2, rfl, rfl, rfl, h2, r2⟩ := trodAll_cons r1
  obtain ⟨v3, vs3, d3, ds3, p3, q3, rfl, rfl, rfl, h3, r3⟩ := trodAll_cons r2
  obtain ⟨v4, vs4, d4, ds4, p4, q4, rfl, rfl, rfl, h4, r4⟩ := trodAll_cons r3
  obtain ⟨rfl, rfl, rfl⟩ := trodAll_nil r4
  obtain rfl : args = #[v0, v1, v2, v3, v4] := by cases args; simp_all
  obtain ⟨o, ho, e0⟩ := open_opt (hval 0 23 v0 rfl rfl)
  obtain ⟨xa, xb, xc, xd, e1⟩ := open_ent (hval 1 25 v1 rfl rfl)
  obtain ⟨kind, rfl, kind0, kind1⟩ := open_num Try.underlying5 (hval 2 5 v2 rfl rfl)
  obtain ⟨bucket, rfl, bucket0, bucket1⟩ := open_num Try.underlying3 (hval 3 3 v3 rfl rfl)
  obtain ⟨gen, rfl, gen0, gen1⟩ := open_num Try.underlying3 (hval 4 3 v4 rfl rfl)
  refine law_calls (lturned_con (gen := gen) (bucket := bucket) (xc := xa) (xp := xb) (xg := xc) (xt := xd) ho kind0 kind1) (fun _ => ⟨0, 0, 0, 0, true⟩) (fun i r hi => ?_) ⟨e0 _, e1 _, ⟨rfl, rfl⟩, ⟨rfl, rfl⟩, ⟨rfl, rfl⟩, trivial⟩
  simp at hi

theorem turned_lifted (os : Os) (started : os.Started) (H : Type) (enc : TypeId × Value → H) :
    ReturnsInHanded {} Try.checked os 7 .any (Rows.optionTurnedSpec.pre6 enc Try.prog Try.f7 Rows.optionTurnedRow.domain false) (Rows.optionTurnedSpec.post enc Try.prog Try.f7 false true false false) := by
  refine returnsInHanded_of_change (C := Try.checked) own started (by kernel_rfl) Try.func7
    (ChangeSpec.witness6 (enc := enc) (C := Try.checked) false ⟨#[], #[.agg #[.int .u8 0, .int .u8 0, .int .i64 0, .int .i64 0, .int .i64 0, .int .i64 0], .agg #[.int .i64 0, .int .i64 0, .int .i64 0, .int .i64 0], .int .u8 0, .int .i64 0, .int .i64 0], []⟩ 8 (by kernel_rfl) (by kernel_rfl) (by kernel_rfl) (by kernel_rfl)) ?_
  intro W base args ds gs before hval hW _ _
  refine law_row (t := 4) rfl (fun l hl => ?_) rfl Try.underlying4 laid (by kernel_rfl) hW (turned_calls hval hW)
  match l, hl with
  | [_, _, _, _, _], _ => exact ⟨rfl, rfl, rfl⟩

theorem turned_holds : Rows.OptionTurnedSaid :=
  OpenClaim.holds_of_wide 7 Try.f7 rfl rfl rfl rfl rfl rfl rfl ⟨rfl, rfl, rfl, rfl, rfl⟩ rfl rfl rfl rfl rfl (by kernel_rfl) Try.func7 (by kernel_rfl)
    (of_decide_eq_true (by kernel_rfl)) (by unfold Func.isWrapper; first | (rw [if_pos (by decide +kernel)]; kernel_rfl) | (rw [if_neg (by decide +kernel)]; exact ⟨rfl, rfl⟩))
    (fun os started H enc _ => turned_lifted os started H enc)
#print axioms turned_holds
end Go.Proofs.Ytlfggbhflepnkaa
