/- Contracts of functions of the program, or a row of the seat, proved out of them. No condition beyond those that stand in each statement. -/
import Derived.Test.YtekifohlfkmlmaaL3S
namespace Go.Proofs.Ytekifohlfkmlmaa
open Go Go.SE Go.RowKit Go.WideShapes Go.ChangeShapes Go.Proofs.L3
set_option maxRecDepth 100000
set_option maxHeartbeats 4000000

theorem addr_calls {H : Type} {enc : TypeId × Value → H} {W : World} {base : Nat} {args : Array Value} {ds gs : List (DataW H)} {before : List MemPlace}
    (hval : ∀ (j : Nat) t v, Try.f6.params[j]? = some t → args[j]? = some v → Value.okWide Try.prog W .any base t v)
    (hW : DataW.Whole enc Try.prog Try.f6.params.toList Rows.tcpAddressesSpec.vars false W args.toList ds gs before) :
    Calls Try.prog 6 args W fun e w' => e = .returned (.bool true) ∧ Below W.heap.size W w' := by
  obtain ⟨p, q, hA0, hV, rfl, hfz, hnd⟩ := hW
  have hA : DataW.TrodAll enc Try.prog W 0 (fun _ => true) true Try.f6.params.toList args.toList ds p := hA0
  rw [Try.params6] at hA hval
  obtain ⟨v0, vs0, d0, ds0, p0, q0, hargs, rfl, rfl, h0, r0⟩ := trodAll_cons hA
  obtain ⟨v1, vs1, d1, ds1, p1, q1, rfl, rfl, rfl, h1, r1⟩ := trodAll_cons r0
  obtain ⟨v2, vs2, d2, ds2, p2, q2, rfl, rfl, rfl, h2, r2⟩ := trodAll_cons r1
  obtain ⟨v3, vs3, d3, ds3, p3, q3, rfl, rfl, rfl, h3, r3⟩ := trodAll_cons r2
  obtain ⟨v4, vs4, d4, ds4, p4, q4, rfl, rfl, rfl, h4, r4⟩ := trodAll_cons r3
  obtain ⟨rfl, rfl, rfl⟩ := trodAll_nil r4
  obtain rfl : args = #[v0, v1, v2, v3, v4] := by cases args; simp_all
  obtain ⟨a, rfl, a0, a1⟩ := open_num Try.underlying22 (hval 0 22 v0 rfl rfl)
  obtain ⟨b, rfl, b0, b1⟩ := open_num Try.underlying22 (hval 1 22 v1 rfl rfl)
  obtain ⟨L0, t, ht, e2⟩ := open_seg (hval 2 26 v2 rfl rfl) h2
  obtain ⟨half, rfl, half0, half1⟩ := open_num Try.underlying3 (hval 3 3 v3 rfl rfl)
  obtain ⟨by_, rfl, by_0, by_1⟩ := open_num Try.underlying24 (hval 4 24 v4 rfl rfl)
  let R : Rho := fun h => L0
  refine law_calls (addr_con (half := half) ⟨a0, a1⟩ ⟨b0, b1⟩ ht ⟨by_0, by_1⟩) R (fun i r hi => ?_) ⟨⟨rfl, rfl⟩, ⟨rfl, rfl⟩, (e2 R 0 rfl).1, ⟨rfl, rfl⟩, ⟨rfl, rfl⟩, trivial⟩
  cases i with
  | zero => simp at hi; subst hi; exact (e2 R 0 rfl).2
  | succ i =>
    simp at hi

theorem addr_lifted (os : Os) (started : os.Started) (H : Type) (enc : TypeId × Value → H) :
    ReturnsInHanded {} Try.checked os 6 .any (Rows.tcpAddressesSpec.pre6 enc Try.prog Try.f6 Rows.tcpAddressesRow.domain false) (Rows.tcpAddressesSpec.post enc Try.prog Try.f6 false true false false) := by
  refine returnsInHanded_of_change (C := Try.checked) own started (by kernel_rfl) Try.func6
    (ChangeSpec.witness6 (enc := enc) (C := Try.checked) false ⟨#[], #[.int .u32 0, .int .u32 0, .agg #[.int .u16 0, .int .u16 0, .int .u8 0, .int .i64 0, .slice none 0 0], .int .i64 0, .int .u16 0], []⟩ 8 (by kernel_rfl) (by kernel_rfl) (by kernel_rfl) (by kernel_rfl)) ?_
  intro W base args ds gs before hval hW _ _
  refine law_row (t := 4) rfl (fun l hl => ?_) rfl Try.underlying4 laid (by kernel_rfl) hW (addr_calls hval hW)
  match l, hl with
  | [_, _, _, _, _], _ => exact ⟨rfl, rfl, rfl⟩

theorem addr_holds : Rows.TcpAddressesSaid :=
  OpenClaim.holds_of_wide 6 Try.f6 rfl rfl rfl rfl rfl rfl rfl ⟨rfl, rfl, rfl, rfl, rfl⟩ rfl rfl rfl rfl rfl (by kernel_rfl) Try.func6 (by kernel_rfl)
    (of_decide_eq_true (by kernel_rfl)) (by unfold Func.isWrapper; first | (rw [if_pos (by decide +kernel)]; kernel_rfl) | (rw [if_neg (by decide +kernel)]; exact ⟨rfl, rfl⟩))
    (fun os started H enc _ => addr_lifted os started H enc)
#print axioms addr_holds
end Go.Proofs.Ytekifohlfkmlmaa
