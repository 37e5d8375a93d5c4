/- Contracts of functions of the program, or a row of the seat, proved out of them. No condition beyond those that stand in each statement. -/
import Derived.Test.YtahoihfbjlgpgaaS08gHn
import Derived.Test.YtahoihfbjlgpgaaSeD
import Derived.Test.YtahoihfbjlgpgaaRows
namespace Go.Proofs.Ytahoihfbjlgpgaa
open Go Go.SE Go.RowKit Go.WideShapes Go.ChangeShapes Go.Proofs.S08
set_option maxRecDepth 100000
set_option maxHeartbeats 4000000

theorem own : ownKnob Try.prog.godebug = none := by kernel_rfl
theorem laid : laidOutB Try.prog = true := by kernel_rfl
theorem cells5 : Try.prog.cellsOf 5 = 1 := by kernel_rfl
theorem typesTu : Try.prog.cellTypes Try.prog.depth 31 = some [28, 28, 29, 29] := by kernel_rfl
theorem leafTu : leafInts Try.prog 3 31 = some [.u32, .u32, .u16, .u16] := by kernel_rfl
theorem open_tu {W : World} {base : Nat} {v : Value} (h : Value.okWide Try.prog W .any base 31 v) :
    ∃ t : Tu, t.Wf ∧ ∀ (ρ : Rho), T.Rel ρ (tuT t) v := by
  obtain ⟨cs, rfl, hlen, hc⟩ := okWide_cells (.inl ⟨_, Try.underlying31⟩) _ typesTu cellsTu h
  match cs, hlen with
  | [c0, c1, c2, c3], _ =>
    obtain ⟨x0, e0, k0⟩ := hc 0 28 rfl
    obtain ⟨x1, e1, k1⟩ := hc 1 28 rfl
    obtain ⟨x2, e2, k2⟩ := hc 2 29 rfl
    obtain ⟨x3, e3, k3⟩ := hc 3 29 rfl
    simp only [List.getElem?_cons_zero, List.getElem?_cons_succ, Option.some.injEq] at e0 e1 e2 e3
    subst e0 e1 e2 e3
    obtain ⟨i0, rfl, b0⟩ := cell_int k0 Try.underlying28
    obtain ⟨i1, rfl, b1⟩ := cell_int k1 Try.underlying28
    obtain ⟨i2, rfl, b2⟩ := cell_int k2 Try.underlying29
    obtain ⟨i3, rfl, b3⟩ := cell_int k3 Try.underlying29
    exact ⟨⟨i0, i1, i2, i3⟩, ⟨has_bounds b0, has_bounds b1, has_bounds b2, has_bounds b3⟩, fun ρ => ⟨_, rfl, ⟨rfl, rfl⟩, ⟨rfl, rfl⟩, ⟨rfl, rfl⟩, ⟨rfl, rfl⟩, trivial⟩⟩
theorem tus_of : ∀ (rows : List (List Int)), (∀ ns ∈ rows, HasAll [.u32, .u32, .u16, .u16] ns) → ∃ l : List Tu, l.length = rows.length ∧ rows.flatMap (intsOf [.u32, .u32, .u16, .u16]) = tusV l ∧ ∀ t ∈ l, t.Wf
  | [], _ => ⟨[], rfl, rfl, by simp⟩
  | ns :: rows, h => by
    obtain ⟨l, h1, h2, h3⟩ := tus_of rows fun n hn => h n (by simp [hn])
    have h0 := h ns (by simp)
    match ns, h0 with
    | [a, b, c, d], ⟨q1, q2, q3, q4, _⟩ =>
      refine ⟨⟨a, b, c, d⟩ :: l, by simp [h1], by rw [List.flatMap_cons, h2]; rfl, fun r hr => ?_⟩
      rcases List.mem_cons.1 hr with rfl | hr
      · exact ⟨has_bounds q1, has_bounds q2, has_bounds q3, has_bounds q4⟩
      · exact h3 r hr
theorem open_apiTuple {H : Type} {enc : TypeId × Value → H} {W : World} {base : Nat} {v : Value} {d : DataW H} {ps : List MemPlace} (h : Value.okWide Try.prog W .any base 40 v) (hd : DataW.Trod enc Try.prog W 0 (fun _ => true) true 40 v d ps) :
    ∃ (L : SE.Loc) (l : List Tu), (∀ t ∈ l, t.Wf) ∧ ∀ (ρ : Rho) (i : Nat), ρ i = L → S.Rel ρ (.sl i 0 l.length) v ∧ RegOk ρ W i (.row (tusV l) 4 31 false) := by
  obtain ⟨L, rows, h1, h2, h3⟩ := open_leafs 3 Try.underlying40 leafTu cellsTu h hd
  obtain ⟨l, g1, g2, g3⟩ := tus_of rows h1
  refine ⟨L, l, g3, fun ρ i hi => ?_⟩
  obtain ⟨k1, k2⟩ := h3 ρ i hi
  rw [← g1] at k1
  rw [g2] at k2
  exact ⟨k1, k2⟩
end Go.Proofs.Ytahoihfbjlgpgaa
