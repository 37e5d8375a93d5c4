/- Contracts of functions of the program, or a row of the seat, proved out of them. No condition beyond those that stand in each statement. -/
import Derived.Test.YtooempepoejmhaaP5E
import Derived.Test.YtooempepoejmhaaSeD
import Derived.Test.YtooempepoejmhaaRows
namespace Go.Proofs.Ytooempepoejmhaa
open Go Go.SE Go.RowKit Go.WideShapes Go.ChangeShapes Go.Proofs.P5
set_option maxRecDepth 100000
set_option maxHeartbeats 4000000

theorem own : ownKnob Try.prog.godebug = none := by kernel_rfl
theorem laid : laidOutB Try.prog = true := by kernel_rfl
theorem cells5 : Try.prog.cellsOf 5 = 1 := by kernel_rfl
theorem types26 : Try.prog.cellTypes Try.prog.depth 26 = some [23, 23, 24, 24] := by kernel_rfl
theorem cells26 : Try.prog.cellsOf 26 = 4 := by kernel_rfl
theorem types28 : Try.prog.cellTypes Try.prog.depth 28 = some [23, 23, 24, 24, 5, 22] := by kernel_rfl
theorem cells28 : Try.prog.cellsOf 28 = 6 := by kernel_rfl

theorem open_tu {W : World} {base : Nat} {v : Value} (h : Value.okWide Try.prog W .any base 26 v) :
    ∃ t : Tu, t.Wf ∧ ∀ (ρ : Rho), T.Rel ρ (tuT t) v := by
  obtain ⟨cs, rfl, hlen, hc⟩ := okWide_cells (.inl ⟨_, Try.underlying26⟩) _ types26 cells26 h
  match cs, hlen with
  | [c0, c1, c2, c3], _ =>
    obtain ⟨x0, e0, k0⟩ := hc 0 23 rfl
    obtain ⟨x1, e1, k1⟩ := hc 1 23 rfl
    obtain ⟨x2, e2, k2⟩ := hc 2 24 rfl
    obtain ⟨x3, e3, k3⟩ := hc 3 24 rfl
    simp only [List.getElem?_cons_zero, List.getElem?_cons_succ, Option.some.injEq] at e0 e1 e2 e3
    subst e0; subst e1; subst e2; subst e3
    obtain ⟨n0, rfl, b0⟩ := cell_int k0 Try.underlying23
    obtain ⟨n1, rfl, b1⟩ := cell_int k1 Try.underlying23
    obtain ⟨n2, rfl, b2⟩ := cell_int k2 Try.underlying24
    obtain ⟨n3, rfl, b3⟩ := cell_int k3 Try.underlying24
    exact ⟨⟨n0, n1, n2, n3⟩, ⟨has_bounds b0, has_bounds b1, has_bounds b2, has_bounds b3⟩, fun ρ => ⟨_, rfl, ⟨rfl, rfl⟩, ⟨rfl, rfl⟩, ⟨rfl, rfl⟩, ⟨rfl, rfl⟩, trivial⟩⟩

theorem open_pk {H : Type} {enc : TypeId × Value → H} {W : World} {base : Nat} {v : Value} {d : DataW H} {ps : List MemPlace} (h : Value.okWide Try.prog W .any base 28 v) (hd : DataW.Trod enc Try.prog W 0 (fun _ => true) true 28 v d ps) :
    ∃ (L : SE.Loc) (p : Pk), p.Wf ∧ ∀ (ρ : Rho) (i : Nat), ρ i = L → T.Rel ρ (pkT p i) v ∧ RegOk ρ W i (.row (ints .u8 p.bytes) 1 5 false) := by
  obtain ⟨cs, rfl, hlen, hc⟩ := okWide_cells (.inl ⟨_, Try.underlying28⟩) _ types28 cells28 h
  match cs, hlen with
  | [c0, c1, c2, c3, c4, c5], _ =>
    obtain ⟨x0, e0, k0⟩ := hc 0 23 rfl
    obtain ⟨x1, e1, k1⟩ := hc 1 23 rfl
    obtain ⟨x2, e2, k2⟩ := hc 2 24 rfl
    obtain ⟨x3, e3, k3⟩ := hc 3 24 rfl
    obtain ⟨x4, e4, k4⟩ := hc 4 5 rfl
    obtain ⟨x5, e5, k5⟩ := hc 5 22 rfl
    simp only [List.getElem?_cons_zero, List.getElem?_cons_succ, Option.some.injEq] at e0 e1 e2 e3 e4 e5
    subst e0; subst e1; subst e2; subst e3; subst e4; subst e5
    obtain ⟨n0, rfl, b0⟩ := cell_int k0 Try.underlying23
    obtain ⟨n1, rfl, b1⟩ := cell_int k1 Try.underlying23
    obtain ⟨n2, rfl, b2⟩ := cell_int k2 Try.underlying24
    obtain ⟨n3, rfl, b3⟩ := cell_int k3 Try.underlying24
    obtain ⟨n4, rfl, b4⟩ := cell_int k4 Try.underlying5
    obtain ⟨fuel, ht⟩ := hd
    obtain ⟨xs, n, _, _, _, hxl, hx⟩ := DataW.trod_struct Try.underlying28 ht
    have h2 := hx 2 _ rfl
    obtain ⟨y2, hy2⟩ : ∃ y, xs[2]? = some y := ⟨_, List.getElem?_eq_getElem (by rw [hxl]; decide)⟩
    rw [hy2] at h2
    obtain ⟨L, l, hl, _, hr⟩ := open_row_cell Try.underlying22 Try.underlying5 cells5 k5 h2
    refine ⟨L, ⟨n0, n1, n2, n3, n4, l⟩, ⟨has_bounds b4, hl⟩, fun ρ i hi => ?_⟩
    obtain ⟨q1, q2⟩ := hr ρ i hi
    exact ⟨⟨_, rfl, ⟨rfl, rfl⟩, ⟨rfl, rfl⟩, ⟨rfl, rfl⟩, ⟨rfl, rfl⟩, ⟨rfl, rfl⟩, q1, trivial⟩, q2⟩

end Go.Proofs.Ytooempepoejmhaa
