/- Contracts of functions of the program, or a row of the seat, proved out of them. No condition beyond those that stand in each statement. -/
import Derived.Test.YtcnijhilkemplaaS07h7D
import Derived.Test.YtcnijhilkemplaaSeD
import Derived.Test.YtcnijhilkemplaaRows
namespace Go.Proofs.Ytcnijhilkemplaa
open Go Go.SE Go.RowKit Go.WideShapes Go.ChangeShapes Go.Proofs.S07 Go.Proofs.S07.E7
set_option maxRecDepth 100000
set_option maxHeartbeats 4000000

theorem own : ownKnob Try.prog.godebug = none := by kernel_rfl
theorem laid : laidOutB Try.prog = true := by kernel_rfl
theorem cells5 : Try.prog.cellsOf 5 = 1 := by kernel_rfl
theorem cellsNd : Try.prog.cellsOf 23 = 2 := by kernel_rfl
theorem typesNd : Try.prog.cellTypes Try.prog.depth 23 = some [5, 3] := by kernel_rfl
theorem cellsWr : Try.prog.cellsOf 29 = 11 := by kernel_rfl
theorem typesWr : Try.prog.cellTypes Try.prog.depth 29 = some [5, 3, 5, 3, 5, 5, 3, 3, 3, 3, 27] := by kernel_rfl
theorem open_nd {W : World} {base : Nat} {v : Value} (h : Value.okWide Try.prog W .any base 23 v) :
    ∃ t : Nd, t.Wf ∧ ∀ (ρ : Rho), T.Rel ρ (ndT t) v := by
  obtain ⟨cs, rfl, hlen, hc⟩ := okWide_cells (.inl ⟨_, Try.underlying23⟩) _ typesNd cellsNd h
  match cs, hlen with
  | [c0, c1], _ =>
    obtain ⟨x0, e0, k0⟩ := hc 0 5 rfl
    obtain ⟨x1, e1, k1⟩ := hc 1 3 rfl
    simp only [List.getElem?_cons_zero, List.getElem?_cons_succ, Option.some.injEq] at e0 e1
    subst e0 e1
    obtain ⟨i0, rfl, b0⟩ := cell_int k0 Try.underlying5
    obtain ⟨i1, rfl, b1⟩ := cell_int k1 Try.underlying3
    exact ⟨⟨i0, i1⟩, ⟨has_bounds b0, has_bounds b1⟩, fun ρ => ⟨_, rfl, ⟨rfl, rfl⟩, ⟨rfl, rfl⟩, trivial⟩⟩
theorem open_wr {H : Type} {enc : TypeId × Value → H} {W : World} {base : Nat} {v : Value} {d : DataW H} {ps : List MemPlace} (h : Value.okWide Try.prog W .any base 29 v) (hd : DataW.Trod enc Try.prog W 0 (fun _ => true) true 29 v d ps) :
    ∃ (L : SE.Loc) (t : Wr), t.Wf ∧ ∀ (ρ : Rho) (i : Nat), ρ i = L → T.Rel ρ (wrT t i) v ∧ RegOk ρ W i (.row (ints .u8 t.inner) 1 5 false) := by
  obtain ⟨cs, rfl, hlen, hc⟩ := okWide_cells (.inl ⟨_, Try.underlying29⟩) _ typesWr cellsWr h
  match cs, hlen with
  | [c0, c1, c2, c3, c4, c5, c6, c7, c8, c9, c10], _ =>
    obtain ⟨x0, e0, k0⟩ := hc 0 5 rfl
    obtain ⟨x1, e1, k1⟩ := hc 1 3 rfl
    obtain ⟨x2, e2, k2⟩ := hc 2 5 rfl
    obtain ⟨x3, e3, k3⟩ := hc 3 3 rfl
    obtain ⟨x4, e4, k4⟩ := hc 4 5 rfl
    obtain ⟨x5, e5, k5⟩ := hc 5 5 rfl
    obtain ⟨x6, e6, k6⟩ := hc 6 3 rfl
    obtain ⟨x7, e7, k7⟩ := hc 7 3 rfl
    obtain ⟨x8, e8, k8⟩ := hc 8 3 rfl
    obtain ⟨x9, e9, k9⟩ := hc 9 3 rfl
    obtain ⟨x10, e10, k10⟩ := hc 10 27 rfl
    simp only [List.getElem?_cons_zero, List.getElem?_cons_succ, Option.some.injEq] at e0 e1 e2 e3 e4 e5 e6 e7 e8 e9 e10
    subst e0 e1 e2 e3 e4 e5 e6 e7 e8 e9 e10
    obtain ⟨i0, rfl, b0⟩ := cell_int k0 Try.underlying5
    obtain ⟨i1, rfl, b1⟩ := cell_int k1 Try.underlying3
    obtain ⟨i2, rfl, b2⟩ := cell_int k2 Try.underlying5
    obtain ⟨i3, rfl, b3⟩ := cell_int k3 Try.underlying3
    obtain ⟨i4, rfl, b4⟩ := cell_int k4 Try.underlying5
    obtain ⟨i5, rfl, b5⟩ := cell_int k5 Try.underlying5
    obtain ⟨i6, rfl, b6⟩ := cell_int k6 Try.underlying3
    obtain ⟨i7, rfl, b7⟩ := cell_int k7 Try.underlying3
    obtain ⟨i8, rfl, b8⟩ := cell_int k8 Try.underlying3
    obtain ⟨i9, rfl, b9⟩ := cell_int k9 Try.underlying3
    obtain ⟨fuel, ht⟩ := hd
    obtain ⟨xs, n, _, _, _, hxl, hx⟩ := DataW.trod_struct Try.underlying29 ht
    have h3 := hx 3 _ rfl
    obtain ⟨y3, hy3⟩ : ∃ y, xs[3]? = some y := ⟨_, List.getElem?_eq_getElem (by rw [hxl]; decide)⟩
    rw [hy3] at h3
    obtain ⟨L, l, hl, _, hr⟩ := open_row_cell Try.underlying27 Try.underlying5 cells5 k10 h3
    obtain ⟨p4, p4'⟩ := has_bounds b4
    obtain ⟨p5, p5'⟩ := has_bounds b5
    refine ⟨L, ⟨⟨i0, i1⟩, ⟨i2, i3⟩, ⟨i4, i5, i6, i7, i8, i9⟩, l⟩, ⟨⟨has_bounds b0, has_bounds b1⟩, ⟨has_bounds b2, has_bounds b3⟩, ⟨p4, p4', p5, p5'⟩, hl⟩, fun ρ i hi => ?_⟩
    obtain ⟨q1, q2⟩ := hr ρ i hi
    exact ⟨⟨_, rfl, ⟨rfl, rfl⟩, ⟨rfl, rfl⟩, ⟨rfl, rfl⟩, ⟨rfl, rfl⟩, ⟨rfl, rfl⟩, ⟨rfl, rfl⟩, ⟨rfl, rfl⟩, ⟨rfl, rfl⟩, ⟨rfl, rfl⟩, ⟨rfl, rfl⟩, q1, trivial⟩, q2⟩
end Go.Proofs.Ytcnijhilkemplaa
