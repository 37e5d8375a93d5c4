/- Contracts of functions of the program, or a row of the seat, proved out of them. No condition beyond those that stand in each statement. -/
import Derived.Test.YtbeopajnlenglaaL2T
import Derived.Test.YtbeopajnlenglaaSeD
import Derived.Test.YtbeopajnlenglaaRows
namespace Go.Proofs.Ytbeopajnlenglaa
open Go Go.SE Go.RowKit Go.WideShapes Go.ChangeShapes Go.Proofs.L2
set_option maxRecDepth 100000
set_option maxHeartbeats 4000000

theorem own : ownKnob Try.prog.godebug = none := by kernel_rfl
theorem laid : laidOutB Try.prog = true := by kernel_rfl
theorem cells5 : Try.prog.cellsOf 5 = 1 := by kernel_rfl
theorem types26 : Try.prog.cellTypes Try.prog.depth 26 = some [5, 22, 22, 5, 5, 23, 23, 24, 24] := by kernel_rfl
theorem cells26 : Try.prog.cellsOf 26 = 9 := by kernel_rfl

theorem open_hd {H : Type} {enc : TypeId × Value → H} {W : World} {base : Nat} {v : Value} {d : DataW H} {ps : List MemPlace} (h : Value.okWide Try.prog W .any base 26 v) (hd : DataW.Trod enc Try.prog W 0 (fun _ => true) true 26 v d ps) :
    ∃ (L M : SE.Loc) (t : Hd), t.Wf0 ∧ ∀ (ρ : Rho) (i j : Nat), ρ i = L → ρ j = M → T.Rel ρ (hdT t i j) v ∧ RegOk ρ W i (.row (ints .u8 t.opts) 1 5 false) ∧ RegOk ρ W j (.row (ints .u8 t.pay) 1 5 false) := by
  obtain ⟨cs, rfl, hlen, hc⟩ := okWide_cells (.inl ⟨_, Try.underlying26⟩) _ types26 cells26 h
  match cs, hlen with
  | [c0, c1, c2, c3, c4, c5, c6, c7, c8], _ =>
    obtain ⟨x0, e0, k0⟩ := hc 0 5 rfl
    obtain ⟨x1, e1, k1⟩ := hc 1 22 rfl
    obtain ⟨x2, e2, k2⟩ := hc 2 22 rfl
    obtain ⟨x3, e3, k3⟩ := hc 3 5 rfl
    obtain ⟨x4, e4, k4⟩ := hc 4 5 rfl
    obtain ⟨x5, e5, k5⟩ := hc 5 23 rfl
    obtain ⟨x6, e6, k6⟩ := hc 6 23 rfl
    obtain ⟨x7, e7, k7⟩ := hc 7 24 rfl
    obtain ⟨x8, e8, k8⟩ := hc 8 24 rfl
    simp only [List.getElem?_cons_zero, List.getElem?_cons_succ, Option.some.injEq] at e0 e1 e2 e3 e4 e5 e6 e7 e8
    subst e0; subst e1; subst e2; subst e3; subst e4; subst e5; subst e6; subst e7; subst e8
    obtain ⟨n0, rfl, b0⟩ := cell_int k0 Try.underlying5
    obtain ⟨n1, rfl, b1⟩ := cell_int k1 Try.underlying22
    obtain ⟨n2, rfl, b2⟩ := cell_int k2 Try.underlying22
    obtain ⟨n3, rfl, b3⟩ := cell_int k3 Try.underlying5
    obtain ⟨n4, rfl, b4⟩ := cell_int k4 Try.underlying5
    obtain ⟨n5, rfl, b5⟩ := cell_int k5 Try.underlying23
    obtain ⟨n6, rfl, b6⟩ := cell_int k6 Try.underlying23
    obtain ⟨fuel, ht⟩ := hd
    obtain ⟨xs, n, _, _, _, hxl, hx⟩ := DataW.trod_struct Try.underlying26 ht
    have h7 := hx 7 _ rfl
    have h8 := hx 8 _ rfl
    obtain ⟨y7, hy7⟩ : ∃ y, xs[7]? = some y := ⟨_, List.getElem?_eq_getElem (by rw [hxl]; decide)⟩
    obtain ⟨y8, hy8⟩ : ∃ y, xs[8]? = some y := ⟨_, List.getElem?_eq_getElem (by rw [hxl]; decide)⟩
    rw [hy7] at h7
    rw [hy8] at h8
    obtain ⟨L, l, hl, _, hr⟩ := open_row_cell Try.underlying24 Try.underlying5 cells5 k7 h7
    obtain ⟨M, m, hm, _, hq⟩ := open_row_cell Try.underlying24 Try.underlying5 cells5 k8 h8
    refine ⟨L, M, ⟨n0, n1, n2, n3, n4, n5, n6, l, m⟩, ⟨has_bounds b0, has_bounds b1, has_bounds b2, has_bounds b3, has_bounds b4, has_bounds b5, has_bounds b6, hl, hm⟩, fun ρ i j hi hj => ?_⟩
    obtain ⟨q1, q2⟩ := hr ρ i hi
    obtain ⟨r1, r2⟩ := hq ρ j hj
    exact ⟨⟨_, rfl, ⟨rfl, rfl⟩, ⟨rfl, rfl⟩, ⟨rfl, rfl⟩, ⟨rfl, rfl⟩, ⟨rfl, rfl⟩, ⟨rfl, rfl⟩, ⟨rfl, rfl⟩, q1, r1, trivial⟩, q2, r2⟩

end Go.Proofs.Ytbeopajnlenglaa
