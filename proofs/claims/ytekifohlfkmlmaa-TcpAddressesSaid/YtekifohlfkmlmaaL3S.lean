/- Contracts of functions of the program, or a row of the seat, proved out of them. No condition beyond those that stand in each statement. -/
import Derived.Test.YtekifohlfkmlmaaL3R
import Derived.Test.YtekifohlfkmlmaaSeD
import Derived.Test.YtekifohlfkmlmaaRows
namespace Go.Proofs.Ytekifohlfkmlmaa
open Go Go.SE Go.RowKit Go.WideShapes Go.ChangeShapes Go.Proofs.L3
set_option maxRecDepth 100000
set_option maxHeartbeats 4000000

theorem own : ownKnob Try.prog.godebug = none := by kernel_rfl
theorem laid : laidOutB Try.prog = true := by kernel_rfl
theorem cells5 : Try.prog.cellsOf 5 = 1 := by kernel_rfl
theorem types26 : Try.prog.cellTypes Try.prog.depth 26 = some [24, 24, 5, 3, 23] := by kernel_rfl
theorem cells26 : Try.prog.cellsOf 26 = 5 := by kernel_rfl
theorem cells23 : Try.prog.cellsOf 23 = 1 := by kernel_rfl

theorem open_seg {H : Type} {enc : TypeId × Value → H} {W : World} {base : Nat} {v : Value} {d : DataW H} {ps : List MemPlace} (h : Value.okWide Try.prog W .any base 26 v) (hd : DataW.Trod enc Try.prog W 0 (fun _ => true) true 26 v d ps) :
    ∃ (L : SE.Loc) (t : Seg), t.Wf0 ∧ ∀ (ρ : Rho) (i : Nat), ρ i = L → T.Rel ρ (segT t i) v ∧ RegOk ρ W i (.row (ints .u8 t.data) 1 5 false) := by
  obtain ⟨cs, rfl, hlen, hc⟩ := okWide_cells (.inl ⟨_, Try.underlying26⟩) _ types26 cells26 h
  match cs, hlen with
  | [c0, c1, c2, c3, c4], _ =>
    obtain ⟨x0, e0, k0⟩ := hc 0 24 rfl
    obtain ⟨x1, e1, k1⟩ := hc 1 24 rfl
    obtain ⟨x2, e2, k2⟩ := hc 2 5 rfl
    obtain ⟨x3, e3, k3⟩ := hc 3 3 rfl
    obtain ⟨x4, e4, k4⟩ := hc 4 23 rfl
    simp only [List.getElem?_cons_zero, List.getElem?_cons_succ, Option.some.injEq] at e0 e1 e2 e3 e4
    subst e0; subst e1; subst e2; subst e3; subst e4
    obtain ⟨s, rfl, hs⟩ := cell_int k0 Try.underlying24
    obtain ⟨dd, rfl, hdd⟩ := cell_int k1 Try.underlying24
    obtain ⟨f, rfl, hf⟩ := cell_int k2 Try.underlying5
    obtain ⟨hh, rfl, hhh⟩ := cell_int k3 Try.underlying3
    obtain ⟨fuel, ht⟩ := hd
    obtain ⟨xs, n, _, _, _, hxl, hx⟩ := DataW.trod_struct Try.underlying26 ht
    have h4 := hx 4 _ rfl
    have hx4 : ∃ y, xs[4]? = some y := ⟨_, List.getElem?_eq_getElem (by rw [hxl]; decide)⟩
    obtain ⟨y, hy⟩ := hx4
    rw [hy] at h4
    obtain ⟨L, l, hl, hm, hr⟩ := open_row_cell Try.underlying23 Try.underlying5 cells5 k4 h4
    refine ⟨L, ⟨s, dd, f, hh, l⟩, ⟨has_bounds hs, has_bounds hdd, has_bounds hf, has_bounds hhh, hl⟩, fun ρ i hi => ?_⟩
    obtain ⟨q1, q2⟩ := hr ρ i hi
    exact ⟨⟨_, rfl, ⟨rfl, rfl⟩, ⟨rfl, rfl⟩, ⟨rfl, rfl⟩, ⟨rfl, rfl⟩, q1, trivial⟩, q2⟩

end Go.Proofs.Ytekifohlfkmlmaa
