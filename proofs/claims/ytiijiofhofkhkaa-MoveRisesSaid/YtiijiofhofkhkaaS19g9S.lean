/- Contracts of functions of the program, or a row of the seat, proved out of them. No condition beyond those that stand in each statement. -/
import Derived.Test.YtiijiofhofkhkaaS19gO
import Derived.Test.YtiijiofhofkhkaaS19g9M
namespace Go.Proofs.Ytiijiofhofkhkaa
open Go Go.SE Go.RowKit Go.WideShapes Go.ChangeShapes Go.Proofs.S19
set_option maxRecDepth 100000
set_option maxHeartbeats 4000000

theorem typesMv : Try.prog.cellTypes Try.prog.depth 45 = some [5, 3, 3, 3, 3, 3] := by kernel_rfl
theorem cellsMv : Try.prog.cellsOf 45 = 6 := by kernel_rfl
theorem typesCtl : Try.prog.cellTypes Try.prog.depth 26 = some [5, 5, 3, 3, 3, 3, 3, 3, 3, 22] := by kernel_rfl
theorem cellsCtl : Try.prog.cellsOf 26 = 10 := by kernel_rfl
structure MvWf (m : Mv) : Prop where
  ph : 0 ≤ m.ph ∧ m.ph ≤ 255
  cur : isI m.cur
  to : isI m.to
  gen : isI m.gen
  tick : isI m.tick
  ver : isI m.ver
structure CtlWf (c : Ctl) : Prop where
  kind : 0 ≤ c.kind ∧ c.kind ≤ 255
  of : 0 ≤ c.of ∧ c.of ≤ 255
  agent : isI c.agent
  bkt : isI c.bkt
  gen : isI c.gen
  peer : isI c.peer
  ver : isI c.ver
  sh : ShWf c.sh
theorem open_mv {W : World} {base : Nat} {v : Value} (h : Value.okWide Try.prog W .any base 45 v) : ∃ m : Mv, MvWf m ∧ ∀ (ρ : Rho), T.Rel ρ (mvT m) v := by
  obtain ⟨cs, rfl, hlen, hc⟩ := okWide_cells (.inl ⟨_, Try.underlying45⟩) _ typesMv cellsMv h
  match cs, hlen with
  | [c0, c1, c2, c3, c4, c5], _ =>
    obtain ⟨x0, e0, k0⟩ := hc 0 5 rfl
    obtain ⟨x1, e1, k1⟩ := hc 1 3 rfl
    obtain ⟨x2, e2, k2⟩ := hc 2 3 rfl
    obtain ⟨x3, e3, k3⟩ := hc 3 3 rfl
    obtain ⟨x4, e4, k4⟩ := hc 4 3 rfl
    obtain ⟨x5, e5, k5⟩ := hc 5 3 rfl
    simp only [List.getElem?_cons_zero, List.getElem?_cons_succ, Option.some.injEq] at e0 e1 e2 e3 e4 e5
    subst e0; subst e1; subst e2; subst e3; subst e4; subst e5
    obtain ⟨n0, rfl, b0⟩ := cell_int k0 Try.underlying5
    obtain ⟨n1, rfl, b1⟩ := cell_int k1 Try.underlying3
    obtain ⟨n2, rfl, b2⟩ := cell_int k2 Try.underlying3
    obtain ⟨n3, rfl, b3⟩ := cell_int k3 Try.underlying3
    obtain ⟨n4, rfl, b4⟩ := cell_int k4 Try.underlying3
    obtain ⟨n5, rfl, b5⟩ := cell_int k5 Try.underlying3
    exact ⟨⟨n0, n1, n2, n3, n4, n5⟩, ⟨has_bounds b0, has_bounds b1, has_bounds b2, has_bounds b3, has_bounds b4, has_bounds b5⟩, fun ρ => ⟨_, rfl, ⟨rfl, rfl⟩, ⟨rfl, rfl⟩, ⟨rfl, rfl⟩, ⟨rfl, rfl⟩, ⟨rfl, rfl⟩, ⟨rfl, rfl⟩, trivial⟩⟩
theorem open_ctl {H : Type} {enc : TypeId × Value → H} {W : World} {base : Nat} {v : Value} {d : DataW H} {ps : List MemPlace} (h : Value.okWide Try.prog W .any base 26 v) (hd : DataW.Trod enc Try.prog W 0 (fun _ => true) true 26 v d ps) :
    ∃ (L : SE.Loc) (c : Ctl), CtlWf c ∧ ∀ (ρ : Rho) (i : Nat), ρ i = L → T.Rel ρ (ctlT i c) v ∧ RegOk ρ W i (.row (rowsV c.sh.rows) 5 101 false) := by
  obtain ⟨cs, rfl, hlen, hc⟩ := okWide_cells (.inl ⟨_, Try.underlying26⟩) _ typesCtl cellsCtl h
  match cs, hlen with
  | [c0, c1, c2, c3, c4, c5, c6, c7, c8, c9], _ =>
    obtain ⟨x0, e0, k0⟩ := hc 0 5 rfl
    obtain ⟨x1, e1, k1⟩ := hc 1 5 rfl
    obtain ⟨x2, e2, k2⟩ := hc 2 3 rfl
    obtain ⟨x3, e3, k3⟩ := hc 3 3 rfl
    obtain ⟨x4, e4, k4⟩ := hc 4 3 rfl
    obtain ⟨x5, e5, k5⟩ := hc 5 3 rfl
    obtain ⟨x6, e6, k6⟩ := hc 6 3 rfl
    obtain ⟨x7, e7, k7⟩ := hc 7 3 rfl
    obtain ⟨x8, e8, k8⟩ := hc 8 3 rfl
    obtain ⟨x9, e9, k9⟩ := hc 9 22 rfl
    simp only [List.getElem?_cons_zero, List.getElem?_cons_succ, Option.some.injEq] at e0 e1 e2 e3 e4 e5 e6 e7 e8 e9
    subst e0; subst e1; subst e2; subst e3; subst e4; subst e5; subst e6; subst e7; subst e8; subst e9
    obtain ⟨n0, rfl, b0⟩ := cell_int k0 Try.underlying5
    obtain ⟨n1, rfl, b1⟩ := cell_int k1 Try.underlying5
    obtain ⟨n2, rfl, b2⟩ := cell_int k2 Try.underlying3
    obtain ⟨n3, rfl, b3⟩ := cell_int k3 Try.underlying3
    obtain ⟨n4, rfl, b4⟩ := cell_int k4 Try.underlying3
    obtain ⟨n5, rfl, b5⟩ := cell_int k5 Try.underlying3
    obtain ⟨n6, rfl, b6⟩ := cell_int k6 Try.underlying3
    obtain ⟨n7, rfl, b7⟩ := cell_int k7 Try.underlying3
    obtain ⟨n8, rfl, b8⟩ := cell_int k8 Try.underlying3
    obtain ⟨fuel, ht⟩ := hd
    obtain ⟨xs, n, _, _, _, hxl, hx⟩ := DataW.trod_struct Try.underlying26 ht
    have h7 := hx 7 _ rfl
    obtain ⟨y7, hy7⟩ : ∃ y, xs[7]? = some y := ⟨_, List.getElem?_eq_getElem (by rw [hxl]; decide)⟩
    rw [hy7] at h7
    obtain ⟨zs, n', _, _, _, hzl, hz⟩ := DataW.trod_struct Try.underlying24 h7
    have h2 := hz 2 _ rfl
    obtain ⟨y2, hy2⟩ : ∃ y, zs[2]? = some y := ⟨_, List.getElem?_eq_getElem (by rw [hzl]; decide)⟩
    rw [hy2] at h2
    obtain ⟨L, rows, hh, hl, hr⟩ := open_leafs_cell 3 Try.underlying22 leaf48 cells48 k9 h2
    obtain ⟨l, g1, g2, g3⟩ := rows_of rows hh
    refine ⟨L, ⟨n0, n1, n2, n3, n4, n5, n6, ⟨n7, n8, l⟩⟩, ⟨has_bounds b0, has_bounds b1, has_bounds b2, has_bounds b3, has_bounds b4, has_bounds b5, has_bounds b6, ⟨has_bounds b7, has_bounds b8, g3, by show l.length ≤ _; omega⟩⟩, fun ρ i hi => ?_⟩
    obtain ⟨q1, q2⟩ := hr ρ i hi
    rw [← g1] at q1
    rw [g2] at q2
    exact ⟨⟨_, rfl, ⟨rfl, rfl⟩, ⟨rfl, rfl⟩, ⟨rfl, rfl⟩, ⟨rfl, rfl⟩, ⟨rfl, rfl⟩, ⟨rfl, rfl⟩, ⟨rfl, rfl⟩, ⟨rfl, rfl⟩, ⟨rfl, rfl⟩, q1, trivial⟩, q2⟩
end Go.Proofs.Ytiijiofhofkhkaa
