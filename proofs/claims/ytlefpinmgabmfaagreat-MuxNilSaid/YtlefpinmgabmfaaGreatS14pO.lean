/- Contracts of functions of the program, or a row of the seat, proved out of them. No condition beyond those that stand in each statement. -/
import Derived.Test.YtlefpinmgabmfaaGreatS14pc3
import Derived.Test.YtlefpinmgabmfaaGreatSeD
import Derived.Test.YtlefpinmgabmfaaGreatRows
namespace Go.Proofs.YtlefpinmgabmfaaGreat
open Go Go.SE Go.RowKit Go.WideShapes Go.ChangeShapes Go.Proofs.S14 Go.Proofs.S14.C1
set_option maxRecDepth 100000
set_option maxHeartbeats 4000000

theorem own : ownKnob Tryz.prog.godebug = none := by kernel_rfl
theorem laid : laidOutB Tryz.prog = true := by kernel_rfl
theorem cells5 : Tryz.prog.cellsOf 5 = 1 := by kernel_rfl
theorem types23 : Tryz.prog.cellTypes Tryz.prog.depth 23 = some (List.replicate 4 3) := by kernel_rfl
theorem types26 : Tryz.prog.cellTypes Tryz.prog.depth 26 = some (List.replicate 65 3) := by kernel_rfl
theorem cells26 : Tryz.prog.cellsOf 26 = 65 := by kernel_rfl
theorem types29 : Tryz.prog.cellTypes Tryz.prog.depth 55 = some [3, 3, 53] := by kernel_rfl
theorem cells29 : Tryz.prog.cellsOf 55 = 3 := by kernel_rfl
theorem leaf48 : leafInts Tryz.prog 3 126 = some [.i64, .i64, .i64, .i64, .i64] := by kernel_rfl

theorem ints_of {w : World} {base : Nat} : ∀ (cs : List Value) (n : Nat), cs.length = n → (∀ (i : Nat) (u : TypeId), (List.replicate n 3)[i]? = some u → ∃ x, cs[i]? = some x ∧ Cell.okWide Tryz.prog w .any base u x) →
    ∃ ns : List Int, cs = ints .i64 ns ∧ ns.length = n ∧ ∀ x ∈ ns, isI x
  | [], n, h, _ => ⟨[], rfl, h, by simp⟩
  | c :: cs, 0, h, _ => by simp at h
  | c :: cs, n + 1, h, hc => by
    obtain ⟨x, e, k⟩ := hc 0 3 rfl
    simp only [List.getElem?_cons_zero, Option.some.injEq] at e
    subst e
    obtain ⟨i, rfl, b⟩ := cell_int k Tryz.underlying3
    obtain ⟨ns, rfl, h1, h2⟩ := ints_of cs n (by simpa using h) fun i u hu => by
      have := hc (i + 1) u (by rw [List.replicate_succ]; simpa using hu)
      simpa using this
    refine ⟨i :: ns, rfl, by simp [h1], fun x hx => ?_⟩
    rcases List.mem_cons.1 hx with rfl | hx
    · exact has_bounds b
    · exact h2 x hx

theorem tab_of {ns : List Int} (h1 : ns.length = 65) (h2 : ∀ x ∈ ns, isI x) : ∃ t : Tab, t.Wf ∧ ints .i64 ns = .int .i64 t.ver :: t.rows.flatMap (fun e => [.int .i64 e.cur, .int .i64 e.prev, .int .i64 e.gen, .int .i64 e.tick]) := by
  match ns, h1, h2 with
  | a0 :: a1 :: a2 :: a3 :: a4 :: a5 :: a6 :: a7 :: a8 :: a9 :: a10 :: a11 :: a12 :: a13 :: a14 :: a15 :: a16 :: a17 :: a18 :: a19 :: a20 :: a21 :: a22 :: a23 :: a24 :: a25 :: a26 :: a27 :: a28 :: a29 :: a30 :: a31 :: a32 :: a33 :: a34 :: a35 :: a36 :: a37 :: a38 :: a39 :: a40 :: a41 :: a42 :: a43 :: a44 :: a45 :: a46 :: a47 :: a48 :: a49 :: a50 :: a51 :: a52 :: a53 :: a54 :: a55 :: a56 :: a57 :: a58 :: a59 :: a60 :: a61 :: a62 :: a63 :: a64 :: [], _, h2 =>
    refine ⟨⟨a0, [⟨a1, a2, a3, a4⟩, ⟨a5, a6, a7, a8⟩, ⟨a9, a10, a11, a12⟩, ⟨a13, a14, a15, a16⟩, ⟨a17, a18, a19, a20⟩, ⟨a21, a22, a23, a24⟩, ⟨a25, a26, a27, a28⟩, ⟨a29, a30, a31, a32⟩, ⟨a33, a34, a35, a36⟩, ⟨a37, a38, a39, a40⟩, ⟨a41, a42, a43, a44⟩, ⟨a45, a46, a47, a48⟩, ⟨a49, a50, a51, a52⟩, ⟨a53, a54, a55, a56⟩, ⟨a57, a58, a59, a60⟩, ⟨a61, a62, a63, a64⟩]⟩, ⟨h2 _ (by simp), rfl, fun e he => ?_⟩, rfl⟩
    simp only [List.mem_cons, List.not_mem_nil, or_false] at he
    rcases he with rfl | rfl | rfl | rfl | rfl | rfl | rfl | rfl | rfl | rfl | rfl | rfl | rfl | rfl | rfl | rfl <;> exact ⟨h2 _ (by simp), h2 _ (by simp), h2 _ (by simp), h2 _ (by simp)⟩
theorem tabS_rel {ρ : Rho} {t : Tab} (h : t.rows.length = 16) : LRel ρ (tabS t) (.int .i64 t.ver :: t.rows.flatMap (fun e => [.int .i64 e.cur, .int .i64 e.prev, .int .i64 e.gen, .int .i64 e.tick])) := by
  obtain ⟨v, l⟩ := t
  obtain ⟨a0, a1, a2, a3, a4, a5, a6, a7, a8, a9, a10, a11, a12, a13, a14, a15, rfl⟩ := len16 h
  repeat' (first | exact ⟨rfl, rfl⟩ | exact trivial | apply And.intro)
theorem open_tab {W : World} {base : Nat} {v : Value} (h : Value.okWide Tryz.prog W .any base 26 v) :
    ∃ t : Tab, t.Wf ∧ ∀ (ρ : Rho), T.Rel ρ (tabT t) v := by
  obtain ⟨cs, rfl, hlen, hc⟩ := okWide_cells (.inl ⟨_, Tryz.underlying26⟩) _ types26 cells26 h
  obtain ⟨ns, rfl, h1, h2⟩ := ints_of cs 65 hlen hc
  obtain ⟨t, ht, e⟩ := tab_of h1 h2
  rw [e]
  exact ⟨t, ht, fun ρ => ⟨_, rfl, tabS_rel ht.len⟩⟩
theorem open_ent {W : World} {base : Nat} {v : Value} (h : Value.okWide Tryz.prog W .any base 23 v) :
    ∃ e : Ent, e.Wf ∧ ∀ (ρ : Rho), T.Rel ρ (entT e) v := by
  obtain ⟨cs, rfl, hlen, hc⟩ := okWide_cells (.inl ⟨_, Tryz.underlying23⟩) _ types23 cells23 h
  obtain ⟨ns, rfl, h1, h2⟩ := ints_of cs 4 hlen hc
  match ns, h1, h2 with
  | [a0, a1, a2, a3], _, h2 => exact ⟨⟨a0, a1, a2, a3⟩, ⟨h2 _ (by simp), h2 _ (by simp), h2 _ (by simp), h2 _ (by simp)⟩, fun ρ => ⟨_, rfl, ⟨rfl, rfl⟩, ⟨rfl, rfl⟩, ⟨rfl, rfl⟩, ⟨rfl, rfl⟩, trivial⟩⟩

theorem rows_of : ∀ (rows : List (List Int)), (∀ ns ∈ rows, HasAll [.i64, .i64, .i64, .i64, .i64] ns) → ∃ l : List Row, l.length = rows.length ∧ rows.flatMap (intsOf [.i64, .i64, .i64, .i64, .i64]) = rowsV l ∧ ∀ r ∈ l, isI r.bkt ∧ r.ent.Wf
  | [], _ => ⟨[], rfl, rfl, by simp⟩
  | ns :: rows, h => by
    obtain ⟨l, h1, h2, h3⟩ := rows_of rows fun n hn => h n (by simp [hn])
    have h0 := h ns (by simp)
    match ns, h0 with
    | [a, b, c, d, e], ⟨q1, q2, q3, q4, q5, _⟩ =>
      refine ⟨⟨a, ⟨b, c, d, e⟩⟩ :: l, by simp [h1], by rw [List.flatMap_cons, h2]; rfl, fun r hr => ?_⟩
      rcases List.mem_cons.1 hr with rfl | hr
      · exact ⟨has_bounds q1, has_bounds q2, has_bounds q3, has_bounds q4, has_bounds q5⟩
      · exact h3 r hr
structure ShWf (s : Sh) : Prop where
  base : isI s.base
  to : isI s.to
  rows : ∀ r ∈ s.rows, isI r.bkt ∧ r.ent.Wf
  len : s.rows.length ≤ maxLen
theorem open_sh {H : Type} {enc : TypeId × Value → H} {W : World} {base : Nat} {v : Value} {d : DataW H} {ps : List MemPlace} (h : Value.okWide Tryz.prog W .any base 55 v) (hd : DataW.Trod enc Tryz.prog W 0 (fun _ => true) true 55 v d ps) :
    ∃ (L : SE.Loc) (s : Sh), ShWf s ∧ ∀ (ρ : Rho) (i : Nat), ρ i = L → T.Rel ρ (shT i s) v ∧ RegOk ρ W i (.row (rowsV s.rows) 5 126 false) := by
  obtain ⟨cs, rfl, hlen, hc⟩ := okWide_cells (.inl ⟨_, Tryz.underlying55⟩) _ types29 cells29 h
  match cs, hlen with
  | [c0, c1, c2], _ =>
    obtain ⟨x0, e0, k0⟩ := hc 0 3 rfl
    obtain ⟨x1, e1, k1⟩ := hc 1 3 rfl
    obtain ⟨x2, e2, k2⟩ := hc 2 53 rfl
    simp only [List.getElem?_cons_zero, List.getElem?_cons_succ, Option.some.injEq] at e0 e1 e2
    subst e0; subst e1; subst e2
    obtain ⟨n0, rfl, b0⟩ := cell_int k0 Tryz.underlying3
    obtain ⟨n1, rfl, b1⟩ := cell_int k1 Tryz.underlying3
    obtain ⟨fuel, ht⟩ := hd
    obtain ⟨xs, n, _, _, _, hxl, hx⟩ := DataW.trod_struct Tryz.underlying55 ht
    have h2 := hx 2 _ rfl
    obtain ⟨y2, hy2⟩ : ∃ y, xs[2]? = some y := ⟨_, List.getElem?_eq_getElem (by rw [hxl]; decide)⟩
    rw [hy2] at h2
    obtain ⟨L, rows, hh, hl, hr⟩ := open_leafs_cell 3 Tryz.underlying53 leaf48 cells48 k2 h2
    obtain ⟨l, g1, g2, g3⟩ := rows_of rows hh
    refine ⟨L, ⟨n0, n1, l⟩, ⟨has_bounds b0, has_bounds b1, g3, by show l.length ≤ _; omega⟩, fun ρ i hi => ?_⟩
    obtain ⟨q1, q2⟩ := hr ρ i hi
    rw [← g1] at q1
    rw [g2] at q2
    exact ⟨⟨_, rfl, ⟨rfl, rfl⟩, ⟨rfl, rfl⟩, q1, trivial⟩, q2⟩

end Go.Proofs.YtlefpinmgabmfaaGreat

namespace Go.Proofs.YtlefpinmgabmfaaGreat
open Go Go.SE Go.RowKit Go.WideShapes Go.ChangeShapes Go.Proofs.S14 Go.Proofs.S14.C1
set_option maxRecDepth 100000
set_option maxHeartbeats 4000000

theorem types52 : Tryz.prog.cellTypes Tryz.prog.depth 28 = some (4 :: List.replicate 65 3) := by kernel_rfl
theorem cells52 : Tryz.prog.cellsOf 28 = 66 := by kernel_rfl
theorem cell_bool {w : World} {r : Reach} {base : Nat} {v : Value} (h : Cell.okWide Tryz.prog w r base 4 v) : ∃ b, v = .bool b := by
  simp only [Cell.okWide, Tryz.underlying4] at h
  cases v <;> simp_all [Cell.ok]
theorem open_cl {W : World} {base : Nat} {v : Value} (h : Value.okWide Tryz.prog W .any base 28 v) :
    ∃ c : Cl, c.Wf ∧ ∀ (ρ : Rho), T.Rel ρ (clT c) v := by
  obtain ⟨cs, rfl, hlen, hc⟩ := okWide_cells (.inl ⟨_, Tryz.underlying28⟩) _ types52 cells52 h
  match cs, hlen with
  | c0 :: cs, hlen =>
    obtain ⟨x0, e0, k0⟩ := hc 0 4 rfl
    simp only [List.getElem?_cons_zero, Option.some.injEq] at e0
    subst e0
    obtain ⟨b, rfl⟩ := cell_bool k0
    obtain ⟨ns, rfl, h1, h2⟩ := ints_of cs 65 (by simpa using hlen) fun i u hu => by
      have := hc (i + 1) u (by simpa using hu)
      simpa using this
    obtain ⟨t, ht, e⟩ := tab_of h1 h2
    rw [e]
    exact ⟨⟨b, t⟩, ⟨ht⟩, fun ρ => ⟨_, rfl, ⟨rfl, rfl⟩, tabS_rel ht.len⟩⟩
end Go.Proofs.YtlefpinmgabmfaaGreat
