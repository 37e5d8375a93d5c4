/- Contracts of functions of the program, or a row of the seat, proved out of them. No condition beyond those that stand in each statement. -/
import Derived.Test.YtlefpinmgabmfaaGreatS14pO
import Derived.Test.YtlefpinmgabmfaaGreatS14mF
import Derived.Test.YtlefpinmgabmfaaGreatSeD
import Derived.Test.YtlefpinmgabmfaaGreatRows
namespace Go.Proofs.YtlefpinmgabmfaaGreat
open Go Go.SE Go.RowKit Go.WideShapes Go.ChangeShapes Go.Proofs.S14
set_option maxRecDepth 100000
set_option maxHeartbeats 4000000

theorem flat_cellsV {w : World} {blk K : Nat} : ∀ (rows : List (List Value)) (b : Nat), (∀ ns ∈ rows, ns.length = K) → (∀ (i : Nat) ns, rows[i]? = some ns → ∀ (r : Nat) x, ns[r]? = some x → w.cell? ⟨blk, b + i * K + r, none⟩ = some x) →
    ∀ (j : Nat) x, (rows.flatMap id)[j]? = some x → w.cell? ⟨blk, b + j, none⟩ = some x
  | [], b, _, _, j, x, hj => by simp at hj
  | ns :: rows, b, hh, hc, j, x, hj => by
    have hl := hh ns (by simp)
    rw [List.flatMap_cons] at hj
    change (ns ++ rows.flatMap id)[j]? = some x at hj
    by_cases hlt : j < K
    · rw [List.getElem?_append_left (by omega)] at hj
      have := hc 0 ns rfl j x hj
      simpa using this
    · rw [List.getElem?_append_right (by omega)] at hj
      have ih := flat_cellsV (w := w) (blk := blk) (K := K) rows (b + K) (fun n hn => hh n (by simp [hn])) (fun i n hi r y hy => by
        have := hc (i + 1) n (by simpa using hi) r y hy
        rw [Nat.add_mul] at this
        rw [show b + K + i * K + r = b + (i * K + 1 * K) + r by omega]
        exact this) (j - ns.length) x hj
      rw [show b + K + (j - ns.length) = b + j by omega] at ih
      exact ih

/-- A slice of values of a known shape that came in. -/
theorem open_shapes {H : Type} {enc : TypeId × Value → H} {P : Program} {W : World} {base : Nat} {t e : TypeId} {v : Value} {d : DataW H} {ps : List MemPlace} (K : Nat) {Q : List Value → Prop} (ht : P.underlying t = some (.slice e)) (hc : P.cellsOf e = K)
    (hQ : ∀ (fuel : Nat) (cs : List Value) x, DataW.trod enc P W 0 (fun _ => true) true fuel e cs = some x → Q cs ∧ cs.length = K ∧ ∀ y ∈ cs, y.oneCell' = true)
    (hval : Value.okWide P W .any base t v) (h : DataW.Trod enc P W 0 (fun _ => true) true t v d ps) :
    ∃ (L : SE.Loc) (rows : List (List Value)), (∀ r ∈ rows, Q r) ∧ ∀ (ρ : Rho) (i : Nat), ρ i = L → S.Rel ρ (.sl i 0 rows.length) v ∧ RegOk ρ W i (.row (rows.flatMap id) K e false) := by
  have hval2 := hval
  obtain ⟨a1, len, cap, rfl⟩ := okWide_slice ht hval
  obtain ⟨fuel, hf⟩ := h
  rcases DataW.trod_slice ht hf with ⟨hcs, _⟩ | ⟨a, len', cap', elems, rest, n, _, hcs, _, hb, hl, hm, hlen, hel, _, _⟩
  · simp [Value.cells] at hcs
    obtain ⟨rfl, rfl, rfl⟩ := hcs
    refine ⟨⟨0, 0, 0, K, true⟩, [], by simp, fun ρ i hi => ⟨.inl ?_, ?_⟩⟩
    · rw [hi]; exact ⟨rfl, rfl, rfl, rfl, rfl⟩
    · exact ⟨by rw [hi], by simp, .inl ⟨by rw [hi], by rw [hi], rfl⟩⟩
  · simp [Value.cells] at hcs
    obtain ⟨rfl, rfl, rfl⟩ := hcs
    have hspot : a.spot = none := by
      simp only [Value.okWide, ht, Cell.okWide, Cell.ok] at hval2
      exact hval2.2.2.2.1
    obtain ⟨ab, ao, spot⟩ := a
    simp only at hspot
    subst hspot
    have each : ∀ i, i < len → ∃ ns : List Value, (Q ns ∧ ns.length = K ∧ ∀ y ∈ ns, y.oneCell' = true) ∧ ∀ (r : Nat) x, ns[r]? = some x → W.cell? ⟨ab, ao + i * K + r, none⟩ = some x := by
      intro i hi
      have h1 := hel i hi
      rw [List.getElem?_eq_getElem (by omega), Option.bind_eq_some_iff] at h1
      obtain ⟨cs, h2, h3⟩ := h1
      have h4 := hQ n cs _ h3
      refine ⟨cs, h4, fun r x hx => ?_⟩
      unfold World.cells? at h2
      rw [if_pos (Nat.zero_le _)] at h2
      have hr : r < P.cellsOf e := by
        have := (List.getElem?_eq_some_iff.1 hx).1
        rw [h4.2.1] at this; omega
      have h5 := mapM_some_get h2 r r (by simp [hr])
      rw [hx, hc] at h5
      rw [addr_add, addr_add] at h5
      exact h5
    have build : ∀ m, m ≤ len → ∃ rows : List (List Value), rows.length = m ∧ ∀ (i : Nat) ns, rows[i]? = some ns → (Q ns ∧ ns.length = K ∧ ∀ y ∈ ns, y.oneCell' = true) ∧ ∀ (r : Nat) x, ns[r]? = some x → W.cell? ⟨ab, ao + i * K + r, none⟩ = some x := by
      intro m
      induction m with
      | zero => intro _; exact ⟨[], rfl, by simp⟩
      | succ m ih =>
        intro hm
        obtain ⟨rows, h1, h2⟩ := ih (by omega)
        obtain ⟨ns, h3⟩ := each m (by omega)
        refine ⟨rows ++ [ns], by simp [h1], fun i y hy => ?_⟩
        by_cases hi : i < rows.length
        · rw [List.getElem?_append_left hi] at hy; exact h2 i y hy
        · rw [List.getElem?_append_right (by omega)] at hy
          have e0 : i - rows.length = 0 := by
            have := (List.getElem?_eq_some_iff.1 hy).1
            simp at this; omega
          rw [e0] at hy
          simp at hy
          subst hy
          have : i = m := by omega
          subst this
          exact h3
    obtain ⟨rows, h1, h2⟩ := build len (Nat.le_refl _)
    have hall : ∀ ns ∈ rows, Q ns ∧ ns.length = K ∧ ∀ y ∈ ns, y.oneCell' = true := fun ns hns => by
      obtain ⟨i, hi⟩ := List.getElem?_of_mem hns
      exact (h2 i ns hi).1
    refine ⟨⟨ab, ao, cap, K, false⟩, rows, fun r hr => (hall r hr).1, fun ρ i hi => ⟨.inr ?_, ?_⟩⟩
    · rw [hi, h1]
      exact ⟨rfl, by simpa using hl, ⟨ab, ao, none⟩, by simp, fun _ => by simp⟩
    · refine ⟨by rw [hi], fun x hx => ?_, .inr ⟨by rw [hi], fun j x hj => ?_⟩⟩
      · obtain ⟨ns, q1, q2⟩ := List.mem_flatMap.1 hx
        exact (hall ns q1).2.2 x q2
      · rw [hi]
        exact flat_cellsV rows ao (fun ns hns => (hall ns hns).2.1) (fun i ns hi => (h2 i ns hi).2) j x hj

theorem cellsRw : Tryz.prog.cellsOf 29 = 1 := by kernel_rfl
theorem rws_of : ∀ (rows : List (List Value)), (∀ r ∈ rows, ∃ d : M4.Rw, r = [M4.rwV d]) → ∃ l : List M4.Rw, l.length = rows.length ∧ rows.flatMap id = M4.rwsV l
  | [], _ => ⟨[], rfl, rfl⟩
  | r :: rows, h => by
    obtain ⟨l, h1, h2⟩ := rws_of rows fun x hx => h x (by simp [hx])
    obtain ⟨d, hd⟩ := h r (by simp)
    refine ⟨d :: l, by simp [h1], ?_⟩
    rw [List.flatMap_cons, h2, hd]
    rfl
theorem open_uint8 {H : Type} {enc : TypeId × Value → H} {W : World} {base : Nat} {v : Value} {d : DataW H} {ps : List MemPlace} (h : Value.okWide Tryz.prog W .any base 56 v) (hd : DataW.Trod enc Tryz.prog W 0 (fun _ => true) true 56 v d ps) :
    ∃ (L : SE.Loc) (l : List M4.Rw), True ∧ ∀ (ρ : Rho) (i : Nat), ρ i = L → S.Rel ρ (.sl i 0 l.length) v ∧ RegOk ρ W i (.row (M4.rwsV l) 1 29 false) := by
  obtain ⟨L, rows, h1, h2⟩ := open_shapes 1 (Q := fun r => ∃ d : M4.Rw, r = [M4.rwV d]) Tryz.underlying56 cellsRw (fun fuel cs x hx => by
    rcases DataW.trod_slice Tryz.underlying29 hx with ⟨hcs, _⟩ | ⟨a, len, cap, _, _, _, _, hcs, _⟩
    · subst hcs
      exact ⟨⟨.nil, rfl⟩, rfl, by intro y hy; simp at hy; subst hy; rfl⟩
    · subst hcs
      exact ⟨⟨.at a len cap, rfl⟩, rfl, by intro y hy; simp at hy; subst hy; rfl⟩) h hd
  obtain ⟨l, g1, g2⟩ := rws_of rows h1
  refine ⟨L, l, trivial, fun ρ i hi => ?_⟩
  obtain ⟨k1, k2⟩ := h2 ρ i hi
  rw [← g1] at k1
  rw [g2] at k2
  exact ⟨k1, k2⟩
end Go.Proofs.YtlefpinmgabmfaaGreat
