/- Contracts of functions of the program, or a row of the seat, proved out of them. No condition beyond those that stand in each statement. -/
import Derived.Test.YtiijiofhofkhkaaS19g9S
import Derived.Test.YtiijiofhofkhkaaS19gB3
import Derived.Test.YtiijiofhofkhkaaSeD
import Derived.Test.YtiijiofhofkhkaaRows
namespace Go.Proofs.Ytiijiofhofkhkaa
open Go Go.SE Go.RowKit Go.WideShapes Go.ChangeShapes Go.Proofs.S19
set_option maxRecDepth 100000
set_option maxHeartbeats 4000000

theorem flat_cellsV {w : World} {blk K : Nat} : ∀ (rows : List (List Value)) (b : Nat), (∀ ns ∈ rows, ns.length = K) → (∀ (i : Nat) ns, rows[i]? = some ns → ∀ (r : Nat) x, ns[r]? = some x → w.cell? ⟨blk, b + i * K + r, none⟩ = some x) →
    ∀ (j : Nat) x, (rows.flatMap id)[j]? = some x → w.cell? ⟨blk, b + j, none⟩ = some x
  | [], b, _, _, j, x, hj => by simp at hj
  | ns :: rows, b, hh, hc, j, x, hj => by
    have hl := hh ns (by simp)
    rw [List.flatMap_cons] at hj
    change (ns ++ rows.flatMap id)[j]? = some x at hj
    by_cases hlt : j < K
    · rw [List.getElem?_append_left (by omega)] at hj
      have := hc 0 ns rfl j x hj
      simpa using this
    · rw [List.getElem?_append_right (by omega)] at hj
      have ih := flat_cellsV (w := w) (blk := blk) (K := K) rows (b + K) (fun n hn => hh n (by simp [hn])) (fun i n hi r y hy => by
        have := hc (i + 1) n (by simpa using hi) r y hy
        rw [Nat.add_mul] at this
        rw [show b + K + i * K + r = b + (i * K + 1 * K) + r by omega]
        exact this) (j - ns.length) x hj
      rw [show b + K + (j - ns.length) = b + j by omega] at ih
      exact ih

/-- A slice of values of a known shape that came in. -/
theorem open_shapes {H : Type} {enc : TypeId × Value → H} {P : Program} {W : World} {base : Nat} {t e : TypeId} {v : Value} {d : DataW H} {ps : List MemPlace} (K : Nat) {Q : List Value → Prop} (ht : P.underlying t = some (.slice e)) (hc : P.cellsOf e = K)
    (hQ : ∀ (fuel : Nat) (cs : List Value) x, DataW.trod enc P W 0 (fun _ => true) true fuel e cs = some x → Q cs ∧ cs.length = K ∧ ∀ y ∈ cs, y.oneCell' = true)
    (hval : Value.okWide P W .any base t v) (h : DataW.Trod enc P W 0 (fun _ => true) true t v d ps) :
    ∃ (L : SE.Loc) (rows : List (List Value)), (∀ r ∈ rows, Q r) ∧ ∀ (ρ : Rho) (i : Nat), ρ i = L → S.Rel ρ (.sl i 0 rows.length) v ∧ RegOk ρ W i (.row (rows.flatMap id) K e false) := by
  have hval2 := hval
  obtain ⟨a1, len, cap, rfl⟩ := okWide_slice ht hval
  obtain ⟨fuel, hf⟩ := h
  rcases DataW.trod_slice ht hf with ⟨hcs, _⟩ | ⟨a, len', cap', elems, rest, n, _, hcs, _, hb, hl, hm, hlen, hel, _, _⟩
  · simp [Value.cells] at hcs
    obtain ⟨rfl, rfl, rfl⟩ := hcs
    refine ⟨⟨0, 0, 0, K, true⟩, [], by simp, fun ρ i hi => ⟨.inl ?_, ?_⟩⟩
    · rw [hi]; exact ⟨rfl, rfl, rfl, rfl, rfl⟩
    · exact ⟨by rw [hi], by simp, .inl ⟨by rw [hi], by rw [hi], rfl⟩⟩
  · simp [Value.cells] at hcs
    obtain ⟨rfl, rfl, rfl⟩ := hcs
    have hspot : a.spot = none := by
      simp only [Value.okWide, ht, Cell.okWide, Cell.ok] at hval2
      exact hval2.2.2.2.1
    obtain ⟨ab, ao, spot⟩ := a
    simp only at hspot
    subst hspot
    have each : ∀ i, i < len → ∃ ns : List Value, (Q ns ∧ ns.length = K ∧ ∀ y ∈ ns, y.oneCell' = true) ∧ ∀ (r : Nat) x, ns[r]? = some x → W.cell? ⟨ab, ao + i * K + r, none⟩ = some x := by
      intro i hi
      have h1 := hel i hi
      rw [List.getElem?_eq_getElem (by omega), Option.bind_eq_some_iff] at h1
      obtain ⟨cs, h2, h3⟩ := h1
      have h4 := hQ n cs _ h3
      refine ⟨cs, h4, fun r x hx => ?_⟩
      unfold World.cells? at h2
      rw [if_pos (Nat.zero_le _)] at h2
      have hr : r < P.cellsOf e := by
        have := (List.getElem?_eq_some_iff.1 hx).1
        rw [h4.2.1] at this; omega
      have h5 := mapM_some_get h2 r r (by simp [hr])
      rw [hx, hc] at h5
      rw [addr_add, addr_add] at h5
      exact h5
    have build : ∀ m, m ≤ len → ∃ rows : List (List Value), rows.length = m ∧ ∀ (i : Nat) ns, rows[i]? = some ns → (Q ns ∧ ns.length = K ∧ ∀ y ∈ ns, y.oneCell' = true) ∧ ∀ (r : Nat) x, ns[r]? = some x → W.cell? ⟨ab, ao + i * K + r, none⟩ = some x := by
      intro m
      induction m with
      | zero => intro _; exact ⟨[], rfl, by simp⟩
      | succ m ih =>
        intro hm
        obtain ⟨rows, h1, h2⟩ := ih (by omega)
        obtain ⟨ns, h3⟩ := each m (by omega)
        refine ⟨rows ++ [ns], by simp [h1], fun i y hy => ?_⟩
        by_cases hi : i < rows.length
        · rw [List.getElem?_append_left hi] at hy; exact h2 i y hy
        · rw [List.getElem?_append_right (by omega)] at hy
          have e0 : i - rows.length = 0 := by
            have := (List.getElem?_eq_some_iff.1 hy).1
            simp at this; omega
          rw [e0] at hy
          simp at hy
          subst hy
          have : i = m := by omega
          subst this
          exact h3
    obtain ⟨rows, h1, h2⟩ := build len (Nat.le_refl _)
    have hall : ∀ ns ∈ rows, Q ns ∧ ns.length = K ∧ ∀ y ∈ ns, y.oneCell' = true := fun ns hns => by
      obtain ⟨i, hi⟩ := List.getElem?_of_mem hns
      exact (h2 i ns hi).1
    refine ⟨⟨ab, ao, cap, K, false⟩, rows, fun r hr => (hall r hr).1, fun ρ i hi => ⟨.inr ?_, ?_⟩⟩
    · rw [hi, h1]
      exact ⟨rfl, by simpa using hl, ⟨ab, ao, none⟩, by simp, fun _ => by simp⟩
    · refine ⟨by rw [hi], fun x hx => ?_, .inr ⟨by rw [hi], fun j x hj => ?_⟩⟩
      · obtain ⟨ns, q1, q2⟩ := List.mem_flatMap.1 hx
        exact (hall ns q1).2.2 x q2
      · rw [hi]
        exact flat_cellsV rows ao (fun ns hns => (hall ns hns).2.1) (fun i ns hi => (h2 i ns hi).2) j x hj

theorem cellsDd : Try.prog.cellsOf 49 = 13 := by kernel_rfl
theorem one_of {a b : Value} (h : [a] = [b]) : a = b := by simpa using h
theorem dd_of {H : Type} {enc : TypeId × Value → H} {W : World} {fuel : Nat} {cs : List Value} {x : DataW H × List MemPlace} (h : DataW.trod enc Try.prog W 0 (fun _ => true) true fuel 49 cs = some x) :
    ∃ d : Dd, DdWf d ∧ cs = ddV d := by
  obtain ⟨xs, n, _, _, hl, hxl, hx⟩ := DataW.trod_struct Try.underlying49 h
  rw [cellsDd] at hl
  match cs, hl with
  | [c0, c1, c2, c3, c4, c5, c6, c7, c8, c9, c10, c11, c12], _ =>
    have f0 := hx 0 _ rfl
    have f1 := hx 1 _ rfl
    have f2 := hx 2 _ rfl
    have f3 := hx 3 _ rfl
    obtain ⟨y0, hy0⟩ : ∃ y, xs[0]? = some y := ⟨_, List.getElem?_eq_getElem (by rw [hxl]; decide)⟩
    obtain ⟨y1, hy1⟩ : ∃ y, xs[1]? = some y := ⟨_, List.getElem?_eq_getElem (by rw [hxl]; decide)⟩
    obtain ⟨y2, hy2⟩ : ∃ y, xs[2]? = some y := ⟨_, List.getElem?_eq_getElem (by rw [hxl]; decide)⟩
    obtain ⟨y3, hy3⟩ : ∃ y, xs[3]? = some y := ⟨_, List.getElem?_eq_getElem (by rw [hxl]; decide)⟩
    rw [hy0] at f0
    rw [hy1] at f1
    rw [hy2] at f2
    rw [hy3] at f3
    obtain ⟨m0, e0, _, _⟩ := DataW.trod_int Try.underlying3 f0
    obtain ⟨m1, e1, _, _⟩ := DataW.trod_int Try.underlying3 f1
    obtain ⟨m2, e2, _, _⟩ := DataW.trod_int Try.underlying3 f2
    have we0 : c0 = _ := one_of e0
    have we1 : c1 = _ := one_of e1
    have we2 : c2 = _ := one_of e2
    obtain ⟨zs, n2, _, _, _, hzl, hz⟩ := DataW.trod_struct Try.underlying26 f3
    have g0 := hz 0 _ rfl
    have g1 := hz 1 _ rfl
    have g2 := hz 2 _ rfl
    have g3 := hz 3 _ rfl
    have g4 := hz 4 _ rfl
    have g5 := hz 5 _ rfl
    have g6 := hz 6 _ rfl
    have g7 := hz 7 _ rfl
    obtain ⟨z0, hz0⟩ : ∃ y, zs[0]? = some y := ⟨_, List.getElem?_eq_getElem (by rw [hzl]; decide)⟩
    obtain ⟨z1, hz1⟩ : ∃ y, zs[1]? = some y := ⟨_, List.getElem?_eq_getElem (by rw [hzl]; decide)⟩
    obtain ⟨z2, hz2⟩ : ∃ y, zs[2]? = some y := ⟨_, List.getElem?_eq_getElem (by rw [hzl]; decide)⟩
    obtain ⟨z3, hz3⟩ : ∃ y, zs[3]? = some y := ⟨_, List.getElem?_eq_getElem (by rw [hzl]; decide)⟩
    obtain ⟨z4, hz4⟩ : ∃ y, zs[4]? = some y := ⟨_, List.getElem?_eq_getElem (by rw [hzl]; decide)⟩
    obtain ⟨z5, hz5⟩ : ∃ y, zs[5]? = some y := ⟨_, List.getElem?_eq_getElem (by rw [hzl]; decide)⟩
    obtain ⟨z6, hz6⟩ : ∃ y, zs[6]? = some y := ⟨_, List.getElem?_eq_getElem (by rw [hzl]; decide)⟩
    obtain ⟨z7, hz7⟩ : ∃ y, zs[7]? = some y := ⟨_, List.getElem?_eq_getElem (by rw [hzl]; decide)⟩
    rw [hz0] at g0
    rw [hz1] at g1
    rw [hz2] at g2
    rw [hz3] at g3
    rw [hz4] at g4
    rw [hz5] at g5
    rw [hz6] at g6
    rw [hz7] at g7
    obtain ⟨k0, h0, _, _⟩ := DataW.trod_int Try.underlying5 g0
    obtain ⟨k1, h1, _, _⟩ := DataW.trod_int Try.underlying5 g1
    obtain ⟨k2, h2, _, _⟩ := DataW.trod_int Try.underlying3 g2
    obtain ⟨k3, h3, _, _⟩ := DataW.trod_int Try.underlying3 g3
    obtain ⟨k4, h4, _, _⟩ := DataW.trod_int Try.underlying3 g4
    obtain ⟨k5, h5, _, _⟩ := DataW.trod_int Try.underlying3 g5
    obtain ⟨k6, h6, _, _⟩ := DataW.trod_int Try.underlying3 g6
    have wh0 : c3 = _ := one_of h0
    have wh1 : c4 = _ := one_of h1
    have wh2 : c5 = _ := one_of h2
    have wh3 : c6 = _ := one_of h3
    have wh4 : c7 = _ := one_of h4
    have wh5 : c8 = _ := one_of h5
    have wh6 : c9 = _ := one_of h6
    obtain ⟨us, n3, _, _, _, hul, hu⟩ := DataW.trod_struct Try.underlying24 g7
    have p0 := hu 0 _ rfl
    have p1 := hu 1 _ rfl
    have p2 := hu 2 _ rfl
    obtain ⟨u0, hu0⟩ : ∃ y, us[0]? = some y := ⟨_, List.getElem?_eq_getElem (by rw [hul]; decide)⟩
    obtain ⟨u1, hu1⟩ : ∃ y, us[1]? = some y := ⟨_, List.getElem?_eq_getElem (by rw [hul]; decide)⟩
    obtain ⟨u2, hu2⟩ : ∃ y, us[2]? = some y := ⟨_, List.getElem?_eq_getElem (by rw [hul]; decide)⟩
    rw [hu0] at p0
    rw [hu1] at p1
    rw [hu2] at p2
    obtain ⟨q0, s0, _, _⟩ := DataW.trod_int Try.underlying3 p0
    obtain ⟨q1, s1, _, _⟩ := DataW.trod_int Try.underlying3 p1
    have ws0 : c10 = _ := one_of s0
    have ws1 : c11 = _ := one_of s1
    subst we0; subst we1; subst we2; subst wh0; subst wh1; subst wh2; subst wh3; subst wh4; subst wh5; subst wh6; subst ws0; subst ws1
    rcases DataW.trod_slice Try.underlying22 p2 with ⟨hcs, _⟩ | ⟨a, len, cap, _, _, _, _, hcs, _⟩
    · have hw : c12 = _ := one_of hcs
      subst hw
      exact ⟨⟨m0, m1, m2, ⟨k0, k1, k2, k3, k4, k5, k6, ⟨q0, q1, []⟩⟩, .slice none 0 0⟩, ⟨.inl ⟨rfl, rfl⟩⟩, rfl⟩
    · have hw : c12 = _ := one_of hcs
      subst hw
      refine ⟨⟨m0, m1, m2, ⟨k0, k1, k2, k3, k4, k5, k6, ⟨q0, q1, if len = 0 then [] else [zeroRow]⟩⟩, .slice (some a) len cap⟩, ⟨.inr ⟨a, len, cap, rfl, ?_⟩⟩, rfl⟩
      show (if len = 0 then [] else [zeroRow]) = [] ↔ len = 0
      by_cases h : len = 0
      · simp [h]
      · simp [h]
theorem dd_one {d : Dd} (h : DdWf d) : ∀ y ∈ ddV d, y.oneCell' = true := by
  intro y hy
  obtain ⟨act, to, now, ack, sl⟩ := d
  have hr := h.raw
  dsimp only at hr
  simp only [ddV, List.mem_cons, List.not_mem_nil, or_false] at hy
  rcases hy with rfl | rfl | rfl | rfl | rfl | rfl | rfl | rfl | rfl | rfl | rfl | rfl | rfl
  all_goals first | rfl | (rcases hr with ⟨rfl, _⟩ | ⟨a, n, cap, rfl, _⟩ <;> rfl)
theorem dds_of : ∀ (rows : List (List Value)), (∀ r ∈ rows, ∃ d : Dd, DdWf d ∧ r = ddV d) → ∃ l : List Dd, l.length = rows.length ∧ rows.flatMap id = ddsV l ∧ ∀ d ∈ l, DdWf d
  | [], _ => ⟨[], rfl, rfl, by simp⟩
  | r :: rows, h => by
    obtain ⟨l, h1, h2, h3⟩ := dds_of rows fun n hn => h n (by simp [hn])
    obtain ⟨d, hd, rfl⟩ := h r (by simp)
    refine ⟨d :: l, by simp [h1], by rw [List.flatMap_cons, h2]; rfl, fun y hy => ?_⟩
    rcases List.mem_cons.1 hy with rfl | hy
    · exact hd
    · exact h3 y hy
theorem open_handfastlaw22Deed {H : Type} {enc : TypeId × Value → H} {W : World} {base : Nat} {v : Value} {d : DataW H} {ps : List MemPlace} (h : Value.okWide Try.prog W .any base 46 v) (hd : DataW.Trod enc Try.prog W 0 (fun _ => true) true 46 v d ps) :
    ∃ (L : SE.Loc) (l : List Dd), (∀ d ∈ l, DdWf d) ∧ ∀ (ρ : Rho) (i : Nat), ρ i = L → S.Rel ρ (.sl i 0 l.length) v ∧ RegOk ρ W i (.row (ddsV l) 13 49 false) := by
  obtain ⟨L, rows, h1, h2⟩ := open_shapes 13 (Q := fun r => ∃ d : Dd, DdWf d ∧ r = ddV d) Try.underlying46 cellsDd (fun fuel cs x hx => by
    obtain ⟨d, q1, rfl⟩ := dd_of hx
    exact ⟨⟨d, q1, rfl⟩, rfl, dd_one q1⟩) h hd
  obtain ⟨l, g1, g2, g3⟩ := dds_of rows h1
  refine ⟨L, l, g3, fun ρ i hi => ?_⟩
  obtain ⟨k1, k2⟩ := h2 ρ i hi
  rw [← g1] at k1
  rw [g2] at k2
  exact ⟨k1, k2⟩
end Go.Proofs.Ytiijiofhofkhkaa
