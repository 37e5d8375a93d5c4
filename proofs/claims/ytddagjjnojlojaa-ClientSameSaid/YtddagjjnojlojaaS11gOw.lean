/- Contracts of functions of the program, or a row of the seat, proved out of them. No condition beyond those that stand in each statement. -/
import Derived.Test.YtddagjjnojlojaaS11gOc
import Derived.Test.YtddagjjnojlojaaS11gLw
import Derived.Test.YtddagjjnojlojaaSeD
import Derived.Test.YtddagjjnojlojaaRows
namespace Go.Proofs.Ytddagjjnojlojaa
open Go Go.SE Go.RowKit Go.WideShapes Go.ChangeShapes Go.Proofs.S11
set_option maxRecDepth 100000
set_option maxHeartbeats 4000000

theorem cellsCh : Try.prog.cellsOf 97 = 3 := by kernel_rfl
theorem cellsPr : Try.prog.cellsOf 66 = 2 := by kernel_rfl
theorem leafCh : leafInts Try.prog 3 97 = some [.i64, .i64, .i64] := by kernel_rfl
theorem leafPr : leafInts Try.prog 3 66 = some [.i64, .i64] := by kernel_rfl
theorem chs_of : ∀ (rows : List (List Int)), (∀ ns ∈ rows, HasAll [.i64, .i64, .i64] ns) → ∃ l : List Chg, l.length = rows.length ∧ rows.flatMap (intsOf [.i64, .i64, .i64]) = chsV l
  | [], _ => ⟨[], rfl, rfl⟩
  | ns :: rows, h => by
    obtain ⟨l, h1, h2⟩ := chs_of rows fun n hn => h n (by simp [hn])
    have h0 := h ns (by simp)
    match ns, h0 with
    | [a, b, c], _ => exact ⟨⟨a, b, c⟩ :: l, by simp [h1], by rw [List.flatMap_cons, h2]; rfl⟩
theorem prs_of : ∀ (rows : List (List Int)), (∀ ns ∈ rows, HasAll [.i64, .i64] ns) → ∃ l : List Pr, l.length = rows.length ∧ rows.flatMap (intsOf [.i64, .i64]) = prsV l
  | [], _ => ⟨[], rfl, rfl⟩
  | ns :: rows, h => by
    obtain ⟨l, h1, h2⟩ := prs_of rows fun n hn => h n (by simp [hn])
    have h0 := h ns (by simp)
    match ns, h0 with
    | [a, b], _ => exact ⟨⟨a, b⟩ :: l, by simp [h1], by rw [List.flatMap_cons, h2]; rfl⟩
theorem open_handfastlaw12Change {H : Type} {enc : TypeId × Value → H} {W : World} {base : Nat} {v : Value} {d : DataW H} {ps : List MemPlace} (h : Value.okWide Try.prog W .any base 62 v) (hd : DataW.Trod enc Try.prog W 0 (fun _ => true) true 62 v d ps) :
    ∃ (L : SE.Loc) (l : List Chg), True ∧ ∀ (ρ : Rho) (i : Nat), ρ i = L → S.Rel ρ (.sl i 0 l.length) v ∧ RegOk ρ W i (.row (chsV l) 3 97 false) := by
  obtain ⟨L, rows, h1, h2, h3⟩ := open_leafs 3 Try.underlying62 leafCh cellsCh h hd
  obtain ⟨l, g1, g2⟩ := chs_of rows h1
  refine ⟨L, l, trivial, fun ρ i hi => ?_⟩
  obtain ⟨k1, k2⟩ := h3 ρ i hi
  rw [← g1] at k1
  rw [g2] at k2
  exact ⟨k1, k2⟩
theorem open_2int {H : Type} {enc : TypeId × Value → H} {W : World} {base : Nat} {v : Value} {d : DataW H} {ps : List MemPlace} (h : Value.okWide Try.prog W .any base 63 v) (hd : DataW.Trod enc Try.prog W 0 (fun _ => true) true 63 v d ps) :
    ∃ (L : SE.Loc) (l : List Pr), True ∧ ∀ (ρ : Rho) (i : Nat), ρ i = L → S.Rel ρ (.sl i 0 l.length) v ∧ RegOk ρ W i (.row (prsV l) 2 66 false) := by
  obtain ⟨L, rows, h1, h2, h3⟩ := open_leafs 3 Try.underlying63 leafPr cellsPr h hd
  obtain ⟨l, g1, g2⟩ := prs_of rows h1
  refine ⟨L, l, trivial, fun ρ i hi => ?_⟩
  obtain ⟨k1, k2⟩ := h3 ρ i hi
  rw [← g1] at k1
  rw [g2] at k2
  exact ⟨k1, k2⟩
end Go.Proofs.Ytddagjjnojlojaa
