/- Contracts of functions of the program, or a row of the seat, proved out of them. No condition beyond those that stand in each statement. -/
import Derived.Test.YtddagjjnojlojaaS11gO
import Derived.Test.YtddagjjnojlojaaS11gC
namespace Go.Proofs.Ytddagjjnojlojaa
open Go Go.SE Go.RowKit Go.WideShapes Go.ChangeShapes Go.Proofs.S11
set_option maxRecDepth 100000
set_option maxHeartbeats 4000000

theorem types52 : Try.prog.cellTypes Try.prog.depth 52 = some (4 :: List.replicate 65 3) := by kernel_rfl
theorem cells52 : Try.prog.cellsOf 52 = 66 := by kernel_rfl
theorem cell_bool {w : World} {r : Reach} {base : Nat} {v : Value} (h : Cell.okWide Try.prog w r base 4 v) : ∃ b, v = .bool b := by
  simp only [Cell.okWide, Try.underlying4] at h
  cases v <;> simp_all [Cell.ok]
theorem open_cl {W : World} {base : Nat} {v : Value} (h : Value.okWide Try.prog W .any base 52 v) :
    ∃ c : Cl, c.Wf ∧ ∀ (ρ : Rho), T.Rel ρ (clT c) v := by
  obtain ⟨cs, rfl, hlen, hc⟩ := okWide_cells (.inl ⟨_, Try.underlying52⟩) _ types52 cells52 h
  match cs, hlen with
  | c0 :: cs, hlen =>
    obtain ⟨x0, e0, k0⟩ := hc 0 4 rfl
    simp only [List.getElem?_cons_zero, Option.some.injEq] at e0
    subst e0
    obtain ⟨b, rfl⟩ := cell_bool k0
    obtain ⟨ns, rfl, h1, h2⟩ := ints_of cs 65 (by simpa using hlen) fun i u hu => by
      have := hc (i + 1) u (by simpa using hu)
      simpa using this
    obtain ⟨t, ht, e⟩ := tab_of h1 h2
    rw [e]
    exact ⟨⟨b, t⟩, ⟨ht⟩, fun ρ => ⟨_, rfl, ⟨rfl, rfl⟩, tabS_rel ht.len⟩⟩
end Go.Proofs.Ytddagjjnojlojaa
