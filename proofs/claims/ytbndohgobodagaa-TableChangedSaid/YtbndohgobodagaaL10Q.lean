/- Contracts of functions of the program, or a row of the seat, proved out of them. No condition beyond those that stand in each statement. -/
import Derived.Test.YtbndohgobodagaaL10B
import Derived.Test.YtbndohgobodagaaSeD
import Derived.Test.YtbndohgobodagaaRows
namespace Go.Proofs.Ytbndohgobodagaa
open Go Go.SE Go.RowKit Go.WideShapes Go.ChangeShapes Go.Proofs.L10
set_option maxRecDepth 100000
set_option maxHeartbeats 4000000

theorem own : ownKnob Try.prog.godebug = none := by kernel_rfl
theorem laid : laidOutB Try.prog = true := by kernel_rfl
theorem types23 : Try.prog.cellTypes Try.prog.depth 23 = some (List.replicate 4 3) := by kernel_rfl
theorem types26 : Try.prog.cellTypes Try.prog.depth 26 = some (List.replicate 65 3) := by kernel_rfl
theorem cells26 : Try.prog.cellsOf 26 = 65 := by kernel_rfl

theorem ints_of {w : World} {base : Nat} : ∀ (cs : List Value) (n : Nat), cs.length = n → (∀ (i : Nat) (u : TypeId), (List.replicate n 3)[i]? = some u → ∃ x, cs[i]? = some x ∧ Cell.okWide Try.prog w .any base u x) →
    ∃ ns : List Int, cs = ints .i64 ns ∧ ns.length = n ∧ ∀ x ∈ ns, isI x
  | [], n, h, _ => ⟨[], rfl, h, by simp⟩
  | c :: cs, 0, h, _ => by simp at h
  | c :: cs, n + 1, h, hc => by
    obtain ⟨x, e, k⟩ := hc 0 3 rfl
    simp only [List.getElem?_cons_zero, Option.some.injEq] at e
    subst e
    obtain ⟨i, rfl, b⟩ := cell_int k Try.underlying3
    obtain ⟨ns, rfl, h1, h2⟩ := ints_of cs n (by simpa using h) fun i u hu => by
      have := hc (i + 1) u (by rw [List.replicate_succ]; simpa using hu)
      simpa using this
    refine ⟨i :: ns, rfl, by simp [h1], fun x hx => ?_⟩
    rcases List.mem_cons.1 hx with rfl | hx
    · exact has_bounds b
    · exact h2 x hx

theorem open_ent {W : World} {base : Nat} {v : Value} (h : Value.okWide Try.prog W .any base 23 v) :
    ∃ e : Ent, e.Wf ∧ ∀ (ρ : Rho), T.Rel ρ (entT e) v := by
  obtain ⟨cs, rfl, hlen, hc⟩ := okWide_cells (.inl ⟨_, Try.underlying23⟩) _ types23 cells23 h
  obtain ⟨ns, rfl, h1, h2⟩ := ints_of cs 4 hlen hc
  match ns, h1, h2 with
  | [a0, a1, a2, a3], _, h2 => exact ⟨⟨a0, a1, a2, a3⟩, ⟨h2 _ (by simp), h2 _ (by simp), h2 _ (by simp), h2 _ (by simp)⟩, fun ρ => ⟨_, rfl, ⟨rfl, rfl⟩, ⟨rfl, rfl⟩, ⟨rfl, rfl⟩, ⟨rfl, rfl⟩, trivial⟩⟩

theorem open_tab {W : World} {base : Nat} {v : Value} (h : Value.okWide Try.prog W .any base 26 v) :
    ∃ t : Tab, t.Wf ∧ ∀ (ρ : Rho), T.Rel ρ (tabT t) v := by
  obtain ⟨cs, rfl, hlen, hc⟩ := okWide_cells (.inl ⟨_, Try.underlying26⟩) _ types26 cells26 h
  obtain ⟨ns, rfl, h1, h2⟩ := ints_of cs 65 hlen hc
  match ns, h1, h2 with
  | a0 :: a1 :: a2 :: a3 :: a4 :: a5 :: a6 :: a7 :: a8 :: a9 :: a10 :: a11 :: a12 :: a13 :: a14 :: a15 :: a16 :: a17 :: a18 :: a19 :: a20 :: a21 :: a22 :: a23 :: a24 :: a25 :: a26 :: a27 :: a28 :: a29 :: a30 :: a31 :: a32 :: a33 :: a34 :: a35 :: a36 :: a37 :: a38 :: a39 :: a40 :: a41 :: a42 :: a43 :: a44 :: a45 :: a46 :: a47 :: a48 :: a49 :: a50 :: a51 :: a52 :: a53 :: a54 :: a55 :: a56 :: a57 :: a58 :: a59 :: a60 :: a61 :: a62 :: a63 :: a64 :: [], _, h2 =>
    refine ⟨⟨a0, [⟨a1, a2, a3, a4⟩, ⟨a5, a6, a7, a8⟩, ⟨a9, a10, a11, a12⟩, ⟨a13, a14, a15, a16⟩, ⟨a17, a18, a19, a20⟩, ⟨a21, a22, a23, a24⟩, ⟨a25, a26, a27, a28⟩, ⟨a29, a30, a31, a32⟩, ⟨a33, a34, a35, a36⟩, ⟨a37, a38, a39, a40⟩, ⟨a41, a42, a43, a44⟩, ⟨a45, a46, a47, a48⟩, ⟨a49, a50, a51, a52⟩, ⟨a53, a54, a55, a56⟩, ⟨a57, a58, a59, a60⟩, ⟨a61, a62, a63, a64⟩]⟩, ⟨h2 _ (by simp), rfl, fun e he => ?_⟩, fun ρ => ⟨_, rfl, ?_⟩⟩
    · simp only [List.mem_cons, List.not_mem_nil, or_false] at he
      rcases he with rfl | rfl | rfl | rfl | rfl | rfl | rfl | rfl | rfl | rfl | rfl | rfl | rfl | rfl | rfl | rfl <;> exact ⟨h2 _ (by simp), h2 _ (by simp), h2 _ (by simp), h2 _ (by simp)⟩
    · repeat' (first | exact ⟨rfl, rfl⟩ | exact trivial | apply And.intro)

end Go.Proofs.Ytbndohgobodagaa
