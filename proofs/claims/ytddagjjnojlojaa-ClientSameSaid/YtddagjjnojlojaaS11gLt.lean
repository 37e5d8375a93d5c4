/- Contracts of functions of the program, or a row of the seat, proved out of them. No condition beyond those that stand in each statement. -/
import Derived.Test.YtddagjjnojlojaaS11gGw
namespace Go.Proofs.S11
open Go Go.SE
set_option maxRecDepth 100000
set_option maxHeartbeats 4000000
attribute [local irreducible] specI

theorem clAt_ok {L : List Tab} (hL : Good L) {v : Option Nat} (hv : vIn L v) : okCl (clAt L v) ∧ (clAt L v).tab.rows.length = 16 := by
  cases v with
  | none => exact ⟨.inr ⟨rfl, rfl⟩, rfl⟩
  | some v => exact ⟨.inl ⟨rfl, hL.ok v (hv v rfl)⟩, hL.rows v (hv v rfl)⟩
theorem hasV_at {L : List Tab} (hL : Good L) {v : Option Nat} (hv : vIn L v) : hasV (clAt L v) = match v with | none => -1 | some v => (v : Int) := by
  cases v with
  | none => rfl
  | some v => exact hL.ver v (hv v rfl)
theorem cl_eq {t u : Tab} (h : t.ver = u.ver) (g : t.rows = u.rows) : t = u := by
  obtain ⟨a, b⟩ := t
  obtain ⟨c, d⟩ := u
  simp_all
/-- Whoever has a table of the story, or none, and takes a sheet of it, has the one that the sheet goes to. -/
theorem story {L : List Tab} (hL : Good L) {v : Option Nat} (hv : vIn L v) {j : Nat} (hj : j < L.length) {s : Sh}
    (hs : s = ⟨-1, (tAt L j).ver, snapL (tAt L j)⟩ ∨ ∃ i, i < L.length ∧ okDl (tAt L i) (tAt L j) ∧ s = ⟨(tAt L i).ver, (tAt L j).ver, deltaL (tAt L i) (tAt L j)⟩) :
    ctArg (clAt L v) s ∧ s.to = (tAt L j).ver ∧ s.base < s.to ∧ (ctOk (clAt L v) s → mrgT (clAt L v) s = ⟨true, tAt L j⟩) := by
  have hc := clAt_ok hL hv
  have hh := hasV_at hL hv
  have hjo := hL.ok j hj
  have hjv := hL.ver j hj
  have hjr := hL.rows j hj
  rcases hs with rfl | ⟨i, hi, hd, rfl⟩
  · have hok := snap_ok hjo
    refine ⟨⟨hc.1, hok⟩, rfl, by show -1 < (tAt L j).ver; omega, fun hk => ?_⟩
    obtain ⟨-, k1, k2⟩ := hk
    change hasV _ < (tAt L j).ver at k2
    rw [hh, hjv] at k2
    have hg : Goes (baseT (clAt L v)) (tAt L j) := by
      cases v with
      | none => show Goes newTab _; rw [← hL.first]; exact hL.goes 0 j (by omega) hj
      | some v =>
        change (v : Int) < j at k2
        show Goes (tAt L v) _; exact hL.goes v j (by omega) hj
    have hb := baseT_len hc.2
    have := laid (so := fun _ => true) hb hjr hjo.2 hg (fun b _ q => by cases q)
    rw [← show snapL (tAt L j) = rowsK (fun _ => true) (tAt L j) 16 from rfl] at this
    unfold mrgT
    rw [show (⟨(tAt L j).ver, (mrgK (baseT (clAt L v)) (snapL (tAt L j)) (snapL (tAt L j)).length).rows⟩ : Tab) = tAt L j from cl_eq rfl this]
  · have hok := delta_ok hd
    have hiv := hL.ver i hi
    refine ⟨⟨hc.1, hok⟩, rfl, hd.1, fun hk => ?_⟩
    obtain ⟨-, k1, k2⟩ := hk
    change (tAt L i).ver ≤ hasV _ at k1
    change hasV _ < (tAt L j).ver at k2
    rw [hh, hjv] at k2
    rw [hh, hiv] at k1
    cases v with
    | none => exfalso; change (i : Int) ≤ -1 at k1; omega
    | some v =>
      change (i : Int) ≤ v at k1
      change (v : Int) < j at k2
      have hvl := hv v rfl
      have h1 := hL.goes i v (by omega) hvl
      have h2 := hL.goes v j (by omega) hj
      have := laid (so := fun b => !eqEnt ((tAt L i).at b) ((tAt L j).at b)) (hL.rows v hvl) hjr hjo.2 h2 (fun b hb q => by
        have e : (tAt L i).at b = (tAt L j).at b := eqEnt_iff.1 (by simpa using q)
        have g1 := h1 b hb
        have g2 := h2 b hb
        rw [e] at g1
        exact g2.2 (by omega))
      rw [← show deltaL (tAt L i) (tAt L j) = rowsK (fun b => !eqEnt ((tAt L i).at b) ((tAt L j).at b)) (tAt L j) 16 from rfl] at this
      unfold mrgT
      rw [show (⟨(tAt L j).ver, (mrgK (baseT (clAt L (some v))) (deltaL (tAt L i) (tAt L j)) (deltaL (tAt L i) (tAt L j)).length).rows⟩ : Tab) = tAt L j from cl_eq rfl this]
end Go.Proofs.S11
