/- Contracts of functions of the program, or a row of the seat, proved out of them. No condition beyond those that stand in each statement. -/
import Derived.Test.YtlefpinmgabmfaaGreatS14p8
import Derived.Test.YtlefpinmgabmfaaGreatS14h8n
namespace Go.Proofs.S14.H8
open Go Go.SE
set_option maxRecDepth 100000
set_option maxHeartbeats 4000000
attribute [local irreducible] specI

theorem add32 : Add32 Tryz.prog 80 := ⟨fun ys w => enters Tryz.func80 rfl rfl ys w, add_i32⟩
theorem onceFirst : OnceFirst Tryz.prog 176 177 := ⟨fun ys w => enters Tryz.func176 rfl rfl ys w, do_first⟩
theorem onceDone : OnceDone Tryz.prog 176 := ⟨fun ys w => enters Tryz.func176 rfl rfl ys w, fun a fv w h => do_done a 1 (by decide) fv w h⟩

/-- A hasher's table, of which so many are made. -/
def tc (k i : Nat) : Int := if i < k then turn (i : Int) else 0
def tabK (k : Nat) : List S := (List.range 256).map fun i => .v (.int .u8 (tc k i))
theorem tabK_len (k : Nat) : (tabK k).length = 256 := by simp [tabK]
theorem setAt_one : ∀ (l : List S) (k : Nat) (v : S), setAt l k [v] = l.set k v
  | [], k, v => by cases k <;> rfl
  | x :: l, 0, v => by
    cases l <;> simp [setAt]
  | x :: l, k + 1, v => by simp [setAt, setAt_one l k v]
theorem nth_get : ∀ (l : List S) (k : Nat), nth l k = l[k]?
  | [], k => by cases k <;> rfl
  | x :: l, 0 => rfl
  | x :: l, k + 1 => by simp [nth, nth_get l k]
def hshS (d m n : Int) (k : Nat) : List S := .n .u32 d :: .n .i32 m :: .n .u32 0 :: .n .i32 n :: tabK k
theorem tab_put0 (k : Nat) (h : k < 256) : (tabK k).set k (.v (.int .u8 (turn (k : Int)))) = tabK (k + 1) := by
  refine List.ext_getElem (by simp [tabK_len]) fun i h1 h2 => ?_
  rw [List.getElem_set]
  simp only [tabK, List.getElem_map, List.getElem_range]
  by_cases e : k = i
  · subst e; simp [tc]
  · rw [if_neg e]
    unfold tc
    by_cases e2 : i < k
    · rw [if_pos e2, if_pos (by omega)]
    · rw [if_neg e2, if_neg (by omega)]
theorem tab_put {d m n : Int} {cs : List S} (k : Nat) (h : k < 256) {p : Nat} (hc : cs = hshS d m n k) (hp : p = 4 + k) : setAt cs p [.v (.int .u8 (turn (k : Int)))] = hshS d m n (k + 1) ∧ p + [S.v (.int .u8 (turn (k : Int)))].length ≤ cs.length := by
  subst hp hc
  refine ⟨?_, by simp [hshS, tabK_len]; omega⟩
  rw [setAt_one, show 4 + k = k + 1 + 1 + 1 + 1 by omega]
  simp only [hshS, List.set_cons_succ, List.cons.injEq, true_and]
  exact tab_put0 k h
theorem tab_get {d m n : Int} {cs : List S} {c : Int} (h : byte c) {p : Nat} (hc : cs = hshS d m n 256) (hp : p = 4 + c.toNat) : nth cs p = some (.v (.int .u8 (turn c))) := by
  subst hp hc
  obtain ⟨k, rfl, hk⟩ := byte_nat h
  rw [nth_get, show 4 + (k : Int).toNat = k + 1 + 1 + 1 + 1 by simp; omega]
  simp only [hshS, List.getElem?_cons_succ]
  rw [List.getElem?_eq_getElem (by rw [tabK_len]; exact hk)]
  simp only [tabK, List.getElem_map, List.getElem_range, tc]
  rw [if_pos hk]

end Go.Proofs.S14.H8
