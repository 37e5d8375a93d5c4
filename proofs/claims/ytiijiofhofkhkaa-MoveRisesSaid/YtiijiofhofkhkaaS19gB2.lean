/- Contracts of functions of the program, or a row of the seat, proved out of them. No condition beyond those that stand in each statement. -/
import Derived.Test.YtiijiofhofkhkaaS19g9R
import Derived.Test.YtiijiofhofkhkaaS19gB1
namespace Go.Proofs.S19
open Go Go.SE
set_option maxRecDepth 100000
set_option maxHeartbeats 4000000
attribute [local irreducible] specI

structure Dd where
  act : Int
  to : Int
  now : Int
  ack : Ctl
  sl : Value
def ddV (d : Dd) : List Value := [.int .i64 d.act, .int .i64 d.to, .int .i64 d.now, .int .u8 d.ack.kind, .int .u8 d.ack.of, .int .i64 d.ack.agent, .int .i64 d.ack.bkt, .int .i64 d.ack.gen, .int .i64 d.ack.peer, .int .i64 d.ack.ver, .int .i64 d.ack.sh.base, .int .i64 d.ack.sh.to, d.sl]
structure DdWf (d : Dd) : Prop where
  raw : (d.sl = .slice none 0 0 ∧ d.ack.sh.rows = []) ∨ ∃ a n cap, d.sl = .slice (some a) n cap ∧ (d.ack.sh.rows = [] ↔ n = 0)
def zeroDd : Dd := ⟨0, 0, 0, zeroCtl, .slice none 0 0⟩
def ddsV : List Dd → List Value
  | [] => []
  | d :: l => ddV d ++ ddsV l
def ddAt (l : List Dd) (k : Nat) : Dd := l.getD k zeroDd
theorem ddsV_len : ∀ l : List Dd, (ddsV l).length = l.length * 13
  | [] => rfl
  | d :: l => by
    show (ddV d ++ ddsV l).length = _
    rw [List.length_append, ddsV_len l]
    show 13 + _ = (l.length + 1) * 13
    omega
theorem ddsV_drop : ∀ (l : List Dd) (k : Nat), k < l.length → ∃ R, (ddsV l).drop (k * 13) = ddV (ddAt l k) ++ R
  | [], k, h => by simp at h
  | d :: l, 0, _ => ⟨ddsV l, rfl⟩
  | d :: l, k + 1, h => by
    obtain ⟨R, hR⟩ := ddsV_drop l k (by simpa using h)
    refine ⟨R, ?_⟩
    rw [show (k + 1) * 13 = 13 + k * 13 by omega, ddsV, show (13 : Nat) = (ddV d).length from rfl, List.drop_length_add_append, show (ddV d).length = 13 from rfl, hR]
    rfl
theorem dd_cell (l : List Dd) {d : Dd} {p : Nat} {v : Value} (k j : Nat) (hd : ddAt l k = d) (hp : p = k * 13 + j) (hk : k < l.length) (hj : (ddV d)[j]? = some v) : (ddsV l)[p]? = some v := by
  subst hp
  obtain ⟨R, hR⟩ := ddsV_drop l k hk
  rw [← List.getElem?_drop, hR, hd, List.getElem?_append_left (List.getElem?_eq_some_iff.1 hj).1]
  exact hj
theorem dd_ack (l : List Dd) {d : Dd} {p n : Nat} (k : Nat) (hd : ddAt l k = d) (hp : p = k * 13 + 3) (hk : k < l.length) (hn : n = 10) : ((ddsV l).drop p).take n = [.int .u8 d.ack.kind, .int .u8 d.ack.of, .int .i64 d.ack.agent, .int .i64 d.ack.bkt, .int .i64 d.ack.gen, .int .i64 d.ack.peer, .int .i64 d.ack.ver, .int .i64 d.ack.sh.base, .int .i64 d.ack.sh.to, d.sl] ∧ p + n ≤ (ddsV l).length := by
  subst hp hn
  obtain ⟨R, hR⟩ := ddsV_drop l k hk
  refine ⟨?_, by rw [ddsV_len]; omega⟩
  rw [← List.drop_drop, hR, hd]; rfl
def stepM (b window : Int) (m : Mv) (d : Dd) : Mv := if d.act = 0 then bgM m d.to d.now else if d.act = 1 then seM m d.to else if d.act = 2 then reM m d.now window else if d.act = 3 then mvAckM m b (lackC m b) d.now else if d.act = 4 then agM m d.to else mvAckM m b d.ack d.now
def mvK (b window : Int) (l : List Dd) (m : Mv) : Nat → Mv
  | 0 => m
  | k + 1 => stepM b window (mvK b window l m k) (ddAt l k)
def rises (m o : Mv) : Prop := okMv o ∧ m.gen ≤ o.gen ∧ o.gen ≤ m.gen + 1
theorem rises_refl {m : Mv} (h : okMv m) : rises m m := ⟨h, by omega, by omega⟩
theorem okMv_mk {m : Mv} (h : (0 ≤ m.gen ∧ m.gen ≤ 2147483647) ∧ (0 ≤ m.tick ∧ m.tick ≤ 1099511627776) ∧ (0 ≤ m.ver ∧ m.ver ≤ 1099511627776) ∧
  ((m.ph = 0 ∧ m.cur = -1 ∧ m.to = -1) ∨ (1 ≤ m.gen ∧ ((m.ph = 1 ∧ (0 ≤ m.cur ∧ m.cur ≤ 5) ∧ m.to = -1) ∨ (m.ph = 6 ∧ m.cur = -1 ∧ (0 ≤ m.to ∧ m.to ≤ 5)) ∨ ((2 ≤ m.ph ∧ m.ph ≤ 5) ∧ (0 ≤ m.cur ∧ m.cur ≤ 5) ∧ (0 ≤ m.to ∧ m.to ≤ 5) ∧ m.cur ≠ m.to))))) : okMv m := h
theorem bg_rises {m : Mv} (to least : Int) (h : okMv m) : rises m (bgM m to least) := by
  have h' := h
  unfold okMv at h'
  unfold bgM
  repeat' (first | split | (with_reducible refine rises_refl ?_; exact h))
  all_goals (first | contradiction | (refine ⟨okMv_mk ?_, ?_, ?_⟩ <;> (dsimp only; omega)))
theorem se_rises {m : Mv} (to : Int) (h : okMv m) : rises m (seM m to) := by
  have h' := h
  unfold okMv at h'
  unfold seM
  repeat' (first | split | (with_reducible refine rises_refl ?_; exact h))
  all_goals (first | contradiction | (refine ⟨okMv_mk ?_, ?_, ?_⟩ <;> (dsimp only; omega)))
theorem ag_rises {m : Mv} (to : Int) (h : okMv m) : rises m (agM m to) := by
  have h' := h
  unfold okMv at h'
  unfold agM
  repeat' (first | split | (with_reducible refine rises_refl ?_; exact h))
  all_goals (first | contradiction | (refine ⟨okMv_mk ?_, ?_, ?_⟩ <;> (dsimp only; omega)))
theorem re_rises {m : Mv} (now window : Int) (h : okMv m) : rises m (reM m now window) := by
  have h' := h
  unfold okMv at h'
  unfold reM
  repeat' (first | split | (with_reducible refine rises_refl ?_; exact h))
  all_goals (first | contradiction | (refine ⟨okMv_mk ?_, ?_, ?_⟩ <;> (dsimp only; omega)))
theorem ack_rises {m : Mv} (b : Int) (a : Ctl) (now : Int) (h : okMv m) : rises m (mvAckM m b a now) := by
  by_cases hp : mvAckP m b a now
  · rw [ackM_yes hp]
    have h' := h
    unfold okMv at h'
    have h2 := hp.1.2.1
    have h3 := hp.2.1
    unfold mvNext
    repeat' (first | split | exact se_rises _ h)
    all_goals (refine ⟨okMv_mk ?_, ?_, ?_⟩ <;> (dsimp only; omega))
  · rw [ackM_no hp]; exact rises_refl h
theorem step_rises {b window : Int} {m : Mv} (d : Dd) (h : okMv m) : rises m (stepM b window m d) := by
  unfold stepM
  split
  · exact bg_rises _ _ h
  split
  · exact se_rises _ h
  split
  · exact re_rises _ _ h
  split
  · exact ack_rises _ _ _ h
  split
  · exact ag_rises _ h
  · exact ack_rises _ _ _ h
theorem op_facts {o : Mv} {b : Int} (h : opOk o b) : okCtl (opC o b) ∧ (opC o b).gen = o.gen ∧ (opC o b).bkt = b ∧ ¬ mvRowB o := by
  refine ⟨(op_right h).1, ?_, ?_, fun q => ?_⟩
  · rw [opC_yes h]; unfold opRaw; (repeat' split) <;> rfl
  · rw [opC_yes h]; unfold opRaw; (repeat' split) <;> rfl
  · have h1 := h.2.1
    have h2 := q.2
    omega
theorem row_facts {o : Mv} (h : mvRowB o) : okE (mvRowE o) := by
  have h1 := h.1
  have h2 := h.2
  have h' := h1
  unfold okMv at h'
  unfold mvRowE
  rw [if_pos h1]
  split
  · show (0 ≤ o.gen ∧ o.gen < 2147483648 ∧ 0 ≤ o.tick ∧ o.tick ≤ 1099511627776) ∧ ((o.to = -1 ∧ o.cur = -1) ∨ ((0 ≤ o.to ∧ o.to < 6) ∧ (-1 ≤ o.cur ∧ o.cur < 6) ∧ o.cur ≠ o.to))
    omega
  · rw [if_pos (by omega)]
    show (0 ≤ o.gen ∧ o.gen < 2147483648 ∧ 0 ≤ o.tick ∧ o.tick ≤ 1099511627776) ∧ ((o.cur = -1 ∧ (-1 : Int) = -1) ∨ ((0 ≤ o.cur ∧ o.cur < 6) ∧ (-1 ≤ (-1 : Int) ∧ (-1 : Int) < 6) ∧ (-1 : Int) ≠ o.cur))
    omega
end Go.Proofs.S19
