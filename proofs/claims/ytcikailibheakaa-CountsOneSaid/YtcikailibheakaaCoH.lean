/- A theory of many goroutines that count at once (a channel, a wait group, once, a mutex), the walks of the program's functions in it, and the law CountsOne of the seat, proved out of them. No condition beyond those that stand in each statement. -/
import Derived.Test.YtcikailibheakaaCoG
import Derived.ProofKit
import Derived.OpenShut
import Derived.Below
import Derived.ChangeSame
import Derived.ChangeSlices
import Derived.Conc.HoldsTime
import Derived.Test.YtcikailibheakaaRows
namespace Go.Co.F1
open Go Go.Conc Go.Proofs
open Go.Co
open Go.ConcN (upd upd_ne upd_same)
variable {E : Geo} {N i : Nat} {l : Lo} {w : World} {own own' : Nat → Prop} {w' : World} {FP FP' : Nat → Prop}
set_option maxRecDepth 10000

theorem ctr_new {r : Nat} (h : own r) (hh : w.heap[r]? = some (.cells #[.int .u32 0, .int .i32 0, .int .u32 0, .slice none 0 0] 38 (0, 0))) : Ctr own w r (fun b => b = r) (fun _ => 0) :=
  .inl ⟨CB.of h hh, fun _ => Iff.rfl, fun _ => rfl⟩

section
variable {b : Frame} {n : Nat} {env : Nv} {ds : List Deferred} {k : List Item} {cs : List Frame} {ops : Array Oper} {j : Nat} {o : Oper}
/-- A place in an array of goroutine 0's is laid anew. -/
theorem TkO.storeAt (W : WkP Try.prog E (mainLo own) b) {A m : Nat} {f : Nat → Int} {v : Int} {x y : Operand} (hm : m < 19) (ho : ops[j]? = some o) (hw : wantE ops env o = some true) (hd : o.dst = none) (hop : o.op = .store 3 x y)
    (hx : env.ev x = some (ptr A m)) (hy : env.ev y = some (.int .i64 v)) (hown : own A) (hh : w.heap[A]? = some (.cells (arrV 19 f) 40 (0, 0)))
    (h : ∀ w', w.heap.size ≤ w'.heap.size → (∀ b, own b → b ≠ A → w'.heap[b]? = w.heap[b]?) → w'.heap[A]? = some (.cells (arrV 19 (upd f m v)) 40 (0, 0)) → TkO E N i (mainLo own) w' b n env ds ops (j + 1) k cs) : TkO E N i (mainLo own) w b n env ds ops j k cs := by
  have hc : w.cell? (adr A m) = some (.int .i64 (f m)) := by
    rw [cell_at hh, arrV_get, if_pos hm]
  refine TkO.open ho (Tk.ostore W.wk rfl (t := 3) (x := x) (y := y) (ad := adr A m) (v := .int .i64 v) ho hw hd hop (by rw [W.hP]; exact ⟨_, by rfl, by rfl⟩) rfl rfl hx hy hown hc (by unfold World.frozen?; rw [show w.heap[(adr A m).block]? = _ from hh]; simp) fun w₁ hv => ?_)
  refine h _ (by rw [setCell_size]; exact hv.1) (fun b hb hn => ?_) ?_
  · rw [set_blk w₁ _ _ fun e => hn e.symm]; exact hv.2 b hb
  · rw [heap_set (by rw [hv.2 A hown]; exact hh), arrV_set hm]
/-- A new array of goroutine 0's. -/
theorem TkO.newArr (W : WkP Try.prog E (mainLo own) b) {d : Nat} (ho : ops[j]? = some o) (hw : wantE ops env o = some true) (hdd : o.dst = some d) (hd : Nat.blt d n = true) (hop : o.op = .alloc 40)
    (h : ∀ own' w' r, Kp own w own' w' → w.heap.size ≤ r → own' r → w'.heap[r]? = some (.cells (arrV 19 fun _ => 0) 40 (0, 0)) → TkO E N i (mainLo own') w' b n ((d, ptr r 0) :: env) ds ops (j + 1) k cs) : TkO E N i (mainLo own) w b n env ds ops j k cs := by
  refine TkO.newM W (d := d) ho hw hdd hd (fun r => ptr r 0) (.cells (arrV 19 fun _ => 0) 40 (0, 0)) (fun a ha w₁ => ?_) h
  have := exec_allocC (P := Try.prog) (a := a) (o := o) (t := 40) (c := Array.replicate 19 (.int .i64 0)) hop (by rfl) w₁
  rw [show Array.replicate 19 (Value.int .i64 0) = arrV 19 fun _ => 0 from arrV_zero] at this
  exact this
end

theorem b6 : Bod Try.prog 6 77 c6 #[.tmp 0] := ⟨Try.f6, Try.func6, by decide +kernel, rfl, rfl, rfl⟩
def v1W (r : Nat) : Int := if r = 5 then 1 else 0
def v2W (r : Nat) : Int := if r = 5 then 1 else if r = 15 then 1 else 0
theorem v2_bd (r : Nat) : 0 ≤ v2W r ∧ v2W r ≤ 2 := by
  unfold v2W
  split
  · decide
  · split <;> decide
theorem e1W : (if isR 5 = true then upd (fun _ => (0 : Int)) 5 ((fun _ => (0 : Int)) 5 + 1) else fun _ => 0) = v1W := by
  rw [if_pos (by decide)]
  funext r
  unfold upd v1W
  rfl
theorem e2W : (if isR 15 = true then upd v1W 15 (v1W 15 + 1) else v1W) = v2W := by
  rw [if_pos (by decide)]
  funext r
  unfold upd v2W v1W
  by_cases e : r = 15
  · subst e; rfl
  · rw [if_neg e, if_neg e]
theorem e3W : (if isR 5 = true then upd v2W 5 (v2W 5 + 1) else v2W) = vW := by
  rw [if_pos (by decide)]
  funext r
  unfold upd v2W vW
  by_cases e : r = 5
  · subst e; rfl
  · rw [if_neg e, if_neg e, if_neg e]
theorem e4W : (if isR 0 = true then upd vW 0 (vW 0 + 1) else vW) = vW := if_neg (by decide)
theorem bdW {f : Nat → Int} (h : ∀ r, 0 ≤ f r ∧ f r ≤ 2) : ∀ r, 0 ≤ f r ∧ f r < 4611686018427387904 := fun r => ⟨(h r).1, by have := (h r).2; omega⟩

set_option maxHeartbeats 8000000 in
theorem wakes6 {W : World} (hf : E.FinV) (hP : E.P = Try.prog) (hfin : E.fin = AtTally W (EndAt W)) (ho : Old W own w) {fr : Frame} {cs : List Frame}
    (h : ∀ E2 N2 own2 w2, E2.FinV → E2.P = Try.prog → E2.fin = EndAt W → Old W own2 w2 → Tr E2 N2 0 (mainLo own2) (Conc.G (fr.finish (.bool true)) cs) w2) :
    Tr E N 0 (mainLo own) (Conc.G (Frame.enter Try.prog 6 #[] .normal) (fr :: cs)) w := by
  have Wl : ∀ own', WkP Try.prog E (mainLo own') (base 6) := fun own' => wk_main hf hP (by decide)
  refine Tr.enterP hP b6 (Nat.le_of_ble_eq_true rfl) ?_
  (repeat (first | refine TkO.done (Wl own) (by rfl) ?_ | refine TkO.unwantedS (Wl own) (by rfl) (by rfl) (by rfl) (by rfl) ?_ | refine TkO.pureS (Wl own) (by rfl) (by rfl) (by rfl) (by rfl) (by first | exact pure_move (.inl rfl) rfl | exact pure_move (.inr rfl) rfl | exact pure_nilCheck rfl rfl | exact pure_field rfl rfl (by rfl) rfl (by decide +kernel) | exact pure_int rfl rfl rfl rfl | exact pure_not rfl rfl | exact pure_pickT rfl rfl rfl | exact pure_pickF rfl rfl rfl | exact pure_shift rfl rfl rfl rfl | exact pure_eqlNil rfl rfl rfl (by rfl) | exact pure_conv rfl rfl (by rfl) (by rfl)) ?_ | refine Tk.seq (WkP.wk (Wl own)) ?_ | refine Tk.reg (Wl own) ?_ | refine Tk.skip (WkP.wk (Wl own)) ?_ | refine Tk.block (WkP.wk (Wl own)) ?_ | refine Tk.condT (WkP.wk (Wl own)) rfl ?_ | refine Tk.condF (WkP.wk (Wl own)) rfl ?_ | refine Tk.exit (WkP.wk (Wl own)) rfl ?_ | refine Tk.label (WkP.wk (Wl own)) ?_))
  refine TkO.newM (Wl _) (d := 1) (by rfl) (by rfl) (by rfl) (by rfl) (fun r => ptr r 0) (.cells #[.int .u32 0, .int .i32 0, .int .u32 0, .slice none 0 0] 38 (0, 0)) (fun a ha w₁ => exec_allocC (t := 38) (by rfl) (by rfl) w₁) fun own1 w1 K k1 K1 K2 K3 => ?_
  have o1 := ho.kp k1
  have c1 := ctr_new K2 K3
  have f1 : ∀ b, b = K → W.heap.size ≤ b := fun b hb => by rw [hb]; exact Nat.le_trans ho.size K1
  (repeat (first | refine TkO.done (Wl own1) (by rfl) ?_ | refine TkO.unwantedS (Wl own1) (by rfl) (by rfl) (by rfl) (by rfl) ?_ | refine TkO.pureS (Wl own1) (by rfl) (by rfl) (by rfl) (by rfl) (by first | exact pure_move (.inl rfl) rfl | exact pure_move (.inr rfl) rfl | exact pure_nilCheck rfl rfl | exact pure_field rfl rfl (by rfl) rfl (by decide +kernel) | exact pure_int rfl rfl rfl rfl | exact pure_not rfl rfl | exact pure_pickT rfl rfl rfl | exact pure_pickF rfl rfl rfl | exact pure_shift rfl rfl rfl rfl | exact pure_eqlNil rfl rfl rfl (by rfl) | exact pure_conv rfl rfl (by rfl) (by rfl)) ?_ | refine Tk.seq (WkP.wk (Wl own1)) ?_ | refine Tk.reg (Wl own1) ?_ | refine Tk.skip (WkP.wk (Wl own1)) ?_ | refine Tk.block (WkP.wk (Wl own1)) ?_ | refine Tk.condT (WkP.wk (Wl own1)) rfl ?_ | refine Tk.condF (WkP.wk (Wl own1)) rfl ?_ | refine Tk.exit (WkP.wk (Wl own1)) rfl ?_ | refine Tk.label (WkP.wk (Wl own1)) ?_))
  refine TkO.call (Wl _) (by rfl) (by rfl) (by rfl) (by rfl) b7 rfl fun fr1 hk1 => ?_
  refine add7M (r := 5) hf hP c1 (fun _ => ⟨by decide, by decide⟩) fun own2 w2 FP2 k2 c2 => hk1 _ _ _ (TkO.lay (rfl : Nv.put _ _ _ = (_, _) :: _) ?_)
  rw [e1W] at c2
  obtain ⟨o2, f2⟩ := o1.kf k2 f1
  (repeat (first | refine TkO.done (Wl own2) (by rfl) ?_ | refine TkO.unwantedS (Wl own2) (by rfl) (by rfl) (by rfl) (by rfl) ?_ | refine TkO.pureS (Wl own2) (by rfl) (by rfl) (by rfl) (by rfl) (by first | exact pure_move (.inl rfl) rfl | exact pure_move (.inr rfl) rfl | exact pure_nilCheck rfl rfl | exact pure_field rfl rfl (by rfl) rfl (by decide +kernel) | exact pure_int rfl rfl rfl rfl | exact pure_not rfl rfl | exact pure_pickT rfl rfl rfl | exact pure_pickF rfl rfl rfl | exact pure_shift rfl rfl rfl rfl | exact pure_eqlNil rfl rfl rfl (by rfl) | exact pure_conv rfl rfl (by rfl) (by rfl)) ?_ | refine Tk.seq (WkP.wk (Wl own2)) ?_ | refine Tk.reg (Wl own2) ?_ | refine Tk.skip (WkP.wk (Wl own2)) ?_ | refine Tk.block (WkP.wk (Wl own2)) ?_ | refine Tk.condT (WkP.wk (Wl own2)) rfl ?_ | refine Tk.condF (WkP.wk (Wl own2)) rfl ?_ | refine Tk.exit (WkP.wk (Wl own2)) rfl ?_ | refine Tk.label (WkP.wk (Wl own2)) ?_))
  refine TkO.call (Wl _) (by rfl) (by rfl) (by rfl) (by rfl) b7 rfl fun fr2 hk2 => ?_
  refine add7M (r := 15) hf hP c2 (bdW fun r => by unfold v1W; split <;> decide) fun own3 w3 FP3 k3 c3 => hk2 _ _ _ (TkO.lay (rfl : Nv.put _ _ _ = (_, _) :: _) ?_)
  rw [e2W] at c3
  obtain ⟨o3, f3⟩ := o2.kf k3 f2
  (repeat (first | refine TkO.done (Wl own3) (by rfl) ?_ | refine TkO.unwantedS (Wl own3) (by rfl) (by rfl) (by rfl) (by rfl) ?_ | refine TkO.pureS (Wl own3) (by rfl) (by rfl) (by rfl) (by rfl) (by first | exact pure_move (.inl rfl) rfl | exact pure_move (.inr rfl) rfl | exact pure_nilCheck rfl rfl | exact pure_field rfl rfl (by rfl) rfl (by decide +kernel) | exact pure_int rfl rfl rfl rfl | exact pure_not rfl rfl | exact pure_pickT rfl rfl rfl | exact pure_pickF rfl rfl rfl | exact pure_shift rfl rfl rfl rfl | exact pure_eqlNil rfl rfl rfl (by rfl) | exact pure_conv rfl rfl (by rfl) (by rfl)) ?_ | refine Tk.seq (WkP.wk (Wl own3)) ?_ | refine Tk.reg (Wl own3) ?_ | refine Tk.skip (WkP.wk (Wl own3)) ?_ | refine Tk.block (WkP.wk (Wl own3)) ?_ | refine Tk.condT (WkP.wk (Wl own3)) rfl ?_ | refine Tk.condF (WkP.wk (Wl own3)) rfl ?_ | refine Tk.exit (WkP.wk (Wl own3)) rfl ?_ | refine Tk.label (WkP.wk (Wl own3)) ?_))
  refine TkO.call (Wl _) (by rfl) (by rfl) (by rfl) (by rfl) b7 rfl fun fr3 hk3 => ?_
  refine add7M (r := 5) hf hP c3 (bdW v2_bd) fun own4 w4 FP4 k4 c4 => hk3 _ _ _ (TkO.lay (rfl : Nv.put _ _ _ = (_, _) :: _) ?_)
  rw [e3W] at c4
  obtain ⟨o4, f4⟩ := o3.kf k4 f3
  (repeat (first | refine TkO.done (Wl own4) (by rfl) ?_ | refine TkO.unwantedS (Wl own4) (by rfl) (by rfl) (by rfl) (by rfl) ?_ | refine TkO.pureS (Wl own4) (by rfl) (by rfl) (by rfl) (by rfl) (by first | exact pure_move (.inl rfl) rfl | exact pure_move (.inr rfl) rfl | exact pure_nilCheck rfl rfl | exact pure_field rfl rfl (by rfl) rfl (by decide +kernel) | exact pure_int rfl rfl rfl rfl | exact pure_not rfl rfl | exact pure_pickT rfl rfl rfl | exact pure_pickF rfl rfl rfl | exact pure_shift rfl rfl rfl rfl | exact pure_eqlNil rfl rfl rfl (by rfl) | exact pure_conv rfl rfl (by rfl) (by rfl)) ?_ | refine Tk.seq (WkP.wk (Wl own4)) ?_ | refine Tk.reg (Wl own4) ?_ | refine Tk.skip (WkP.wk (Wl own4)) ?_ | refine Tk.block (WkP.wk (Wl own4)) ?_ | refine Tk.condT (WkP.wk (Wl own4)) rfl ?_ | refine Tk.condF (WkP.wk (Wl own4)) rfl ?_ | refine Tk.exit (WkP.wk (Wl own4)) rfl ?_ | refine Tk.label (WkP.wk (Wl own4)) ?_))
  refine TkO.call (Wl _) (by rfl) (by rfl) (by rfl) (by rfl) b7 rfl fun fr4 hk4 => ?_
  refine add7M (r := 0) hf hP c4 vW_bd fun own5 w5 FP5 k5 c5 => hk4 _ _ _ (TkO.lay (rfl : Nv.put _ _ _ = (_, _) :: _) ?_)
  rw [e4W] at c5
  obtain ⟨o5, f5⟩ := o4.kf k5 f4
  (repeat (first | refine TkO.done (Wl own5) (by rfl) ?_ | refine TkO.unwantedS (Wl own5) (by rfl) (by rfl) (by rfl) (by rfl) ?_ | refine TkO.pureS (Wl own5) (by rfl) (by rfl) (by rfl) (by rfl) (by first | exact pure_move (.inl rfl) rfl | exact pure_move (.inr rfl) rfl | exact pure_nilCheck rfl rfl | exact pure_field rfl rfl (by rfl) rfl (by decide +kernel) | exact pure_int rfl rfl rfl rfl | exact pure_not rfl rfl | exact pure_pickT rfl rfl rfl | exact pure_pickF rfl rfl rfl | exact pure_shift rfl rfl rfl rfl | exact pure_eqlNil rfl rfl rfl (by rfl) | exact pure_conv rfl rfl (by rfl) (by rfl)) ?_ | refine Tk.seq (WkP.wk (Wl own5)) ?_ | refine Tk.reg (Wl own5) ?_ | refine Tk.skip (WkP.wk (Wl own5)) ?_ | refine Tk.block (WkP.wk (Wl own5)) ?_ | refine Tk.condT (WkP.wk (Wl own5)) rfl ?_ | refine Tk.condF (WkP.wk (Wl own5)) rfl ?_ | refine Tk.exit (WkP.wk (Wl own5)) rfl ?_ | refine Tk.label (WkP.wk (Wl own5)) ?_))
  refine TkO.newArr (Wl _) (d := 7) (by rfl) (by rfl) (by rfl) (by rfl) (by rfl) fun own6 w6 A k6 A1 A2 A3 => ?_
  have o6 := o5.kp k6
  have c6' := c5.frame2 k6
  have nA : ¬ FP5 A := fun e => by have := (c5.lt e).1; omega
  (repeat (first | refine TkO.done (Wl own6) (by rfl) ?_ | refine TkO.unwantedS (Wl own6) (by rfl) (by rfl) (by rfl) (by rfl) ?_ | refine TkO.pureS (Wl own6) (by rfl) (by rfl) (by rfl) (by rfl) (by first | exact pure_move (.inl rfl) rfl | exact pure_move (.inr rfl) rfl | exact pure_nilCheck rfl rfl | exact pure_field rfl rfl (by rfl) rfl (by decide +kernel) | exact pure_int rfl rfl rfl rfl | exact pure_not rfl rfl | exact pure_pickT rfl rfl rfl | exact pure_pickF rfl rfl rfl | exact pure_shift rfl rfl rfl rfl | exact pure_eqlNil rfl rfl rfl (by rfl) | exact pure_conv rfl rfl (by rfl) (by rfl)) ?_ | refine Tk.seq (WkP.wk (Wl own6)) ?_ | refine Tk.reg (Wl own6) ?_ | refine Tk.skip (WkP.wk (Wl own6)) ?_ | refine Tk.block (WkP.wk (Wl own6)) ?_ | refine Tk.condT (WkP.wk (Wl own6)) rfl ?_ | refine Tk.condF (WkP.wk (Wl own6)) rfl ?_ | refine Tk.exit (WkP.wk (Wl own6)) rfl ?_ | refine Tk.label (WkP.wk (Wl own6)) ?_))
  refine TkO.pureS (Wl _) (by rfl) (by rfl) (by rfl) (by rfl) (pure_indexA (m := 19) (e := 3) (b := A) (off := 0) (k := .u8) (j := 5) (by rfl) (by rfl) (by decide +kernel) (by rfl) (by rfl) (by decide)) ?_
  refine TkO.storeAt (Wl _) (A := A) (m := 5) (v := 2) (by decide) (by rfl) (by rfl) (by rfl) (by rfl) (by rfl) (by rfl) A2 A3 fun w7 s7 h7 A7 => ?_
  refine TkO.pureS (Wl _) (by rfl) (by rfl) (by rfl) (by rfl) (pure_indexA (m := 19) (e := 3) (b := A) (off := 0) (k := .u8) (j := 15) (by rfl) (by rfl) (by decide +kernel) (by rfl) (by rfl) (by decide)) ?_
  refine TkO.storeAt (Wl _) (A := A) (m := 15) (v := 1) (by decide) (by rfl) (by rfl) (by rfl) (by rfl) (by rfl) (by rfl) A2 A7 fun w8 s8 h8 A8 => ?_
  have hA0 : W.heap.size ≤ A := Nat.le_trans o5.size A1
  have M : Wm W K A own6 w8 FP5 := by
    refine ⟨⟨Nat.le_trans o6.size (Nat.le_trans s7 s8), fun b hb => ⟨(o6.heap b hb).1, ?_⟩⟩, c6'.frame (fun _ x => x) fun b hb => ?_, f5, ⟨A2, ?_⟩, nA⟩
    · have hne : b ≠ A := by omega
      rw [h8 b (o6.heap b hb).1 hne, h7 b (o6.heap b hb).1 hne]
      exact (o6.heap b hb).2
    · have hne : b ≠ A := fun e => nA (e ▸ hb)
      rw [h8 b (c6'.lt hb).2 hne, h7 b (c6'.lt hb).2 hne]
    · have e : arrV 19 (upd (upd (fun _ => (0 : Int)) 5 2) 15 1) = arrV 19 vW := arrV_ext fun j _ => by
        unfold upd vW
        by_cases e15 : j = 15
        · subst e15; rfl
        · by_cases e5 : j = 5
          · subst e5; rfl
          · rw [if_neg e15, if_neg e5, if_neg e5, if_neg e15]
      rw [A8, e]
  refine TkO.done (Wl _) (by rfl) ?_
  refine Tk.seq (Wl _).wk ?_
  refine Tk.freeE (Wl _) mixed (I := Iw W K A) (by decide +kernel) ?_ ?_ ?_ ?_
  · refine ⟨own6, 0, FP5, rfl, hf, hP, fun _ => hfin, fun x => absurd x (not_up0 _ _), ⟨by simp, fun x hx => ?_, fun m o' d _ _ hu => absurd hu (not_up0 _ _)⟩, M, fun x => absurd x (not_up0 _ _)⟩
    have : x = 1 ∨ x = 2 ∨ x = 3 ∨ x = 4 ∨ x = 5 ∨ x = 6 ∨ x = 7 := by simpa [bsW] using hx
    rcases this with rfl | rfl | rfl | rfl | rfl | rfl | rfl <;> rfl
  · intro E L l w env ⟨own, S, FP, hl, hf, hP, _, _, F, _⟩
    subst hl
    exact ⟨F.size, wk_main hf hP (by decide)⟩
  · exact wakesR rfl
  · intro E N L l w env ⟨own, S, FP, hl, hf, hP, _, h38, F, M, _⟩ hall
    subst hl
    have W' : WkP Try.prog E (mainLo own) (base 6) := wk_main hf hP (by decide)
    have g0 := F.get (j := 63) (d := 0) (by rfl) rfl (hall 63 (by decide))
    exact Tk.ret W'.wk (TkR.leave1 W'.wk (hP ▸ b6) g0 (h _ _ _ _ hf hP (h38 (hall 38 (by decide))) M.old))
end Go.Co.F1

namespace Go.Co.F1
open Go Go.Conc Go.Proofs
open Go.Co
open Go.ConcN (upd upd_ne upd_same)
variable {E : Geo} {N i : Nat} {l : Lo} {w : World} {own own' : Nat → Prop} {w' : World} {FP FP' : Nat → Prop}
set_option maxRecDepth 10000

theorem eqlBool {P : Program} {t : TypeId} {a b : Bool} (hu : P.underlying t = some .bool) (w : World) : (Op.equal t (.bool a) (.bool b)).run P w = .ok (a == b) w ∧ (Op.equal t (.bool a) (.bool b)).events P w #[] = #[] := by
  have h1 := run_underlying hu w
  have e : Op.maxDepth = 9999 + 1 := rfl
  unfold Op.equal
  rw [e]
  generalize 9999 = D
  constructor
  · simp [Op.equalIn, h1]
  · simp [Op.equalIn, h1, events_underlying]
theorem pure_eqBool {P : Program} {env : Nv} {o : Oper} {t yt : TypeId} {x y : Operand} {a b : Bool} (ho : o.op = .binOp .eql t x y yt) (hx : env.ev x = some (.bool a)) (hy : env.ev y = some (.bool b)) (hu : P.underlying t = some .bool) : PureOp P env o (.bool (a == b)) := fun n c hc w => by
  obtain ⟨h1, h2⟩ := eqlBool (a := a) (b := b) hu w
  have e : execOp c.eval o = (do eqGuard .eql t x y (.bool a) (.bool b); let r ← binOp .eql t (.bool a) (.bool b); pure (.value r)) := by
    unfold execOp; rw [ho]; simp only [hc.ev hx, hc.ev hy]; rfl
  have e2 : eqGuard .eql t x y (.bool a) (.bool b) = pure () := rfl
  have e3 : binOp .eql t (.bool a) (.bool b) = (do pure (.bool (← Op.equal t (.bool a) (.bool b)))) := rfl
  rw [e, e2, e3]
  constructor
  · simp only [Sem.run_bind, Sem.run_pure, Result.andThen_ok, h1]
  · simp only [Sem.events_bind, Sem.run_bind, Sem.run_pure, Sem.events_pure, Result.andThen_ok, Result.evThen_ok, h1, h2]

/-- What CountsOne has laid out. -/
structure Om (W : World) (own : Nat → Prop) (w : World) (C : Nat) (FP : Nat → Prop) (v : Nat → Int) (D : Nat) : Prop where
  old : Old W own w
  ctr : Ctr own w C FP v
  fpo : ∀ b, FP b → W.heap.size ≤ b
  d : own D ∧ w.heap[D]? = some (.cells #[.int .u32 0, .int .i32 0, .int .u32 0, .slice none 0 0] 38 (0, 0))
  nd : ¬ FP D
structure Ar (own : Nat → Prop) (w : World) (FP : Nat → Prop) (A : Nat) (f : Nat → Int) : Prop where
  ow : own A
  heap : w.heap[A]? = some (.cells (arrV 19 f) 40 (0, 0))
  na : ¬ FP A
section
variable {W : World} {C D A : Nat} {v v' f : Nat → Int}
theorem Om.kf (m : Om W own w C FP v D) (k : Kf own w FP own' w' FP') (c : Ctr own' w' C FP' v') : Om W own' w' C FP' v' D := by
  obtain ⟨o, g⟩ := m.old.kf k m.fpo
  exact ⟨o, c, g, ⟨k.ow D m.d.1, by rw [k.heap D m.d.1 m.nd]; exact m.d.2⟩, fun e => (k.fp D e).elim m.nd fun x => by have := lt_of_heap m.d.2; omega⟩
theorem Ar.kf (s : Ar own w FP A f) (k : Kf own w FP own' w' FP') : Ar own' w' FP' A f :=
  ⟨k.ow A s.ow, by rw [k.heap A s.ow s.na]; exact s.heap, fun e => (k.fp A e).elim s.na fun x => by have := lt_of_heap s.heap; omega⟩
theorem Om.kp (m : Om W own w C FP v D) (k : Kp own w own' w') : Om W own' w' C FP v D := ⟨m.old.kp k, m.ctr.frame2 k, m.fpo, k.get m.d.1 m.d.2, m.nd⟩
theorem Ar.kp (s : Ar own w FP A f) (k : Kp own w own' w') : Ar own' w' FP A f := ⟨(k.get s.ow s.heap).1, (k.get s.ow s.heap).2, s.na⟩
/-- Only A is turned. -/
theorem Om.ne (m : Om W own w C FP v D) (hs : w.heap.size ≤ w'.heap.size) (h : ∀ b, own b → b ≠ A → w'.heap[b]? = w.heap[b]?) (hA : W.heap.size ≤ A) (hF : ¬ FP A) (hD : A ≠ D) : Om W own w' C FP v D :=
  ⟨⟨Nat.le_trans m.old.size hs, fun b hb => ⟨(m.old.heap b hb).1, by rw [h b (m.old.heap b hb).1 (by omega)]; exact (m.old.heap b hb).2⟩⟩, m.ctr.frame (fun _ x => x) fun b hb => h b (m.ctr.lt hb).2 fun e => hF (e ▸ hb), m.fpo, ⟨m.d.1, by rw [h D m.d.1 (Ne.symm hD)]; exact m.d.2⟩, m.nd⟩
end

section
variable {b : Frame} {n : Nat} {env : Nv} {ds : List Deferred} {k : List Item} {cs : List Frame} {ops : Array Oper} {j : Nat} {o : Oper}
/-- An array of goroutine 0's is laid anew, whole. -/
theorem TkO.storeAll (W : WkP Try.prog E (mainLo own) b) {A : Nat} {f f0 : Nat → Int} {x y : Operand} (ho : ops[j]? = some o) (hw : wantE ops env o = some true) (hd : o.dst = none) (hop : o.op = .store 40 x y)
    (hx : env.ev x = some (ptr A 0)) (hy : env.ev y = some (.agg (arrV 19 f))) (hown : own A) (hh : w.heap[A]? = some (.cells (arrV 19 f0) 40 (0, 0)))
    (h : ∀ w', w.heap.size ≤ w'.heap.size → (∀ b, own b → b ≠ A → w'.heap[b]? = w.heap[b]?) → w'.heap[A]? = some (.cells (arrV 19 f) 40 (0, 0)) → TkO E N i (mainLo own) w' b n env ds ops (j + 1) k cs) : TkO E N i (mainLo own) w b n env ds ops j k cs := by
  refine TkO.open ho (Tk.ostoreA W.wk rfl (x := x) (y := y) (g := A) (c := arrV 19 f) (old := arrV 19 f0) ho hw hd hop (by rw [W.hP, arrV_size]; rfl) (by rw [arrV_size, arrV_size]) arrV_one hx hy hown hh fun w₁ w₂ hv e2 => ?_)
  refine h w₂ ?_ (fun b hb hn => ?_) ?_
  · have : w₂.heap.size = w₁.heap.size := by rw [e2]; simp [World.setRow]
    rw [this]; exact hv.1
  · rw [e2, setRow_other _ _ _ _ hn]; exact hv.2 b hb
  · rw [e2]; exact setRow_heap _ _ _ _ _ _ (by rw [hv.2 A hown]; exact hh)
/-- A place in an array of goroutine 0's is read. -/
theorem TkO.loadAt (W : WkP Try.prog E (mainLo own) b) {A m d : Nat} {f : Nat → Int} {x : Operand} (hm : m < 19) (ho : ops[j]? = some o) (hw : wantE ops env o = some true) (hdd : o.dst = some d) (hd : Nat.blt d n = true) (hop : o.op = .load 3 x)
    (hx : env.ev x = some (ptr A m)) (hown : own A) (hh : w.heap[A]? = some (.cells (arrV 19 f) 40 (0, 0)))
    (h : TkO E N i (mainLo own) w b n ((d, .int .i64 (f m)) :: env) ds ops (j + 1) k cs) : TkO E N i (mainLo own) w b n env ds ops j k cs := by
  have hc : w.cell? (adr A m) = some (.int .i64 (f m)) := by
    rw [cell_at hh, arrV_get, if_pos hm]
  refine TkO.open ho (Tk.oload W.wk rfl (x := x) (ad := adr A m) (v := .int .i64 (f m)) ho hw (by rw [hdd]; exact hd) hop (by rw [W.hP]; rfl) hx hown hc ?_)
  rw [hdd]
  exact h
end

noncomputable def c5 : Code := (Try.f5.body).getD .skip
theorem b5 : Bod Try.prog 5 80 c5 #[.tmp 4] := ⟨Try.f5, Try.func5, by decide +kernel, rfl, rfl, rfl⟩
/-- THE LAW RETURNS. -/
theorem end5 {W : World} {env : Nv} (hfin : E.fin = EndAt W) (ho : Old W own w) (g4 : env.get 4 = some (.bool true)) : TkR E N 0 (mainLo own) w (base 5) 80 env [] [] := by
  intro a todo ha hds
  obtain ⟨fn, f1, _, _, _, f5⟩ := b5.out
  refine Pro.Lv.fold ⟨⟨rfl, rfl, rfl⟩, .inl ⟨rfl, rfl, ?_⟩⟩
  show E.fin _ _ _
  rw [hfin]
  refine ⟨⟨own, rfl, ho⟩, fun w1 => ?_⟩
  have e : a.tmps.getD 4 undef = .bool true := by rw [Array.getD_eq_getD_getElem?, ha.2 4 _ g4]; rfl
  have hr : (results fn a.tmps).run Try.prog w1 = .ok (.bool true) w1 := by rw [results_tmp f5, e]
  have he := events_results_tmp (P := Try.prog) (w := w1) f5 a.tmps #[]
  simp [Conc.G, stepG, unwind, doReturn, Frame.at, base, hds, f1, hr, he, seen, GStep.after]
end Go.Co.F1

namespace Go.Co.F1
open Go Go.Conc Go.Proofs
open Go.Co
open Go.ConcN (upd upd_ne upd_same)
variable {E : Geo} {N i : Nat} {l : Lo} {w : World} {own own' : Nat → Prop} {w' : World} {FP FP' : Nat → Prop}
set_option maxRecDepth 10000

/-- What CountsOne is given. -/
structure Arg (W : World) (bs : Option Addr) (nj : Nat) (rr : Nat → Nat) (x : Nat) : Prop where
  at_ : ∀ q, q < nj → ∃ b o, bs = some ⟨b, o, none⟩ ∧ b < W.heap.size ∧ W.cell? ⟨b, o + q, none⟩ = some (.int .u8 (rr q))
  rr : ∀ q, rr q < 256
  x : x < 256

/-- How often a reason has been told. -/
def cN (rr : Nat → Nat) (n r : Nat) : Int := (sentTo (rsn rr) r n : Int)
theorem sent_le {rs : Nat → Option Nat} {r : Nat} : ∀ n, sentTo rs r n ≤ n
  | 0 => Nat.le_refl _
  | n + 1 => by
    have := sent_le (rs := rs) (r := r) n
    unfold sentTo at this ⊢
    simp only [Go.ConcN.sumTo]
    split <;> omega
theorem cN_bd {rr : Nat → Nat} {n : Nat} (h : n ≤ 300) : ∀ r, 0 ≤ cN rr n r ∧ cN rr n r ≤ 300 := fun r => by
  have := sent_le (rs := rsn rr) (r := r) n
  unfold cN
  omega
theorem cN_step (rr : Nat → Nat) (n : Nat) : (if isR (rr n) = true then upd (cN rr n) (rr n) (cN rr n (rr n) + 1) else cN rr n) = cN rr (n + 1) := by
  have e : ∀ r, cN rr (n + 1) r = cN rr n r + (if rsn rr n = some r then 1 else 0) := fun r => by
    unfold cN sentTo
    simp only [Go.ConcN.sumTo]
    split <;> simp
  funext r
  rw [e]
  by_cases hR : 0 < rr n ∧ rr n < 19
  · rw [if_pos (show isR (rr n) = true by unfold isR; exact decide_eq_true hR)]
    unfold rsn upd
    rw [if_pos hR]
    by_cases er : r = rr n
    · subst er; rw [if_pos rfl, if_pos rfl]
    · rw [if_neg er, if_neg (fun e => er (by cases e; rfl))]; simp
  · rw [if_neg (show ¬ isR (rr n) = true by unfold isR; simp only [decide_eq_true_eq]; exact hR)]
    unfold rsn
    rw [if_neg hR, if_neg (fun e => by cases e)]; simp

def adds (v : Nat → Int) (x : Nat) : Nat → Int := if isR x = true then upd v x (v x + 1) else v
theorem adds_cnt (v : Nat → Int) (x r : Nat) : cnt (adds v x) r = cnt v r + (if isR x = true ∧ r = x then 1 else 0) := by
  unfold cnt adds
  by_cases hx : isR x = true
  · by_cases e : r = x
    · subst e; simp [hx, upd_same]
    · by_cases hr : isR r = true
      · simp [hx, hr, e, upd_ne _ _ e]
      · simp [hx, hr, e]
  · by_cases hr : isR r = true
    · simp [hx, hr]
    · simp [hx, hr]

theorem zero_bd : ∀ j, 0 ≤ cnt (fun _ => 0) j ∧ cnt (fun _ => 0) j < 1125899906842624 := fun j => by
  unfold cnt
  split <;> exact ⟨Int.le_refl 0, (by decide : (0 : Int) < 1125899906842624)⟩
theorem cnt_zero : ∀ j, j < 19 → cnt (fun _ => 0) j = (fun _ => (0 : Int)) j := fun j _ => by
  unfold cnt
  split <;> rfl
theorem sum_zero : sumF (cnt fun _ => 0) 19 = 0 := by decide
theorem pure_eqArrT {P : Program} {t e : TypeId} {m : Nat} {f g : Nat → Int} {env : Nv} {o : Oper} {yt : TypeId} {x y : Operand} (ho : o.op = .binOp .eql t x y yt) (hx : env.ev x = some (.agg (arrV m f))) (hy : env.ev y = some (.agg (arrV m g))) (hu : P.underlying t = some (.array m e)) (he : P.underlying e = some (.int .i64)) (hz : P.cellsOf e = 1) (hG : P.eqGuardType P.depth t = false)
    (h : ∀ i, i < m → f i = g i) : PureOp P env o (.bool true) := by
  have := pure_eqArr (P := P) ho hx hy hu he hz hG
  rwa [arrEq_true h] at this

set_option maxHeartbeats 16000000 in
/-- CountsOne, behind its first loop. -/
theorem one5b {W : World} {C D x : Nat} {v : Nat → Int} (hf : E.FinV) (hP : E.P = Try.prog) (hfin : E.fin = AtTally W (EndAt W)) (m : Om W own w C FP v D) (hD : W.heap.size ≤ D) (hx : x < 256) (hv : ∀ r, 0 ≤ v r ∧ v r ≤ 300) :
    Tk E N 0 (mainLo own) w (base 5) 80 [(1, .int .u8 x), (4, .bool false), (5, ptr C 0), (6, ptr D 0)] [] [.code (skipSeq 4 c5)] [] := by
  have Wl : ∀ own', WkP Try.prog E (mainLo own') (base 5) := fun own' => wk_main hf hP (by decide)
  refine Tk.seq (Wl _).wk ?_
  refine Tk.reg (Wl _) ?_
  refine TkO.call (Wl _) (by rfl) (by rfl) (by rfl) (by rfl) b11 rfl fun fr1 hk1 => ?_
  refine all11M hf hP m.ctr fun own1 w1 FP1 k1 c1 => hk1 _ _ _ (TkO.lay (rfl : Nv.put _ _ _ = (_, _) :: _) ?_)
  have m1 := m.kf k1 c1
  refine TkO.newArr (Wl _) (d := 8) (by rfl) (by rfl) (by rfl) (by rfl) (by rfl) fun own2 w2 A k2 A1 A2 A3 => ?_
  have m2 := m1.kp k2
  have nA : ¬ FP1 A := fun e => by have := (m1.ctr.lt e).1; omega
  have A0 : W.heap.size ≤ A := Nat.le_trans m1.old.size A1
  have AD : A ≠ D := by have := lt_of_heap m1.d.2; omega
  refine TkO.storeAll (Wl _) (A := A) (f := cnt v) (by rfl) (by rfl) (by rfl) (by rfl) (by rfl) (by rfl) A2 A3 fun w3 s3 h3 A4 => ?_
  have m3 := m2.ne s3 h3 A0 nA AD
  have a3 : Ar own2 w3 FP1 A (cnt v) := ⟨A2, A4, nA⟩
  (repeat (first | refine TkO.done (Wl own2) (by rfl) ?_ | refine TkO.unwantedS (Wl own2) (by rfl) (by rfl) (by rfl) (by rfl) ?_ | refine TkO.pureS (Wl own2) (by rfl) (by rfl) (by rfl) (by rfl) (by first | exact pure_move (.inl rfl) rfl | exact pure_move (.inr rfl) rfl | exact pure_nilCheck rfl rfl | exact pure_field rfl rfl (by rfl) rfl (by decide +kernel) | exact pure_int rfl rfl rfl rfl | exact pure_not rfl rfl | exact pure_pickT rfl rfl rfl | exact pure_pickF rfl rfl rfl | exact pure_shift rfl rfl rfl rfl | exact pure_eqlNil rfl rfl rfl (by rfl) | exact pure_conv rfl rfl (by rfl) (by rfl)) ?_ | refine Tk.seq (WkP.wk (Wl own2)) ?_ | refine Tk.reg (Wl own2) ?_ | refine Tk.skip (WkP.wk (Wl own2)) ?_ | refine Tk.block (WkP.wk (Wl own2)) ?_ | refine Tk.condT (WkP.wk (Wl own2)) rfl ?_ | refine Tk.condF (WkP.wk (Wl own2)) rfl ?_ | refine Tk.exit (WkP.wk (Wl own2)) rfl ?_ | refine Tk.label (WkP.wk (Wl own2)) ?_))
  refine TkO.call (Wl _) (by rfl) (by rfl) (by rfl) (by rfl) b7 rfl fun fr2 hk2 => ?_
  refine add7M (r := x) hf hP m3.ctr (fun r => ⟨(hv r).1, by have := (hv r).2; omega⟩) fun own4 w4 FP4 k4 c4 => hk2 _ _ _ (TkO.lay (rfl : Nv.put _ _ _ = (_, _) :: _) ?_)
  have c4 : Ctr own4 w4 C FP4 (adds v x) := c4
  have m4 := m3.kf k4 c4
  have a4 := a3.kf k4
  (repeat (first | refine TkO.done (Wl own4) (by rfl) ?_ | refine TkO.unwantedS (Wl own4) (by rfl) (by rfl) (by rfl) (by rfl) ?_ | refine TkO.pureS (Wl own4) (by rfl) (by rfl) (by rfl) (by rfl) (by first | exact pure_move (.inl rfl) rfl | exact pure_move (.inr rfl) rfl | exact pure_nilCheck rfl rfl | exact pure_field rfl rfl (by rfl) rfl (by decide +kernel) | exact pure_int rfl rfl rfl rfl | exact pure_not rfl rfl | exact pure_pickT rfl rfl rfl | exact pure_pickF rfl rfl rfl | exact pure_shift rfl rfl rfl rfl | exact pure_eqlNil rfl rfl rfl (by rfl) | exact pure_conv rfl rfl (by rfl) (by rfl)) ?_ | refine Tk.seq (WkP.wk (Wl own4)) ?_ | refine Tk.reg (Wl own4) ?_ | refine Tk.skip (WkP.wk (Wl own4)) ?_ | refine Tk.block (WkP.wk (Wl own4)) ?_ | refine Tk.condT (WkP.wk (Wl own4)) rfl ?_ | refine Tk.condF (WkP.wk (Wl own4)) rfl ?_ | refine Tk.exit (WkP.wk (Wl own4)) rfl ?_ | refine Tk.label (WkP.wk (Wl own4)) ?_))
  refine TkO.call (Wl _) (by rfl) (by rfl) (by rfl) (by rfl) b11 rfl fun fr3 hk3 => ?_
  refine all11M hf hP m4.ctr fun own5 w5 FP5 k5 c5 => hk3 _ _ _ (TkO.lay (rfl : Nv.put _ _ _ = (_, _) :: _) ?_)
  have m5 := m4.kf k5 c5
  have a5 := a4.kf k5
  refine TkO.newArr (Wl _) (d := 10) (by rfl) (by rfl) (by rfl) (by rfl) (by rfl) fun own6 w6 B k6 B1 B2 B3 => ?_
  have m6 := m5.kp k6
  have a6 := a5.kp k6
  have nB : ¬ FP5 B := fun e => by have := (m5.ctr.lt e).1; omega
  have B0 : W.heap.size ≤ B := Nat.le_trans m5.old.size B1
  have BD : B ≠ D := by have := lt_of_heap m5.d.2; omega
  have AB : A ≠ B := by have := lt_of_heap a5.heap; omega
  refine TkO.storeAll (Wl _) (A := B) (f := cnt (adds v x)) (by rfl) (by rfl) (by rfl) (by rfl) (by rfl) (by rfl) B2 B3 fun w7 s7 h7 B4 => ?_
  have m7 := m6.ne s7 h7 B0 nB BD
  have a7 : Ar own6 w7 FP5 A (cnt v) := ⟨a6.ow, by rw [h7 A a6.ow AB]; exact a6.heap, a6.na⟩
  have b7' : Ar own6 w7 FP5 B (cnt (adds v x)) := ⟨B2, B4, nB⟩
  (repeat (first | refine TkO.done (Wl own6) (by rfl) ?_ | refine TkO.unwantedS (Wl own6) (by rfl) (by rfl) (by rfl) (by rfl) ?_ | refine TkO.pureS (Wl own6) (by rfl) (by rfl) (by rfl) (by rfl) (by first | exact pure_move (.inl rfl) rfl | exact pure_move (.inr rfl) rfl | exact pure_nilCheck rfl rfl | exact pure_field rfl rfl (by rfl) rfl (by decide +kernel) | exact pure_int rfl rfl rfl rfl | exact pure_not rfl rfl | exact pure_pickT rfl rfl rfl | exact pure_pickF rfl rfl rfl | exact pure_shift rfl rfl rfl rfl | exact pure_eqlNil rfl rfl rfl (by rfl) | exact pure_conv rfl rfl (by rfl) (by rfl)) ?_ | refine Tk.seq (WkP.wk (Wl own6)) ?_ | refine Tk.reg (Wl own6) ?_ | refine Tk.skip (WkP.wk (Wl own6)) ?_ | refine Tk.block (WkP.wk (Wl own6)) ?_ | refine Tk.condT (WkP.wk (Wl own6)) rfl ?_ | refine Tk.condF (WkP.wk (Wl own6)) rfl ?_ | refine Tk.exit (WkP.wk (Wl own6)) rfl ?_ | refine Tk.label (WkP.wk (Wl own6)) ?_))
  refine Tk.loop (Wl _).wk ?_
  refine Tk.cut fun KK hKK => ?_
  have hvb := hv
  obtain ⟨ad, had⟩ : ∃ ad, ad = isR x := ⟨_, rfl⟩
  rw [← had]
  have HH : ∀ (m n : Nat) own w FP, n + m = 19 → Om W own w C FP (adds v x) D → Ar own w FP A (cnt v) → Ar own w FP B (cnt (adds v x)) →
      Tk E N 0 (mainLo own) w (base 5) 80 [(1, .int .u8 x), (4, .bool false), (5, ptr C 0), (6, ptr D 0), (8, ptr A 0), (9, .bool ad), (10, ptr B 0), (11, .int .i64 n)] [] KK [] := by
    intro m
    induction m with
    | zero =>
      intro n own w FP hn m a b
      have hn : n = 19 := by omega
      subst hn
      rw [hKK]
      (repeat (first | refine TkO.done (Wl own) (by rfl) ?_ | refine TkO.unwantedS (Wl own) (by rfl) (by rfl) (by rfl) (by rfl) ?_ | refine TkO.pureS (Wl own) (by rfl) (by rfl) (by rfl) (by rfl) (by first | exact pure_move (.inl rfl) rfl | exact pure_move (.inr rfl) rfl | exact pure_nilCheck rfl rfl | exact pure_field rfl rfl (by rfl) rfl (by decide +kernel) | exact pure_int rfl rfl rfl rfl | exact pure_not rfl rfl | exact pure_pickT rfl rfl rfl | exact pure_pickF rfl rfl rfl | exact pure_shift rfl rfl rfl rfl | exact pure_eqlNil rfl rfl rfl (by rfl) | exact pure_conv rfl rfl (by rfl) (by rfl)) ?_ | refine Tk.seq (WkP.wk (Wl own)) ?_ | refine Tk.reg (Wl own) ?_ | refine Tk.skip (WkP.wk (Wl own)) ?_ | refine Tk.block (WkP.wk (Wl own)) ?_ | refine Tk.condT (WkP.wk (Wl own)) rfl ?_ | refine Tk.condF (WkP.wk (Wl own)) rfl ?_ | refine Tk.exit (WkP.wk (Wl own)) rfl ?_ | refine Tk.label (WkP.wk (Wl own)) ?_))
      have hx0 : x = 0 ∨ (0 < x ∧ x < 19) ∨ 19 ≤ x := by omega
      rcases hx0 with hx0 | hx0 | hx0
      · have e1 : decide ((x : Int) > 0) = false := decide_eq_false (by omega)
        have e2 : ad = false := by rw [had]; unfold isR; exact decide_eq_false (by omega)
        subst e2
        rw [e1]
        (repeat (first | refine TkO.done (Wl own) (by rfl) ?_ | refine TkO.unwantedS (Wl own) (by rfl) (by rfl) (by rfl) (by rfl) ?_ | refine TkO.pureS (Wl own) (by rfl) (by rfl) (by rfl) (by rfl) (by first | exact pure_move (.inl rfl) rfl | exact pure_move (.inr rfl) rfl | exact pure_nilCheck rfl rfl | exact pure_field rfl rfl (by rfl) rfl (by decide +kernel) | exact pure_int rfl rfl rfl rfl | exact pure_not rfl rfl | exact pure_pickT rfl rfl rfl | exact pure_pickF rfl rfl rfl | exact pure_shift rfl rfl rfl rfl | exact pure_eqlNil rfl rfl rfl (by rfl) | exact pure_conv rfl rfl (by rfl) (by rfl)) ?_ | refine Tk.seq (WkP.wk (Wl own)) ?_ | refine Tk.reg (Wl own) ?_ | refine Tk.skip (WkP.wk (Wl own)) ?_ | refine Tk.block (WkP.wk (Wl own)) ?_ | refine Tk.condT (WkP.wk (Wl own)) rfl ?_ | refine Tk.condF (WkP.wk (Wl own)) rfl ?_ | refine Tk.exit (WkP.wk (Wl own)) rfl ?_ | refine Tk.label (WkP.wk (Wl own)) ?_))
        refine TkO.pureS (Wl own) (by rfl) (by rfl) (by rfl) (by rfl) (pure_eqBool rfl rfl rfl (by rfl)) ?_
        (repeat (first | refine TkO.done (Wl own) (by rfl) ?_ | refine TkO.unwantedS (Wl own) (by rfl) (by rfl) (by rfl) (by rfl) ?_ | refine TkO.pureS (Wl own) (by rfl) (by rfl) (by rfl) (by rfl) (by first | exact pure_move (.inl rfl) rfl | exact pure_move (.inr rfl) rfl | exact pure_nilCheck rfl rfl | exact pure_field rfl rfl (by rfl) rfl (by decide +kernel) | exact pure_int rfl rfl rfl rfl | exact pure_not rfl rfl | exact pure_pickT rfl rfl rfl | exact pure_pickF rfl rfl rfl | exact pure_shift rfl rfl rfl rfl | exact pure_eqlNil rfl rfl rfl (by rfl) | exact pure_conv rfl rfl (by rfl) (by rfl)) ?_ | refine Tk.seq (WkP.wk (Wl own)) ?_ | refine Tk.reg (Wl own) ?_ | refine Tk.skip (WkP.wk (Wl own)) ?_ | refine Tk.block (WkP.wk (Wl own)) ?_ | refine Tk.condT (WkP.wk (Wl own)) rfl ?_ | refine Tk.condF (WkP.wk (Wl own)) rfl ?_ | refine Tk.exit (WkP.wk (Wl own)) rfl ?_ | refine Tk.label (WkP.wk (Wl own)) ?_))
        refine TkO.call (Wl _) (by rfl) (by rfl) (by rfl) (by rfl) b12 rfl fun fr5 hk5 => ?_
        refine sum12M hf hP (ctr_new m.d.1 m.d.2) zero_bd fun own2 w2 FP2 k2 c2 => ?_
        rw [sum_zero]
        refine hk5 _ _ _ (TkO.lay (rfl : Nv.put _ _ _ = (_, _) :: _) ?_)
        obtain ⟨o2, f2⟩ := m.old.kf k2 (fun b hb => by rw [hb]; exact hD)
        (repeat (first | refine TkO.done (Wl own2) (by rfl) ?_ | refine TkO.unwantedS (Wl own2) (by rfl) (by rfl) (by rfl) (by rfl) ?_ | refine TkO.pureS (Wl own2) (by rfl) (by rfl) (by rfl) (by rfl) (by first | exact pure_move (.inl rfl) rfl | exact pure_move (.inr rfl) rfl | exact pure_nilCheck rfl rfl | exact pure_field rfl rfl (by rfl) rfl (by decide +kernel) | exact pure_int rfl rfl rfl rfl | exact pure_not rfl rfl | exact pure_pickT rfl rfl rfl | exact pure_pickF rfl rfl rfl | exact pure_shift rfl rfl rfl rfl | exact pure_eqlNil rfl rfl rfl (by rfl) | exact pure_conv rfl rfl (by rfl) (by rfl)) ?_ | refine Tk.seq (WkP.wk (Wl own2)) ?_ | refine Tk.reg (Wl own2) ?_ | refine Tk.skip (WkP.wk (Wl own2)) ?_ | refine Tk.block (WkP.wk (Wl own2)) ?_ | refine Tk.condT (WkP.wk (Wl own2)) rfl ?_ | refine Tk.condF (WkP.wk (Wl own2)) rfl ?_ | refine Tk.exit (WkP.wk (Wl own2)) rfl ?_ | refine Tk.label (WkP.wk (Wl own2)) ?_))
        refine TkO.call (Wl _) (by rfl) (by rfl) (by rfl) (by rfl) b11 rfl fun fr6 hk6 => ?_
        refine all11M hf hP c2 fun own3 w3 FP3 k3 c3 => hk6 _ _ _ (TkO.lay (rfl : Nv.put _ _ _ = (_, _) :: _) ?_)
        obtain ⟨o3, f3⟩ := o2.kf k3 f2
        refine TkO.pureS (Wl own3) (by rfl) (by rfl) (by rfl) (by rfl) (pure_build40 rfl) ?_
        refine TkO.pureS (Wl own3) (by rfl) (by rfl) (by rfl) (by rfl) (pure_eqArrT (m := 19) (e := 3) (f := cnt fun _ => 0) (g := fun _ => 0) (by rfl) (by rfl) (by rfl) (by rfl) (by rfl) (by decide +kernel) (by decide +kernel) cnt_zero) ?_
        (repeat (first | refine TkO.done (Wl own3) (by rfl) ?_ | refine TkO.unwantedS (Wl own3) (by rfl) (by rfl) (by rfl) (by rfl) ?_ | refine TkO.pureS (Wl own3) (by rfl) (by rfl) (by rfl) (by rfl) (by first | exact pure_move (.inl rfl) rfl | exact pure_move (.inr rfl) rfl | exact pure_nilCheck rfl rfl | exact pure_field rfl rfl (by rfl) rfl (by decide +kernel) | exact pure_int rfl rfl rfl rfl | exact pure_not rfl rfl | exact pure_pickT rfl rfl rfl | exact pure_pickF rfl rfl rfl | exact pure_shift rfl rfl rfl rfl | exact pure_eqlNil rfl rfl rfl (by rfl) | exact pure_conv rfl rfl (by rfl) (by rfl)) ?_ | refine Tk.seq (WkP.wk (Wl own3)) ?_ | refine Tk.reg (Wl own3) ?_ | refine Tk.skip (WkP.wk (Wl own3)) ?_ | refine Tk.block (WkP.wk (Wl own3)) ?_ | refine Tk.condT (WkP.wk (Wl own3)) rfl ?_ | refine Tk.condF (WkP.wk (Wl own3)) rfl ?_ | refine Tk.exit (WkP.wk (Wl own3)) rfl ?_ | refine Tk.label (WkP.wk (Wl own3)) ?_))
        refine TkO.callE (Wl _) (by rfl) (by rfl) (by rfl) (by rfl) (by rfl) b6 rfl fun fr7 hk7 => ?_
        refine wakes6 hf hP hfin o3 fun E2 N2 own4 w4 f4 P4 fin4 o4 => hk7 E2 N2 _ _ _ ?_
        have W4 : WkP Try.prog E2 (mainLo own4) (base 5) := wk_main f4 P4 (by decide)
        (repeat (first | refine TkO.done W4 (by rfl) ?_ | refine TkO.unwantedS W4 (by rfl) (by rfl) (by rfl) (by rfl) ?_ | refine TkO.pureS W4 (by rfl) (by rfl) (by rfl) (by rfl) (by first | exact pure_move (.inl rfl) rfl | exact pure_move (.inr rfl) rfl | exact pure_nilCheck rfl rfl | exact pure_field rfl rfl (by rfl) rfl (by decide +kernel) | exact pure_int rfl rfl rfl rfl | exact pure_not rfl rfl | exact pure_pickT rfl rfl rfl | exact pure_pickF rfl rfl rfl | exact pure_shift rfl rfl rfl rfl | exact pure_eqlNil rfl rfl rfl (by rfl) | exact pure_conv rfl rfl (by rfl) (by rfl)) ?_ | refine Tk.seq (WkP.wk W4) ?_ | refine Tk.reg W4 ?_ | refine Tk.skip (WkP.wk W4) ?_ | refine Tk.block (WkP.wk W4) ?_ | refine Tk.condT (WkP.wk W4) rfl ?_ | refine Tk.condF (WkP.wk W4) rfl ?_ | refine Tk.exit (WkP.wk W4) rfl ?_ | refine Tk.label (WkP.wk W4) ?_))
        exact Tk.ret W4.wk (end5 fin4 o4 rfl)
      · have e1 : decide ((x : Int) > 0) = true := decide_eq_true (by omega)
        have e2 : ad = true := by rw [had]; unfold isR; exact decide_eq_true (by omega)
        have e3 : intV .lss .u8 (x : Int) 19 = some (.bool true) := by
          simp only [intV]; rw [decide_eq_true (show (x : Int) < 19 by omega)]
        subst e2
        rw [e1]
        repeat (first
          | refine TkO.pureS (Wl own) (by rfl) (by rfl) (by rfl) (by rfl) (by exact pure_int rfl rfl rfl e3) ?_
          | refine TkO.done (Wl own) (by rfl) ?_ | refine TkO.unwantedS (Wl own) (by rfl) (by rfl) (by rfl) (by rfl) ?_ | refine TkO.pureS (Wl own) (by rfl) (by rfl) (by rfl) (by rfl) (by first | exact pure_move (.inl rfl) rfl | exact pure_move (.inr rfl) rfl | exact pure_nilCheck rfl rfl | exact pure_field rfl rfl (by rfl) rfl (by decide +kernel) | exact pure_int rfl rfl rfl rfl | exact pure_not rfl rfl | exact pure_pickT rfl rfl rfl | exact pure_pickF rfl rfl rfl | exact pure_shift rfl rfl rfl rfl | exact pure_eqlNil rfl rfl rfl (by rfl) | exact pure_conv rfl rfl (by rfl) (by rfl)) ?_ | refine Tk.seq (WkP.wk (Wl own)) ?_ | refine Tk.reg (Wl own) ?_ | refine Tk.skip (WkP.wk (Wl own)) ?_ | refine Tk.block (WkP.wk (Wl own)) ?_ | refine Tk.condT (WkP.wk (Wl own)) rfl ?_ | refine Tk.condF (WkP.wk (Wl own)) rfl ?_ | refine Tk.exit (WkP.wk (Wl own)) rfl ?_ | refine Tk.label (WkP.wk (Wl own)) ?_)
        refine TkO.pureS (Wl own) (by rfl) (by rfl) (by rfl) (by rfl) (pure_eqBool rfl rfl rfl (by rfl)) ?_
        (repeat (first | refine TkO.done (Wl own) (by rfl) ?_ | refine TkO.unwantedS (Wl own) (by rfl) (by rfl) (by rfl) (by rfl) ?_ | refine TkO.pureS (Wl own) (by rfl) (by rfl) (by rfl) (by rfl) (by first | exact pure_move (.inl rfl) rfl | exact pure_move (.inr rfl) rfl | exact pure_nilCheck rfl rfl | exact pure_field rfl rfl (by rfl) rfl (by decide +kernel) | exact pure_int rfl rfl rfl rfl | exact pure_not rfl rfl | exact pure_pickT rfl rfl rfl | exact pure_pickF rfl rfl rfl | exact pure_shift rfl rfl rfl rfl | exact pure_eqlNil rfl rfl rfl (by rfl) | exact pure_conv rfl rfl (by rfl) (by rfl)) ?_ | refine Tk.seq (WkP.wk (Wl own)) ?_ | refine Tk.reg (Wl own) ?_ | refine Tk.skip (WkP.wk (Wl own)) ?_ | refine Tk.block (WkP.wk (Wl own)) ?_ | refine Tk.condT (WkP.wk (Wl own)) rfl ?_ | refine Tk.condF (WkP.wk (Wl own)) rfl ?_ | refine Tk.exit (WkP.wk (Wl own)) rfl ?_ | refine Tk.label (WkP.wk (Wl own)) ?_))
        refine TkO.call (Wl _) (by rfl) (by rfl) (by rfl) (by rfl) b12 rfl fun fr5 hk5 => ?_
        refine sum12M hf hP (ctr_new m.d.1 m.d.2) zero_bd fun own2 w2 FP2 k2 c2 => ?_
        rw [sum_zero]
        refine hk5 _ _ _ (TkO.lay (rfl : Nv.put _ _ _ = (_, _) :: _) ?_)
        obtain ⟨o2, f2⟩ := m.old.kf k2 (fun b hb => by rw [hb]; exact hD)
        (repeat (first | refine TkO.done (Wl own2) (by rfl) ?_ | refine TkO.unwantedS (Wl own2) (by rfl) (by rfl) (by rfl) (by rfl) ?_ | refine TkO.pureS (Wl own2) (by rfl) (by rfl) (by rfl) (by rfl) (by first | exact pure_move (.inl rfl) rfl | exact pure_move (.inr rfl) rfl | exact pure_nilCheck rfl rfl | exact pure_field rfl rfl (by rfl) rfl (by decide +kernel) | exact pure_int rfl rfl rfl rfl | exact pure_not rfl rfl | exact pure_pickT rfl rfl rfl | exact pure_pickF rfl rfl rfl | exact pure_shift rfl rfl rfl rfl | exact pure_eqlNil rfl rfl rfl (by rfl) | exact pure_conv rfl rfl (by rfl) (by rfl)) ?_ | refine Tk.seq (WkP.wk (Wl own2)) ?_ | refine Tk.reg (Wl own2) ?_ | refine Tk.skip (WkP.wk (Wl own2)) ?_ | refine Tk.block (WkP.wk (Wl own2)) ?_ | refine Tk.condT (WkP.wk (Wl own2)) rfl ?_ | refine Tk.condF (WkP.wk (Wl own2)) rfl ?_ | refine Tk.exit (WkP.wk (Wl own2)) rfl ?_ | refine Tk.label (WkP.wk (Wl own2)) ?_))
        refine TkO.call (Wl _) (by rfl) (by rfl) (by rfl) (by rfl) b11 rfl fun fr6 hk6 => ?_
        refine all11M hf hP c2 fun own3 w3 FP3 k3 c3 => hk6 _ _ _ (TkO.lay (rfl : Nv.put _ _ _ = (_, _) :: _) ?_)
        obtain ⟨o3, f3⟩ := o2.kf k3 f2
        refine TkO.pureS (Wl own3) (by rfl) (by rfl) (by rfl) (by rfl) (pure_build40 rfl) ?_
        refine TkO.pureS (Wl own3) (by rfl) (by rfl) (by rfl) (by rfl) (pure_eqArrT (m := 19) (e := 3) (f := cnt fun _ => 0) (g := fun _ => 0) (by rfl) (by rfl) (by rfl) (by rfl) (by rfl) (by decide +kernel) (by decide +kernel) cnt_zero) ?_
        (repeat (first | refine TkO.done (Wl own3) (by rfl) ?_ | refine TkO.unwantedS (Wl own3) (by rfl) (by rfl) (by rfl) (by rfl) ?_ | refine TkO.pureS (Wl own3) (by rfl) (by rfl) (by rfl) (by rfl) (by first | exact pure_move (.inl rfl) rfl | exact pure_move (.inr rfl) rfl | exact pure_nilCheck rfl rfl | exact pure_field rfl rfl (by rfl) rfl (by decide +kernel) | exact pure_int rfl rfl rfl rfl | exact pure_not rfl rfl | exact pure_pickT rfl rfl rfl | exact pure_pickF rfl rfl rfl | exact pure_shift rfl rfl rfl rfl | exact pure_eqlNil rfl rfl rfl (by rfl) | exact pure_conv rfl rfl (by rfl) (by rfl)) ?_ | refine Tk.seq (WkP.wk (Wl own3)) ?_ | refine Tk.reg (Wl own3) ?_ | refine Tk.skip (WkP.wk (Wl own3)) ?_ | refine Tk.block (WkP.wk (Wl own3)) ?_ | refine Tk.condT (WkP.wk (Wl own3)) rfl ?_ | refine Tk.condF (WkP.wk (Wl own3)) rfl ?_ | refine Tk.exit (WkP.wk (Wl own3)) rfl ?_ | refine Tk.label (WkP.wk (Wl own3)) ?_))
        refine TkO.callE (Wl _) (by rfl) (by rfl) (by rfl) (by rfl) (by rfl) b6 rfl fun fr7 hk7 => ?_
        refine wakes6 hf hP hfin o3 fun E2 N2 own4 w4 f4 P4 fin4 o4 => hk7 E2 N2 _ _ _ ?_
        have W4 : WkP Try.prog E2 (mainLo own4) (base 5) := wk_main f4 P4 (by decide)
        (repeat (first | refine TkO.done W4 (by rfl) ?_ | refine TkO.unwantedS W4 (by rfl) (by rfl) (by rfl) (by rfl) ?_ | refine TkO.pureS W4 (by rfl) (by rfl) (by rfl) (by rfl) (by first | exact pure_move (.inl rfl) rfl | exact pure_move (.inr rfl) rfl | exact pure_nilCheck rfl rfl | exact pure_field rfl rfl (by rfl) rfl (by decide +kernel) | exact pure_int rfl rfl rfl rfl | exact pure_not rfl rfl | exact pure_pickT rfl rfl rfl | exact pure_pickF rfl rfl rfl | exact pure_shift rfl rfl rfl rfl | exact pure_eqlNil rfl rfl rfl (by rfl) | exact pure_conv rfl rfl (by rfl) (by rfl)) ?_ | refine Tk.seq (WkP.wk W4) ?_ | refine Tk.reg W4 ?_ | refine Tk.skip (WkP.wk W4) ?_ | refine Tk.block (WkP.wk W4) ?_ | refine Tk.condT (WkP.wk W4) rfl ?_ | refine Tk.condF (WkP.wk W4) rfl ?_ | refine Tk.exit (WkP.wk W4) rfl ?_ | refine Tk.label (WkP.wk W4) ?_))
        exact Tk.ret W4.wk (end5 fin4 o4 rfl)
      · have e1 : decide ((x : Int) > 0) = true := decide_eq_true (by omega)
        have e2 : ad = false := by rw [had]; unfold isR; exact decide_eq_false (by omega)
        have e3 : intV .lss .u8 (x : Int) 19 = some (.bool false) := by
          simp only [intV]; rw [decide_eq_false (show ¬ (x : Int) < 19 by omega)]
        subst e2
        rw [e1]
        repeat (first
          | refine TkO.pureS (Wl own) (by rfl) (by rfl) (by rfl) (by rfl) (by exact pure_int rfl rfl rfl e3) ?_
          | refine TkO.done (Wl own) (by rfl) ?_ | refine TkO.unwantedS (Wl own) (by rfl) (by rfl) (by rfl) (by rfl) ?_ | refine TkO.pureS (Wl own) (by rfl) (by rfl) (by rfl) (by rfl) (by first | exact pure_move (.inl rfl) rfl | exact pure_move (.inr rfl) rfl | exact pure_nilCheck rfl rfl | exact pure_field rfl rfl (by rfl) rfl (by decide +kernel) | exact pure_int rfl rfl rfl rfl | exact pure_not rfl rfl | exact pure_pickT rfl rfl rfl | exact pure_pickF rfl rfl rfl | exact pure_shift rfl rfl rfl rfl | exact pure_eqlNil rfl rfl rfl (by rfl) | exact pure_conv rfl rfl (by rfl) (by rfl)) ?_ | refine Tk.seq (WkP.wk (Wl own)) ?_ | refine Tk.reg (Wl own) ?_ | refine Tk.skip (WkP.wk (Wl own)) ?_ | refine Tk.block (WkP.wk (Wl own)) ?_ | refine Tk.condT (WkP.wk (Wl own)) rfl ?_ | refine Tk.condF (WkP.wk (Wl own)) rfl ?_ | refine Tk.exit (WkP.wk (Wl own)) rfl ?_ | refine Tk.label (WkP.wk (Wl own)) ?_)
        refine TkO.pureS (Wl own) (by rfl) (by rfl) (by rfl) (by rfl) (pure_eqBool rfl rfl rfl (by rfl)) ?_
        (repeat (first | refine TkO.done (Wl own) (by rfl) ?_ | refine TkO.unwantedS (Wl own) (by rfl) (by rfl) (by rfl) (by rfl) ?_ | refine TkO.pureS (Wl own) (by rfl) (by rfl) (by rfl) (by rfl) (by first | exact pure_move (.inl rfl) rfl | exact pure_move (.inr rfl) rfl | exact pure_nilCheck rfl rfl | exact pure_field rfl rfl (by rfl) rfl (by decide +kernel) | exact pure_int rfl rfl rfl rfl | exact pure_not rfl rfl | exact pure_pickT rfl rfl rfl | exact pure_pickF rfl rfl rfl | exact pure_shift rfl rfl rfl rfl | exact pure_eqlNil rfl rfl rfl (by rfl) | exact pure_conv rfl rfl (by rfl) (by rfl)) ?_ | refine Tk.seq (WkP.wk (Wl own)) ?_ | refine Tk.reg (Wl own) ?_ | refine Tk.skip (WkP.wk (Wl own)) ?_ | refine Tk.block (WkP.wk (Wl own)) ?_ | refine Tk.condT (WkP.wk (Wl own)) rfl ?_ | refine Tk.condF (WkP.wk (Wl own)) rfl ?_ | refine Tk.exit (WkP.wk (Wl own)) rfl ?_ | refine Tk.label (WkP.wk (Wl own)) ?_))
        refine TkO.call (Wl _) (by rfl) (by rfl) (by rfl) (by rfl) b12 rfl fun fr5 hk5 => ?_
        refine sum12M hf hP (ctr_new m.d.1 m.d.2) zero_bd fun own2 w2 FP2 k2 c2 => ?_
        rw [sum_zero]
        refine hk5 _ _ _ (TkO.lay (rfl : Nv.put _ _ _ = (_, _) :: _) ?_)
        obtain ⟨o2, f2⟩ := m.old.kf k2 (fun b hb => by rw [hb]; exact hD)
        (repeat (first | refine TkO.done (Wl own2) (by rfl) ?_ | refine TkO.unwantedS (Wl own2) (by rfl) (by rfl) (by rfl) (by rfl) ?_ | refine TkO.pureS (Wl own2) (by rfl) (by rfl) (by rfl) (by rfl) (by first | exact pure_move (.inl rfl) rfl | exact pure_move (.inr rfl) rfl | exact pure_nilCheck rfl rfl | exact pure_field rfl rfl (by rfl) rfl (by decide +kernel) | exact pure_int rfl rfl rfl rfl | exact pure_not rfl rfl | exact pure_pickT rfl rfl rfl | exact pure_pickF rfl rfl rfl | exact pure_shift rfl rfl rfl rfl | exact pure_eqlNil rfl rfl rfl (by rfl) | exact pure_conv rfl rfl (by rfl) (by rfl)) ?_ | refine Tk.seq (WkP.wk (Wl own2)) ?_ | refine Tk.reg (Wl own2) ?_ | refine Tk.skip (WkP.wk (Wl own2)) ?_ | refine Tk.block (WkP.wk (Wl own2)) ?_ | refine Tk.condT (WkP.wk (Wl own2)) rfl ?_ | refine Tk.condF (WkP.wk (Wl own2)) rfl ?_ | refine Tk.exit (WkP.wk (Wl own2)) rfl ?_ | refine Tk.label (WkP.wk (Wl own2)) ?_))
        refine TkO.call (Wl _) (by rfl) (by rfl) (by rfl) (by rfl) b11 rfl fun fr6 hk6 => ?_
        refine all11M hf hP c2 fun own3 w3 FP3 k3 c3 => hk6 _ _ _ (TkO.lay (rfl : Nv.put _ _ _ = (_, _) :: _) ?_)
        obtain ⟨o3, f3⟩ := o2.kf k3 f2
        refine TkO.pureS (Wl own3) (by rfl) (by rfl) (by rfl) (by rfl) (pure_build40 rfl) ?_
        refine TkO.pureS (Wl own3) (by rfl) (by rfl) (by rfl) (by rfl) (pure_eqArrT (m := 19) (e := 3) (f := cnt fun _ => 0) (g := fun _ => 0) (by rfl) (by rfl) (by rfl) (by rfl) (by rfl) (by decide +kernel) (by decide +kernel) cnt_zero) ?_
        (repeat (first | refine TkO.done (Wl own3) (by rfl) ?_ | refine TkO.unwantedS (Wl own3) (by rfl) (by rfl) (by rfl) (by rfl) ?_ | refine TkO.pureS (Wl own3) (by rfl) (by rfl) (by rfl) (by rfl) (by first | exact pure_move (.inl rfl) rfl | exact pure_move (.inr rfl) rfl | exact pure_nilCheck rfl rfl | exact pure_field rfl rfl (by rfl) rfl (by decide +kernel) | exact pure_int rfl rfl rfl rfl | exact pure_not rfl rfl | exact pure_pickT rfl rfl rfl | exact pure_pickF rfl rfl rfl | exact pure_shift rfl rfl rfl rfl | exact pure_eqlNil rfl rfl rfl (by rfl) | exact pure_conv rfl rfl (by rfl) (by rfl)) ?_ | refine Tk.seq (WkP.wk (Wl own3)) ?_ | refine Tk.reg (Wl own3) ?_ | refine Tk.skip (WkP.wk (Wl own3)) ?_ | refine Tk.block (WkP.wk (Wl own3)) ?_ | refine Tk.condT (WkP.wk (Wl own3)) rfl ?_ | refine Tk.condF (WkP.wk (Wl own3)) rfl ?_ | refine Tk.exit (WkP.wk (Wl own3)) rfl ?_ | refine Tk.label (WkP.wk (Wl own3)) ?_))
        refine TkO.callE (Wl _) (by rfl) (by rfl) (by rfl) (by rfl) (by rfl) b6 rfl fun fr7 hk7 => ?_
        refine wakes6 hf hP hfin o3 fun E2 N2 own4 w4 f4 P4 fin4 o4 => hk7 E2 N2 _ _ _ ?_
        have W4 : WkP Try.prog E2 (mainLo own4) (base 5) := wk_main f4 P4 (by decide)
        (repeat (first | refine TkO.done W4 (by rfl) ?_ | refine TkO.unwantedS W4 (by rfl) (by rfl) (by rfl) (by rfl) ?_ | refine TkO.pureS W4 (by rfl) (by rfl) (by rfl) (by rfl) (by first | exact pure_move (.inl rfl) rfl | exact pure_move (.inr rfl) rfl | exact pure_nilCheck rfl rfl | exact pure_field rfl rfl (by rfl) rfl (by decide +kernel) | exact pure_int rfl rfl rfl rfl | exact pure_not rfl rfl | exact pure_pickT rfl rfl rfl | exact pure_pickF rfl rfl rfl | exact pure_shift rfl rfl rfl rfl | exact pure_eqlNil rfl rfl rfl (by rfl) | exact pure_conv rfl rfl (by rfl) (by rfl)) ?_ | refine Tk.seq (WkP.wk W4) ?_ | refine Tk.reg W4 ?_ | refine Tk.skip (WkP.wk W4) ?_ | refine Tk.block (WkP.wk W4) ?_ | refine Tk.condT (WkP.wk W4) rfl ?_ | refine Tk.condF (WkP.wk W4) rfl ?_ | refine Tk.exit (WkP.wk W4) rfl ?_ | refine Tk.label (WkP.wk W4) ?_))
        exact Tk.ret W4.wk (end5 fin4 o4 rfl)
    | succ m ihm =>
      intro n own w FP hn m a b
      have hn19 : n < 19 := by omega
      rw [hKK]
      refine Tk.seq (Wl _).wk ?_
      refine Tk.seq (Wl _).wk ?_
      refine Tk.reg (Wl _) ?_
      refine TkO.pureS (Wl _) (by rfl) (by rfl) (by rfl) (by rfl) (by (first | exact pure_move (.inl rfl) rfl | exact pure_move (.inr rfl) rfl | exact pure_nilCheck rfl rfl | exact pure_field rfl rfl (by rfl) rfl (by decide +kernel) | exact pure_int rfl rfl rfl rfl | exact pure_not rfl rfl | exact pure_pickT rfl rfl rfl | exact pure_pickF rfl rfl rfl | exact pure_shift rfl rfl rfl rfl | exact pure_eqlNil rfl rfl rfl (by rfl) | exact pure_conv rfl rfl (by rfl) (by rfl))) ?_
      refine TkO.pureS (Wl _) (by rfl) (by rfl) (by rfl) (by rfl) (by (first | exact pure_move (.inl rfl) rfl | exact pure_move (.inr rfl) rfl | exact pure_nilCheck rfl rfl | exact pure_field rfl rfl (by rfl) rfl (by decide +kernel) | exact pure_int rfl rfl rfl rfl | exact pure_not rfl rfl | exact pure_pickT rfl rfl rfl | exact pure_pickF rfl rfl rfl | exact pure_shift rfl rfl rfl rfl | exact pure_eqlNil rfl rfl rfl (by rfl) | exact pure_conv rfl rfl (by rfl) (by rfl))) ?_
      refine TkO.done (Wl _) (by rfl) ?_
      refine Tk.condT (Wl _).wk (congrArg (fun b => some (Value.bool b)) (decide_eq_true (show (n : Int) < 19 by omega))) ?_
      refine Tk.skip (Wl _).wk ?_
      (repeat (first | refine TkO.done (Wl own) (by rfl) ?_ | refine TkO.unwantedS (Wl own) (by rfl) (by rfl) (by rfl) (by rfl) ?_ | refine TkO.pureS (Wl own) (by rfl) (by rfl) (by rfl) (by rfl) (by first | exact pure_move (.inl rfl) rfl | exact pure_move (.inr rfl) rfl | exact pure_nilCheck rfl rfl | exact pure_field rfl rfl (by rfl) rfl (by decide +kernel) | exact pure_int rfl rfl rfl rfl | exact pure_not rfl rfl | exact pure_pickT rfl rfl rfl | exact pure_pickF rfl rfl rfl | exact pure_shift rfl rfl rfl rfl | exact pure_eqlNil rfl rfl rfl (by rfl) | exact pure_conv rfl rfl (by rfl) (by rfl)) ?_ | refine Tk.seq (WkP.wk (Wl own)) ?_ | refine Tk.reg (Wl own) ?_ | refine Tk.skip (WkP.wk (Wl own)) ?_ | refine Tk.block (WkP.wk (Wl own)) ?_ | refine Tk.condT (WkP.wk (Wl own)) rfl ?_ | refine Tk.condF (WkP.wk (Wl own)) rfl ?_ | refine Tk.exit (WkP.wk (Wl own)) rfl ?_ | refine Tk.label (WkP.wk (Wl own)) ?_))
      refine TkO.pureS (Wl _) (by rfl) (by rfl) (by rfl) (by rfl) (pure_indexA (m := 19) (e := 3) (b := A) (off := 0) (k := .i64) (j := (n : Int)) (by rfl) (by rfl) (by decide +kernel) (by rfl) (by rfl) (by omega)) ?_
      rw [show (0 + ((n : Int)).toNat) = n by omega]
      refine TkO.loadAt (Wl _) (A := A) (m := n) hn19 (by rfl) (by rfl) (by rfl) (by rfl) (by rfl) (by rfl) a.ow a.heap ?_
      have hac := adds_cnt v x n
      have hcn : 0 ≤ cnt v n ∧ cnt v n ≤ 300 := by
        unfold cnt
        split
        · exact hvb n
        · decide
      have hwx : IntKind.i64.wrap (x : Int) = (x : Int) := by rw [IntKind.wrap_i64]; omega
      cases ad with
      | false =>
        have hz2 : intV .neq .i64 (cnt (adds v x) n) (cnt v n) = some (.bool false) := by
          rw [hac, if_neg (fun h => by rw [← had] at h; cases h.1)]
          simp [intV]
        (repeat (first | refine TkO.done (Wl own) (by rfl) ?_ | refine TkO.unwantedS (Wl own) (by rfl) (by rfl) (by rfl) (by rfl) ?_ | refine TkO.pureS (Wl own) (by rfl) (by rfl) (by rfl) (by rfl) (by first | exact pure_move (.inl rfl) rfl | exact pure_move (.inr rfl) rfl | exact pure_nilCheck rfl rfl | exact pure_field rfl rfl (by rfl) rfl (by decide +kernel) | exact pure_int rfl rfl rfl rfl | exact pure_not rfl rfl | exact pure_pickT rfl rfl rfl | exact pure_pickF rfl rfl rfl | exact pure_shift rfl rfl rfl rfl | exact pure_eqlNil rfl rfl rfl (by rfl) | exact pure_conv rfl rfl (by rfl) (by rfl)) ?_ | refine Tk.seq (WkP.wk (Wl own)) ?_ | refine Tk.reg (Wl own) ?_ | refine Tk.skip (WkP.wk (Wl own)) ?_ | refine Tk.block (WkP.wk (Wl own)) ?_ | refine Tk.condT (WkP.wk (Wl own)) rfl ?_ | refine Tk.condF (WkP.wk (Wl own)) rfl ?_ | refine Tk.exit (WkP.wk (Wl own)) rfl ?_ | refine Tk.label (WkP.wk (Wl own)) ?_))
        refine TkO.pureS (Wl _) (by rfl) (by rfl) (by rfl) (by rfl) (pure_indexA (m := 19) (e := 3) (b := B) (off := 0) (k := .i64) (j := (n : Int)) (by rfl) (by rfl) (by decide +kernel) (by rfl) (by rfl) (by omega)) ?_
        rw [show (0 + ((n : Int)).toNat) = n by omega]
        refine TkO.loadAt (Wl _) (A := B) (m := n) hn19 (by rfl) (by rfl) (by rfl) (by rfl) (by rfl) (by rfl) b.ow b.heap ?_
        repeat (first
          | refine TkO.pureS (Wl own) (by rfl) (by rfl) (by rfl) (by rfl) (by first | exact pure_int rfl rfl rfl hz2 | exact pure_convE rfl rfl (by rfl) (by rfl) (wrap8u (r := n) (by omega))) ?_
          | refine TkO.done (Wl own) (by rfl) ?_ | refine TkO.unwantedS (Wl own) (by rfl) (by rfl) (by rfl) (by rfl) ?_ | refine TkO.pureS (Wl own) (by rfl) (by rfl) (by rfl) (by rfl) (by first | exact pure_move (.inl rfl) rfl | exact pure_move (.inr rfl) rfl | exact pure_nilCheck rfl rfl | exact pure_field rfl rfl (by rfl) rfl (by decide +kernel) | exact pure_int rfl rfl rfl rfl | exact pure_not rfl rfl | exact pure_pickT rfl rfl rfl | exact pure_pickF rfl rfl rfl | exact pure_shift rfl rfl rfl rfl | exact pure_eqlNil rfl rfl rfl (by rfl) | exact pure_conv rfl rfl (by rfl) (by rfl)) ?_ | refine Tk.seq (WkP.wk (Wl own)) ?_ | refine Tk.reg (Wl own) ?_ | refine Tk.skip (WkP.wk (Wl own)) ?_ | refine Tk.block (WkP.wk (Wl own)) ?_ | refine Tk.condT (WkP.wk (Wl own)) rfl ?_ | refine Tk.condF (WkP.wk (Wl own)) rfl ?_ | refine Tk.exit (WkP.wk (Wl own)) rfl ?_ | refine Tk.label (WkP.wk (Wl own)) ?_)
        refine TkO.call (Wl _) (by rfl) (by rfl) (by rfl) (by rfl) b10 rfl fun fr4 hk4 => ?_
        refine many10M (r := n) hf hP m.ctr fun own2 w2 FP2 k2 c2 => hk4 _ _ _ (TkO.lay (rfl : Nv.put _ _ _ = (_, _) :: _) ?_)
        have m2 := m.kf k2 c2
        have a2 := a.kf k2
        have b2 := b.kf k2
        repeat (first
          | refine TkO.pureS (Wl own2) (by rfl) (by rfl) (by rfl) (by rfl) (by first | exact pure_int rfl rfl rfl hz2) ?_
          | refine TkO.done (Wl own2) (by rfl) ?_ | refine TkO.unwantedS (Wl own2) (by rfl) (by rfl) (by rfl) (by rfl) ?_ | refine TkO.pureS (Wl own2) (by rfl) (by rfl) (by rfl) (by rfl) (by first | exact pure_move (.inl rfl) rfl | exact pure_move (.inr rfl) rfl | exact pure_nilCheck rfl rfl | exact pure_field rfl rfl (by rfl) rfl (by decide +kernel) | exact pure_int rfl rfl rfl rfl | exact pure_not rfl rfl | exact pure_pickT rfl rfl rfl | exact pure_pickF rfl rfl rfl | exact pure_shift rfl rfl rfl rfl | exact pure_eqlNil rfl rfl rfl (by rfl) | exact pure_conv rfl rfl (by rfl) (by rfl)) ?_ | refine Tk.seq (WkP.wk (Wl own2)) ?_ | refine Tk.reg (Wl own2) ?_ | refine Tk.skip (WkP.wk (Wl own2)) ?_ | refine Tk.block (WkP.wk (Wl own2)) ?_ | refine Tk.condT (WkP.wk (Wl own2)) rfl ?_ | refine Tk.condF (WkP.wk (Wl own2)) rfl ?_ | refine Tk.exit (WkP.wk (Wl own2)) rfl ?_ | refine Tk.label (WkP.wk (Wl own2)) ?_)
        refine Tk.inBlock (Wl _).wk ?_
        refine Tk.reg (Wl _) ?_
        refine TkO.pureS (Wl _) (by rfl) (by rfl) (by rfl) (by rfl) (by (first | exact pure_move (.inl rfl) rfl | exact pure_move (.inr rfl) rfl | exact pure_nilCheck rfl rfl | exact pure_field rfl rfl (by rfl) rfl (by decide +kernel) | exact pure_int rfl rfl rfl rfl | exact pure_not rfl rfl | exact pure_pickT rfl rfl rfl | exact pure_pickF rfl rfl rfl | exact pure_shift rfl rfl rfl rfl | exact pure_eqlNil rfl rfl rfl (by rfl) | exact pure_conv rfl rfl (by rfl) (by rfl))) ?_
        refine TkO.pureS (Wl _) (by rfl) (by rfl) (by rfl) (by rfl) (by (first | exact pure_move (.inl rfl) rfl | exact pure_move (.inr rfl) rfl | exact pure_nilCheck rfl rfl | exact pure_field rfl rfl (by rfl) rfl (by decide +kernel) | exact pure_int rfl rfl rfl rfl | exact pure_not rfl rfl | exact pure_pickT rfl rfl rfl | exact pure_pickF rfl rfl rfl | exact pure_shift rfl rfl rfl rfl | exact pure_eqlNil rfl rfl rfl (by rfl) | exact pure_conv rfl rfl (by rfl) (by rfl))) ?_
        rw [wrap64 (by omega)]
        (repeat (first | refine TkO.done (Wl own2) (by rfl) ?_ | refine TkO.unwantedS (Wl own2) (by rfl) (by rfl) (by rfl) (by rfl) ?_ | refine TkO.pureS (Wl own2) (by rfl) (by rfl) (by rfl) (by rfl) (by first | exact pure_move (.inl rfl) rfl | exact pure_move (.inr rfl) rfl | exact pure_nilCheck rfl rfl | exact pure_field rfl rfl (by rfl) rfl (by decide +kernel) | exact pure_int rfl rfl rfl rfl | exact pure_not rfl rfl | exact pure_pickT rfl rfl rfl | exact pure_pickF rfl rfl rfl | exact pure_shift rfl rfl rfl rfl | exact pure_eqlNil rfl rfl rfl (by rfl) | exact pure_conv rfl rfl (by rfl) (by rfl)) ?_ | refine Tk.seq (WkP.wk (Wl own2)) ?_ | refine Tk.reg (Wl own2) ?_ | refine Tk.skip (WkP.wk (Wl own2)) ?_ | refine Tk.block (WkP.wk (Wl own2)) ?_ | refine Tk.condT (WkP.wk (Wl own2)) rfl ?_ | refine Tk.condF (WkP.wk (Wl own2)) rfl ?_ | refine Tk.exit (WkP.wk (Wl own2)) rfl ?_ | refine Tk.label (WkP.wk (Wl own2)) ?_))
        refine Tk.inLoop (Wl _).wk ?_
        rw [← hKK]
        exact Tk.sub (ihm (n + 1) own2 w2 FP2 (by omega) m2 a2 b2) (AllGet.sub ⟨rfl, rfl, rfl, rfl, rfl, rfl, rfl, rfl, trivial⟩)
      | true =>
        by_cases e : n = x
        · have hz1 : intV .eql .i64 (n : Int) (x : Int) = some (.bool true) := by subst e; simp [intV]
          have hz2 : intV .neq .i64 (cnt (adds v x) n) (cnt v n + 1) = some (.bool false) := by
            rw [hac, if_pos ⟨had.symm, e⟩]
            simp [intV]
          have hw1 : IntKind.i64.wrap (cnt v n + 1) = cnt v n + 1 := by rw [IntKind.wrap_i64]; omega
          repeat (first
            | refine TkO.pureS (Wl own) (by rfl) (by rfl) (by rfl) (by rfl) (by first | exact pure_convE rfl rfl (by rfl) (by rfl) hwx | exact pure_int rfl rfl rfl hz1 | exact pure_addE rfl rfl rfl hw1) ?_
            | refine TkO.done (Wl own) (by rfl) ?_ | refine TkO.unwantedS (Wl own) (by rfl) (by rfl) (by rfl) (by rfl) ?_ | refine TkO.pureS (Wl own) (by rfl) (by rfl) (by rfl) (by rfl) (by first | exact pure_move (.inl rfl) rfl | exact pure_move (.inr rfl) rfl | exact pure_nilCheck rfl rfl | exact pure_field rfl rfl (by rfl) rfl (by decide +kernel) | exact pure_int rfl rfl rfl rfl | exact pure_not rfl rfl | exact pure_pickT rfl rfl rfl | exact pure_pickF rfl rfl rfl | exact pure_shift rfl rfl rfl rfl | exact pure_eqlNil rfl rfl rfl (by rfl) | exact pure_conv rfl rfl (by rfl) (by rfl)) ?_ | refine Tk.seq (WkP.wk (Wl own)) ?_ | refine Tk.reg (Wl own) ?_ | refine Tk.skip (WkP.wk (Wl own)) ?_ | refine Tk.block (WkP.wk (Wl own)) ?_ | refine Tk.condT (WkP.wk (Wl own)) rfl ?_ | refine Tk.condF (WkP.wk (Wl own)) rfl ?_ | refine Tk.exit (WkP.wk (Wl own)) rfl ?_ | refine Tk.label (WkP.wk (Wl own)) ?_)
          (repeat (first | refine TkO.done (Wl own) (by rfl) ?_ | refine TkO.unwantedS (Wl own) (by rfl) (by rfl) (by rfl) (by rfl) ?_ | refine TkO.pureS (Wl own) (by rfl) (by rfl) (by rfl) (by rfl) (by first | exact pure_move (.inl rfl) rfl | exact pure_move (.inr rfl) rfl | exact pure_nilCheck rfl rfl | exact pure_field rfl rfl (by rfl) rfl (by decide +kernel) | exact pure_int rfl rfl rfl rfl | exact pure_not rfl rfl | exact pure_pickT rfl rfl rfl | exact pure_pickF rfl rfl rfl | exact pure_shift rfl rfl rfl rfl | exact pure_eqlNil rfl rfl rfl (by rfl) | exact pure_conv rfl rfl (by rfl) (by rfl)) ?_ | refine Tk.seq (WkP.wk (Wl own)) ?_ | refine Tk.reg (Wl own) ?_ | refine Tk.skip (WkP.wk (Wl own)) ?_ | refine Tk.block (WkP.wk (Wl own)) ?_ | refine Tk.condT (WkP.wk (Wl own)) rfl ?_ | refine Tk.condF (WkP.wk (Wl own)) rfl ?_ | refine Tk.exit (WkP.wk (Wl own)) rfl ?_ | refine Tk.label (WkP.wk (Wl own)) ?_))
          refine TkO.pureS (Wl _) (by rfl) (by rfl) (by rfl) (by rfl) (pure_indexA (m := 19) (e := 3) (b := B) (off := 0) (k := .i64) (j := (n : Int)) (by rfl) (by rfl) (by decide +kernel) (by rfl) (by rfl) (by omega)) ?_
          rw [show (0 + ((n : Int)).toNat) = n by omega]
          refine TkO.loadAt (Wl _) (A := B) (m := n) hn19 (by rfl) (by rfl) (by rfl) (by rfl) (by rfl) (by rfl) b.ow b.heap ?_
          repeat (first
            | refine TkO.pureS (Wl own) (by rfl) (by rfl) (by rfl) (by rfl) (by first | exact pure_int rfl rfl rfl hz2 | exact pure_convE rfl rfl (by rfl) (by rfl) (wrap8u (r := n) (by omega))) ?_
            | refine TkO.done (Wl own) (by rfl) ?_ | refine TkO.unwantedS (Wl own) (by rfl) (by rfl) (by rfl) (by rfl) ?_ | refine TkO.pureS (Wl own) (by rfl) (by rfl) (by rfl) (by rfl) (by first | exact pure_move (.inl rfl) rfl | exact pure_move (.inr rfl) rfl | exact pure_nilCheck rfl rfl | exact pure_field rfl rfl (by rfl) rfl (by decide +kernel) | exact pure_int rfl rfl rfl rfl | exact pure_not rfl rfl | exact pure_pickT rfl rfl rfl | exact pure_pickF rfl rfl rfl | exact pure_shift rfl rfl rfl rfl | exact pure_eqlNil rfl rfl rfl (by rfl) | exact pure_conv rfl rfl (by rfl) (by rfl)) ?_ | refine Tk.seq (WkP.wk (Wl own)) ?_ | refine Tk.reg (Wl own) ?_ | refine Tk.skip (WkP.wk (Wl own)) ?_ | refine Tk.block (WkP.wk (Wl own)) ?_ | refine Tk.condT (WkP.wk (Wl own)) rfl ?_ | refine Tk.condF (WkP.wk (Wl own)) rfl ?_ | refine Tk.exit (WkP.wk (Wl own)) rfl ?_ | refine Tk.label (WkP.wk (Wl own)) ?_)
          refine TkO.call (Wl _) (by rfl) (by rfl) (by rfl) (by rfl) b10 rfl fun fr4 hk4 => ?_
          refine many10M (r := n) hf hP m.ctr fun own2 w2 FP2 k2 c2 => hk4 _ _ _ (TkO.lay (rfl : Nv.put _ _ _ = (_, _) :: _) ?_)
          have m2 := m.kf k2 c2
          have a2 := a.kf k2
          have b2 := b.kf k2
          repeat (first
            | refine TkO.pureS (Wl own2) (by rfl) (by rfl) (by rfl) (by rfl) (by first | exact pure_int rfl rfl rfl hz2) ?_
            | refine TkO.done (Wl own2) (by rfl) ?_ | refine TkO.unwantedS (Wl own2) (by rfl) (by rfl) (by rfl) (by rfl) ?_ | refine TkO.pureS (Wl own2) (by rfl) (by rfl) (by rfl) (by rfl) (by first | exact pure_move (.inl rfl) rfl | exact pure_move (.inr rfl) rfl | exact pure_nilCheck rfl rfl | exact pure_field rfl rfl (by rfl) rfl (by decide +kernel) | exact pure_int rfl rfl rfl rfl | exact pure_not rfl rfl | exact pure_pickT rfl rfl rfl | exact pure_pickF rfl rfl rfl | exact pure_shift rfl rfl rfl rfl | exact pure_eqlNil rfl rfl rfl (by rfl) | exact pure_conv rfl rfl (by rfl) (by rfl)) ?_ | refine Tk.seq (WkP.wk (Wl own2)) ?_ | refine Tk.reg (Wl own2) ?_ | refine Tk.skip (WkP.wk (Wl own2)) ?_ | refine Tk.block (WkP.wk (Wl own2)) ?_ | refine Tk.condT (WkP.wk (Wl own2)) rfl ?_ | refine Tk.condF (WkP.wk (Wl own2)) rfl ?_ | refine Tk.exit (WkP.wk (Wl own2)) rfl ?_ | refine Tk.label (WkP.wk (Wl own2)) ?_)
          refine Tk.inBlock (Wl _).wk ?_
          refine Tk.reg (Wl _) ?_
          refine TkO.pureS (Wl _) (by rfl) (by rfl) (by rfl) (by rfl) (by (first | exact pure_move (.inl rfl) rfl | exact pure_move (.inr rfl) rfl | exact pure_nilCheck rfl rfl | exact pure_field rfl rfl (by rfl) rfl (by decide +kernel) | exact pure_int rfl rfl rfl rfl | exact pure_not rfl rfl | exact pure_pickT rfl rfl rfl | exact pure_pickF rfl rfl rfl | exact pure_shift rfl rfl rfl rfl | exact pure_eqlNil rfl rfl rfl (by rfl) | exact pure_conv rfl rfl (by rfl) (by rfl))) ?_
          refine TkO.pureS (Wl _) (by rfl) (by rfl) (by rfl) (by rfl) (by (first | exact pure_move (.inl rfl) rfl | exact pure_move (.inr rfl) rfl | exact pure_nilCheck rfl rfl | exact pure_field rfl rfl (by rfl) rfl (by decide +kernel) | exact pure_int rfl rfl rfl rfl | exact pure_not rfl rfl | exact pure_pickT rfl rfl rfl | exact pure_pickF rfl rfl rfl | exact pure_shift rfl rfl rfl rfl | exact pure_eqlNil rfl rfl rfl (by rfl) | exact pure_conv rfl rfl (by rfl) (by rfl))) ?_
          rw [wrap64 (by omega)]
          (repeat (first | refine TkO.done (Wl own2) (by rfl) ?_ | refine TkO.unwantedS (Wl own2) (by rfl) (by rfl) (by rfl) (by rfl) ?_ | refine TkO.pureS (Wl own2) (by rfl) (by rfl) (by rfl) (by rfl) (by first | exact pure_move (.inl rfl) rfl | exact pure_move (.inr rfl) rfl | exact pure_nilCheck rfl rfl | exact pure_field rfl rfl (by rfl) rfl (by decide +kernel) | exact pure_int rfl rfl rfl rfl | exact pure_not rfl rfl | exact pure_pickT rfl rfl rfl | exact pure_pickF rfl rfl rfl | exact pure_shift rfl rfl rfl rfl | exact pure_eqlNil rfl rfl rfl (by rfl) | exact pure_conv rfl rfl (by rfl) (by rfl)) ?_ | refine Tk.seq (WkP.wk (Wl own2)) ?_ | refine Tk.reg (Wl own2) ?_ | refine Tk.skip (WkP.wk (Wl own2)) ?_ | refine Tk.block (WkP.wk (Wl own2)) ?_ | refine Tk.condT (WkP.wk (Wl own2)) rfl ?_ | refine Tk.condF (WkP.wk (Wl own2)) rfl ?_ | refine Tk.exit (WkP.wk (Wl own2)) rfl ?_ | refine Tk.label (WkP.wk (Wl own2)) ?_))
          refine Tk.inLoop (Wl _).wk ?_
          rw [← hKK]
          exact Tk.sub (ihm (n + 1) own2 w2 FP2 (by omega) m2 a2 b2) (AllGet.sub ⟨rfl, rfl, rfl, rfl, rfl, rfl, rfl, rfl, trivial⟩)
        · have hz1 : intV .eql .i64 (n : Int) (x : Int) = some (.bool false) := by
            have : ((n : Int) == (x : Int)) = false := by simp; omega
            simp [intV, this]
          have hz2 : intV .neq .i64 (cnt (adds v x) n) (cnt v n) = some (.bool false) := by
            rw [hac, if_neg (fun h => e h.2)]
            simp [intV]
          repeat (first
            | refine TkO.pureS (Wl own) (by rfl) (by rfl) (by rfl) (by rfl) (by first | exact pure_convE rfl rfl (by rfl) (by rfl) hwx | exact pure_int rfl rfl rfl hz1) ?_
            | refine TkO.done (Wl own) (by rfl) ?_ | refine TkO.unwantedS (Wl own) (by rfl) (by rfl) (by rfl) (by rfl) ?_ | refine TkO.pureS (Wl own) (by rfl) (by rfl) (by rfl) (by rfl) (by first | exact pure_move (.inl rfl) rfl | exact pure_move (.inr rfl) rfl | exact pure_nilCheck rfl rfl | exact pure_field rfl rfl (by rfl) rfl (by decide +kernel) | exact pure_int rfl rfl rfl rfl | exact pure_not rfl rfl | exact pure_pickT rfl rfl rfl | exact pure_pickF rfl rfl rfl | exact pure_shift rfl rfl rfl rfl | exact pure_eqlNil rfl rfl rfl (by rfl) | exact pure_conv rfl rfl (by rfl) (by rfl)) ?_ | refine Tk.seq (WkP.wk (Wl own)) ?_ | refine Tk.reg (Wl own) ?_ | refine Tk.skip (WkP.wk (Wl own)) ?_ | refine Tk.block (WkP.wk (Wl own)) ?_ | refine Tk.condT (WkP.wk (Wl own)) rfl ?_ | refine Tk.condF (WkP.wk (Wl own)) rfl ?_ | refine Tk.exit (WkP.wk (Wl own)) rfl ?_ | refine Tk.label (WkP.wk (Wl own)) ?_)
          (repeat (first | refine TkO.done (Wl own) (by rfl) ?_ | refine TkO.unwantedS (Wl own) (by rfl) (by rfl) (by rfl) (by rfl) ?_ | refine TkO.pureS (Wl own) (by rfl) (by rfl) (by rfl) (by rfl) (by first | exact pure_move (.inl rfl) rfl | exact pure_move (.inr rfl) rfl | exact pure_nilCheck rfl rfl | exact pure_field rfl rfl (by rfl) rfl (by decide +kernel) | exact pure_int rfl rfl rfl rfl | exact pure_not rfl rfl | exact pure_pickT rfl rfl rfl | exact pure_pickF rfl rfl rfl | exact pure_shift rfl rfl rfl rfl | exact pure_eqlNil rfl rfl rfl (by rfl) | exact pure_conv rfl rfl (by rfl) (by rfl)) ?_ | refine Tk.seq (WkP.wk (Wl own)) ?_ | refine Tk.reg (Wl own) ?_ | refine Tk.skip (WkP.wk (Wl own)) ?_ | refine Tk.block (WkP.wk (Wl own)) ?_ | refine Tk.condT (WkP.wk (Wl own)) rfl ?_ | refine Tk.condF (WkP.wk (Wl own)) rfl ?_ | refine Tk.exit (WkP.wk (Wl own)) rfl ?_ | refine Tk.label (WkP.wk (Wl own)) ?_))
          refine TkO.pureS (Wl _) (by rfl) (by rfl) (by rfl) (by rfl) (pure_indexA (m := 19) (e := 3) (b := B) (off := 0) (k := .i64) (j := (n : Int)) (by rfl) (by rfl) (by decide +kernel) (by rfl) (by rfl) (by omega)) ?_
          rw [show (0 + ((n : Int)).toNat) = n by omega]
          refine TkO.loadAt (Wl _) (A := B) (m := n) hn19 (by rfl) (by rfl) (by rfl) (by rfl) (by rfl) (by rfl) b.ow b.heap ?_
          repeat (first
            | refine TkO.pureS (Wl own) (by rfl) (by rfl) (by rfl) (by rfl) (by first | exact pure_int rfl rfl rfl hz2 | exact pure_convE rfl rfl (by rfl) (by rfl) (wrap8u (r := n) (by omega))) ?_
            | refine TkO.done (Wl own) (by rfl) ?_ | refine TkO.unwantedS (Wl own) (by rfl) (by rfl) (by rfl) (by rfl) ?_ | refine TkO.pureS (Wl own) (by rfl) (by rfl) (by rfl) (by rfl) (by first | exact pure_move (.inl rfl) rfl | exact pure_move (.inr rfl) rfl | exact pure_nilCheck rfl rfl | exact pure_field rfl rfl (by rfl) rfl (by decide +kernel) | exact pure_int rfl rfl rfl rfl | exact pure_not rfl rfl | exact pure_pickT rfl rfl rfl | exact pure_pickF rfl rfl rfl | exact pure_shift rfl rfl rfl rfl | exact pure_eqlNil rfl rfl rfl (by rfl) | exact pure_conv rfl rfl (by rfl) (by rfl)) ?_ | refine Tk.seq (WkP.wk (Wl own)) ?_ | refine Tk.reg (Wl own) ?_ | refine Tk.skip (WkP.wk (Wl own)) ?_ | refine Tk.block (WkP.wk (Wl own)) ?_ | refine Tk.condT (WkP.wk (Wl own)) rfl ?_ | refine Tk.condF (WkP.wk (Wl own)) rfl ?_ | refine Tk.exit (WkP.wk (Wl own)) rfl ?_ | refine Tk.label (WkP.wk (Wl own)) ?_)
          refine TkO.call (Wl _) (by rfl) (by rfl) (by rfl) (by rfl) b10 rfl fun fr4 hk4 => ?_
          refine many10M (r := n) hf hP m.ctr fun own2 w2 FP2 k2 c2 => hk4 _ _ _ (TkO.lay (rfl : Nv.put _ _ _ = (_, _) :: _) ?_)
          have m2 := m.kf k2 c2
          have a2 := a.kf k2
          have b2 := b.kf k2
          repeat (first
            | refine TkO.pureS (Wl own2) (by rfl) (by rfl) (by rfl) (by rfl) (by first | exact pure_int rfl rfl rfl hz2) ?_
            | refine TkO.done (Wl own2) (by rfl) ?_ | refine TkO.unwantedS (Wl own2) (by rfl) (by rfl) (by rfl) (by rfl) ?_ | refine TkO.pureS (Wl own2) (by rfl) (by rfl) (by rfl) (by rfl) (by first | exact pure_move (.inl rfl) rfl | exact pure_move (.inr rfl) rfl | exact pure_nilCheck rfl rfl | exact pure_field rfl rfl (by rfl) rfl (by decide +kernel) | exact pure_int rfl rfl rfl rfl | exact pure_not rfl rfl | exact pure_pickT rfl rfl rfl | exact pure_pickF rfl rfl rfl | exact pure_shift rfl rfl rfl rfl | exact pure_eqlNil rfl rfl rfl (by rfl) | exact pure_conv rfl rfl (by rfl) (by rfl)) ?_ | refine Tk.seq (WkP.wk (Wl own2)) ?_ | refine Tk.reg (Wl own2) ?_ | refine Tk.skip (WkP.wk (Wl own2)) ?_ | refine Tk.block (WkP.wk (Wl own2)) ?_ | refine Tk.condT (WkP.wk (Wl own2)) rfl ?_ | refine Tk.condF (WkP.wk (Wl own2)) rfl ?_ | refine Tk.exit (WkP.wk (Wl own2)) rfl ?_ | refine Tk.label (WkP.wk (Wl own2)) ?_)
          refine Tk.inBlock (Wl _).wk ?_
          refine Tk.reg (Wl _) ?_
          refine TkO.pureS (Wl _) (by rfl) (by rfl) (by rfl) (by rfl) (by (first | exact pure_move (.inl rfl) rfl | exact pure_move (.inr rfl) rfl | exact pure_nilCheck rfl rfl | exact pure_field rfl rfl (by rfl) rfl (by decide +kernel) | exact pure_int rfl rfl rfl rfl | exact pure_not rfl rfl | exact pure_pickT rfl rfl rfl | exact pure_pickF rfl rfl rfl | exact pure_shift rfl rfl rfl rfl | exact pure_eqlNil rfl rfl rfl (by rfl) | exact pure_conv rfl rfl (by rfl) (by rfl))) ?_
          refine TkO.pureS (Wl _) (by rfl) (by rfl) (by rfl) (by rfl) (by (first | exact pure_move (.inl rfl) rfl | exact pure_move (.inr rfl) rfl | exact pure_nilCheck rfl rfl | exact pure_field rfl rfl (by rfl) rfl (by decide +kernel) | exact pure_int rfl rfl rfl rfl | exact pure_not rfl rfl | exact pure_pickT rfl rfl rfl | exact pure_pickF rfl rfl rfl | exact pure_shift rfl rfl rfl rfl | exact pure_eqlNil rfl rfl rfl (by rfl) | exact pure_conv rfl rfl (by rfl) (by rfl))) ?_
          rw [wrap64 (by omega)]
          (repeat (first | refine TkO.done (Wl own2) (by rfl) ?_ | refine TkO.unwantedS (Wl own2) (by rfl) (by rfl) (by rfl) (by rfl) ?_ | refine TkO.pureS (Wl own2) (by rfl) (by rfl) (by rfl) (by rfl) (by first | exact pure_move (.inl rfl) rfl | exact pure_move (.inr rfl) rfl | exact pure_nilCheck rfl rfl | exact pure_field rfl rfl (by rfl) rfl (by decide +kernel) | exact pure_int rfl rfl rfl rfl | exact pure_not rfl rfl | exact pure_pickT rfl rfl rfl | exact pure_pickF rfl rfl rfl | exact pure_shift rfl rfl rfl rfl | exact pure_eqlNil rfl rfl rfl (by rfl) | exact pure_conv rfl rfl (by rfl) (by rfl)) ?_ | refine Tk.seq (WkP.wk (Wl own2)) ?_ | refine Tk.reg (Wl own2) ?_ | refine Tk.skip (WkP.wk (Wl own2)) ?_ | refine Tk.block (WkP.wk (Wl own2)) ?_ | refine Tk.condT (WkP.wk (Wl own2)) rfl ?_ | refine Tk.condF (WkP.wk (Wl own2)) rfl ?_ | refine Tk.exit (WkP.wk (Wl own2)) rfl ?_ | refine Tk.label (WkP.wk (Wl own2)) ?_))
          refine Tk.inLoop (Wl _).wk ?_
          rw [← hKK]
          exact Tk.sub (ihm (n + 1) own2 w2 FP2 (by omega) m2 a2 b2) (AllGet.sub ⟨rfl, rfl, rfl, rfl, rfl, rfl, rfl, rfl, trivial⟩)
  exact Tk.sub (HH 19 0 own6 w7 FP5 rfl m7 a7 b7') (AllGet.sub ⟨rfl, rfl, rfl, rfl, rfl, rfl, rfl, rfl, trivial⟩)
end Go.Co.F1

namespace Go.Co.F1
open Go Go.Conc Go.Proofs
open Go.Co
open Go.ConcN (upd upd_ne upd_same)
variable {E : Geo} {N i : Nat} {l : Lo} {w : World} {own own' : Nat → Prop} {w' : World} {FP FP' : Nat → Prop}
set_option maxRecDepth 10000

set_option maxHeartbeats 16000000 in
/-- CountsOne. -/
theorem one5 {W : World} {bs : Option Addr} {nj cap x : Nat} {rr : Nat → Nat} (hf : E.FinV) (hP : E.P = Try.prog) (hfin : E.fin = AtTally W (EndAt W)) (ho : Old W own w) (ha : Arg W bs nj rr x) :
    Tr E N 0 (mainLo own) (Conc.G (Frame.enter Try.prog 5 #[.slice bs nj cap, .int .u8 x] .normal) []) w := by
  have Wl : ∀ own', WkP Try.prog E (mainLo own') (base 5) := fun own' => wk_main hf hP (by decide)
  refine Tr.enterP hP b5 (Nat.le_of_ble_eq_true rfl) ?_
  (repeat (first | refine TkO.done (Wl own) (by rfl) ?_ | refine TkO.unwantedS (Wl own) (by rfl) (by rfl) (by rfl) (by rfl) ?_ | refine TkO.pureS (Wl own) (by rfl) (by rfl) (by rfl) (by rfl) (by first | exact pure_move (.inl rfl) rfl | exact pure_move (.inr rfl) rfl | exact pure_nilCheck rfl rfl | exact pure_field rfl rfl (by rfl) rfl (by decide +kernel) | exact pure_int rfl rfl rfl rfl | exact pure_not rfl rfl | exact pure_pickT rfl rfl rfl | exact pure_pickF rfl rfl rfl | exact pure_shift rfl rfl rfl rfl | exact pure_eqlNil rfl rfl rfl (by rfl) | exact pure_conv rfl rfl (by rfl) (by rfl)) ?_ | refine Tk.seq (WkP.wk (Wl own)) ?_ | refine Tk.reg (Wl own) ?_ | refine Tk.skip (WkP.wk (Wl own)) ?_ | refine Tk.block (WkP.wk (Wl own)) ?_ | refine Tk.condT (WkP.wk (Wl own)) rfl ?_ | refine Tk.condF (WkP.wk (Wl own)) rfl ?_ | refine Tk.exit (WkP.wk (Wl own)) rfl ?_ | refine Tk.label (WkP.wk (Wl own)) ?_))
  refine TkO.pureS (Wl own) (by rfl) (by rfl) (by rfl) (by rfl) (pure_len rfl rfl (by rfl)) ?_
  by_cases hn : 300 < nj
  · have hz : intV .gtr .i64 (nj : Int) 300 = some (.bool true) := by
      simp only [intV]; rw [decide_eq_true (show (nj : Int) > 300 by omega)]
    repeat (first
      | refine TkO.pureS (Wl own) (by rfl) (by rfl) (by rfl) (by rfl) (by exact pure_int rfl rfl rfl hz) ?_
      | refine TkO.done (Wl own) (by rfl) ?_ | refine TkO.unwantedS (Wl own) (by rfl) (by rfl) (by rfl) (by rfl) ?_ | refine TkO.pureS (Wl own) (by rfl) (by rfl) (by rfl) (by rfl) (by first | exact pure_move (.inl rfl) rfl | exact pure_move (.inr rfl) rfl | exact pure_nilCheck rfl rfl | exact pure_field rfl rfl (by rfl) rfl (by decide +kernel) | exact pure_int rfl rfl rfl rfl | exact pure_not rfl rfl | exact pure_pickT rfl rfl rfl | exact pure_pickF rfl rfl rfl | exact pure_shift rfl rfl rfl rfl | exact pure_eqlNil rfl rfl rfl (by rfl) | exact pure_conv rfl rfl (by rfl) (by rfl)) ?_ | refine Tk.seq (WkP.wk (Wl own)) ?_ | refine Tk.reg (Wl own) ?_ | refine Tk.skip (WkP.wk (Wl own)) ?_ | refine Tk.block (WkP.wk (Wl own)) ?_ | refine Tk.condT (WkP.wk (Wl own)) rfl ?_ | refine Tk.condF (WkP.wk (Wl own)) rfl ?_ | refine Tk.exit (WkP.wk (Wl own)) rfl ?_ | refine Tk.label (WkP.wk (Wl own)) ?_)
    refine TkO.callE (Wl _) (by rfl) (by rfl) (by rfl) (by rfl) (by rfl) b6 rfl fun fr7 hk7 => ?_
    refine wakes6 hf hP hfin ho fun E2 N2 own4 w4 f4 P4 fin4 o4 => hk7 E2 N2 _ _ _ ?_
    have W4 : WkP Try.prog E2 (mainLo own4) (base 5) := wk_main f4 P4 (by decide)
    (repeat (first | refine TkO.done W4 (by rfl) ?_ | refine TkO.unwantedS W4 (by rfl) (by rfl) (by rfl) (by rfl) ?_ | refine TkO.pureS W4 (by rfl) (by rfl) (by rfl) (by rfl) (by first | exact pure_move (.inl rfl) rfl | exact pure_move (.inr rfl) rfl | exact pure_nilCheck rfl rfl | exact pure_field rfl rfl (by rfl) rfl (by decide +kernel) | exact pure_int rfl rfl rfl rfl | exact pure_not rfl rfl | exact pure_pickT rfl rfl rfl | exact pure_pickF rfl rfl rfl | exact pure_shift rfl rfl rfl rfl | exact pure_eqlNil rfl rfl rfl (by rfl) | exact pure_conv rfl rfl (by rfl) (by rfl)) ?_ | refine Tk.seq (WkP.wk W4) ?_ | refine Tk.reg W4 ?_ | refine Tk.skip (WkP.wk W4) ?_ | refine Tk.block (WkP.wk W4) ?_ | refine Tk.condT (WkP.wk W4) rfl ?_ | refine Tk.condF (WkP.wk W4) rfl ?_ | refine Tk.exit (WkP.wk W4) rfl ?_ | refine Tk.label (WkP.wk W4) ?_))
    exact Tk.ret W4.wk (end5 fin4 o4 rfl)
  · have hz : intV .gtr .i64 (nj : Int) 300 = some (.bool false) := by
      simp only [intV]; rw [decide_eq_false (show ¬ (nj : Int) > 300 by omega)]
    repeat (first
      | refine TkO.pureS (Wl own) (by rfl) (by rfl) (by rfl) (by rfl) (by exact pure_int rfl rfl rfl hz) ?_
      | refine TkO.done (Wl own) (by rfl) ?_ | refine TkO.unwantedS (Wl own) (by rfl) (by rfl) (by rfl) (by rfl) ?_ | refine TkO.pureS (Wl own) (by rfl) (by rfl) (by rfl) (by rfl) (by first | exact pure_move (.inl rfl) rfl | exact pure_move (.inr rfl) rfl | exact pure_nilCheck rfl rfl | exact pure_field rfl rfl (by rfl) rfl (by decide +kernel) | exact pure_int rfl rfl rfl rfl | exact pure_not rfl rfl | exact pure_pickT rfl rfl rfl | exact pure_pickF rfl rfl rfl | exact pure_shift rfl rfl rfl rfl | exact pure_eqlNil rfl rfl rfl (by rfl) | exact pure_conv rfl rfl (by rfl) (by rfl)) ?_ | refine Tk.seq (WkP.wk (Wl own)) ?_ | refine Tk.reg (Wl own) ?_ | refine Tk.skip (WkP.wk (Wl own)) ?_ | refine Tk.block (WkP.wk (Wl own)) ?_ | refine Tk.condT (WkP.wk (Wl own)) rfl ?_ | refine Tk.condF (WkP.wk (Wl own)) rfl ?_ | refine Tk.exit (WkP.wk (Wl own)) rfl ?_ | refine Tk.label (WkP.wk (Wl own)) ?_)
    refine TkO.newM (Wl _) (d := 5) (by rfl) (by rfl) (by rfl) (by rfl) (fun r => ptr r 0) (.cells #[.int .u32 0, .int .i32 0, .int .u32 0, .slice none 0 0] 38 (0, 0)) (fun a ha w₁ => exec_allocC (t := 38) (by rfl) (by rfl) w₁) fun own1 w1 C k1 C1 C2 C3 => ?_
    refine TkO.newM (Wl _) (d := 6) (by rfl) (by rfl) (by rfl) (by rfl) (fun r => ptr r 0) (.cells #[.int .u32 0, .int .i32 0, .int .u32 0, .slice none 0 0] 38 (0, 0)) (fun a ha w₁ => exec_allocC (t := 38) (by rfl) (by rfl) w₁) fun own2 w2 D k2 D1 D2 D3 => ?_
    have o2 := ho.kp (k1.trans k2)
    have C4 := k2.get C2 C3
    have lC := lt_of_heap C3
    have hD : W.heap.size ≤ D := Nat.le_trans (ho.kp k1).size D1
    have hC : W.heap.size ≤ C := Nat.le_trans ho.size C1
    have m2 : Om W own2 w2 C (fun b => b = C) (cN rr 0) D := by
      have e : cN rr 0 = fun _ => 0 := by funext r; rfl
      rw [e]
      exact ⟨o2, ctr_new C4.1 C4.2, fun b hb => by rw [hb]; exact hC, ⟨D2, D3⟩, fun e => by omega⟩
    (repeat (first | refine TkO.done (Wl own2) (by rfl) ?_ | refine TkO.unwantedS (Wl own2) (by rfl) (by rfl) (by rfl) (by rfl) ?_ | refine TkO.pureS (Wl own2) (by rfl) (by rfl) (by rfl) (by rfl) (by first | exact pure_move (.inl rfl) rfl | exact pure_move (.inr rfl) rfl | exact pure_nilCheck rfl rfl | exact pure_field rfl rfl (by rfl) rfl (by decide +kernel) | exact pure_int rfl rfl rfl rfl | exact pure_not rfl rfl | exact pure_pickT rfl rfl rfl | exact pure_pickF rfl rfl rfl | exact pure_shift rfl rfl rfl rfl | exact pure_eqlNil rfl rfl rfl (by rfl) | exact pure_conv rfl rfl (by rfl) (by rfl)) ?_ | refine Tk.seq (WkP.wk (Wl own2)) ?_ | refine Tk.reg (Wl own2) ?_ | refine Tk.skip (WkP.wk (Wl own2)) ?_ | refine Tk.block (WkP.wk (Wl own2)) ?_ | refine Tk.condT (WkP.wk (Wl own2)) rfl ?_ | refine Tk.condF (WkP.wk (Wl own2)) rfl ?_ | refine Tk.exit (WkP.wk (Wl own2)) rfl ?_ | refine Tk.label (WkP.wk (Wl own2)) ?_))
    refine Tk.loop (Wl _).wk ?_
    refine Tk.cut fun KK hKK => ?_
    have HH : ∀ (m n : Nat) own w FP, n + m = nj → Om W own w C FP (cN rr n) D →
        Tk E N 0 (mainLo own) w (base 5) 80 [(0, .slice bs nj cap), (1, .int .u8 x), (4, .bool false), (5, ptr C 0), (6, ptr D 0), (7, .int .i64 n)] [] KK [] := by
      intro m
      induction m with
      | zero =>
        intro n own w FP hn2 m
        have hn3 : n = nj := by omega
        subst hn3
        rw [hKK]
        refine Tk.seq (Wl _).wk ?_
        refine Tk.seq (Wl _).wk ?_
        refine Tk.reg (Wl _) ?_
        refine TkO.pureS (Wl _) (by rfl) (by rfl) (by rfl) (by rfl) (by (first | exact pure_move (.inl rfl) rfl | exact pure_move (.inr rfl) rfl | exact pure_nilCheck rfl rfl | exact pure_field rfl rfl (by rfl) rfl (by decide +kernel) | exact pure_int rfl rfl rfl rfl | exact pure_not rfl rfl | exact pure_pickT rfl rfl rfl | exact pure_pickF rfl rfl rfl | exact pure_shift rfl rfl rfl rfl | exact pure_eqlNil rfl rfl rfl (by rfl) | exact pure_conv rfl rfl (by rfl) (by rfl))) ?_
        refine TkO.pureS (Wl _) (by rfl) (by rfl) (by rfl) (by rfl) (by (first | exact pure_move (.inl rfl) rfl | exact pure_move (.inr rfl) rfl | exact pure_nilCheck rfl rfl | exact pure_field rfl rfl (by rfl) rfl (by decide +kernel) | exact pure_int rfl rfl rfl rfl | exact pure_not rfl rfl | exact pure_pickT rfl rfl rfl | exact pure_pickF rfl rfl rfl | exact pure_shift rfl rfl rfl rfl | exact pure_eqlNil rfl rfl rfl (by rfl) | exact pure_conv rfl rfl (by rfl) (by rfl))) ?_
        refine TkO.pureS (Wl own) (by rfl) (by rfl) (by rfl) (by rfl) (pure_len rfl rfl (by rfl)) ?_
        refine TkO.pureS (Wl _) (by rfl) (by rfl) (by rfl) (by rfl) (by (first | exact pure_move (.inl rfl) rfl | exact pure_move (.inr rfl) rfl | exact pure_nilCheck rfl rfl | exact pure_field rfl rfl (by rfl) rfl (by decide +kernel) | exact pure_int rfl rfl rfl rfl | exact pure_not rfl rfl | exact pure_pickT rfl rfl rfl | exact pure_pickF rfl rfl rfl | exact pure_shift rfl rfl rfl rfl | exact pure_eqlNil rfl rfl rfl (by rfl) | exact pure_conv rfl rfl (by rfl) (by rfl))) ?_
        refine TkO.done (Wl _) (by rfl) ?_
        refine Tk.condF (Wl _).wk (congrArg (fun b => some (Value.bool b)) (decide_eq_false (show ¬ (n : Int) < (n : Int) by omega))) ?_
        refine Tk.exit (Wl _).wk rfl ?_
        exact Tk.sub (one5b hf hP hfin m hD ha.x (cN_bd (by omega))) (AllGet.sub ⟨rfl, rfl, rfl, rfl, trivial⟩)
      | succ m ihm =>
        intro n own w FP hn2 m
        have hlt : n < nj := by omega
        rw [hKK]
        refine Tk.seq (Wl _).wk ?_
        refine Tk.seq (Wl _).wk ?_
        refine Tk.reg (Wl _) ?_
        refine TkO.pureS (Wl _) (by rfl) (by rfl) (by rfl) (by rfl) (by (first | exact pure_move (.inl rfl) rfl | exact pure_move (.inr rfl) rfl | exact pure_nilCheck rfl rfl | exact pure_field rfl rfl (by rfl) rfl (by decide +kernel) | exact pure_int rfl rfl rfl rfl | exact pure_not rfl rfl | exact pure_pickT rfl rfl rfl | exact pure_pickF rfl rfl rfl | exact pure_shift rfl rfl rfl rfl | exact pure_eqlNil rfl rfl rfl (by rfl) | exact pure_conv rfl rfl (by rfl) (by rfl))) ?_
        refine TkO.pureS (Wl _) (by rfl) (by rfl) (by rfl) (by rfl) (by (first | exact pure_move (.inl rfl) rfl | exact pure_move (.inr rfl) rfl | exact pure_nilCheck rfl rfl | exact pure_field rfl rfl (by rfl) rfl (by decide +kernel) | exact pure_int rfl rfl rfl rfl | exact pure_not rfl rfl | exact pure_pickT rfl rfl rfl | exact pure_pickF rfl rfl rfl | exact pure_shift rfl rfl rfl rfl | exact pure_eqlNil rfl rfl rfl (by rfl) | exact pure_conv rfl rfl (by rfl) (by rfl))) ?_
        refine TkO.pureS (Wl own) (by rfl) (by rfl) (by rfl) (by rfl) (pure_len rfl rfl (by rfl)) ?_
        refine TkO.pureS (Wl _) (by rfl) (by rfl) (by rfl) (by rfl) (by (first | exact pure_move (.inl rfl) rfl | exact pure_move (.inr rfl) rfl | exact pure_nilCheck rfl rfl | exact pure_field rfl rfl (by rfl) rfl (by decide +kernel) | exact pure_int rfl rfl rfl rfl | exact pure_not rfl rfl | exact pure_pickT rfl rfl rfl | exact pure_pickF rfl rfl rfl | exact pure_shift rfl rfl rfl rfl | exact pure_eqlNil rfl rfl rfl (by rfl) | exact pure_conv rfl rfl (by rfl) (by rfl))) ?_
        refine TkO.done (Wl _) (by rfl) ?_
        refine Tk.condT (Wl _).wk (congrArg (fun b => some (Value.bool b)) (decide_eq_true (show (n : Int) < (nj : Int) by omega))) ?_
        refine Tk.skip (Wl _).wk ?_
        obtain ⟨rb, ro, rfl, hrb, hrc⟩ := ha.at_ n hlt
        obtain ⟨h1, h2⟩ := m.old.heap rb hrb
        have hrc' : w.cell? (adr rb (ro + n)) = some (.int .u8 (rr n)) := by rw [(cell_same (a := adr rb (ro + n)) h2).1]; exact hrc
        (repeat (first | refine TkO.done (Wl own) (by rfl) ?_ | refine TkO.unwantedS (Wl own) (by rfl) (by rfl) (by rfl) (by rfl) ?_ | refine TkO.pureS (Wl own) (by rfl) (by rfl) (by rfl) (by rfl) (by first | exact pure_move (.inl rfl) rfl | exact pure_move (.inr rfl) rfl | exact pure_nilCheck rfl rfl | exact pure_field rfl rfl (by rfl) rfl (by decide +kernel) | exact pure_int rfl rfl rfl rfl | exact pure_not rfl rfl | exact pure_pickT rfl rfl rfl | exact pure_pickF rfl rfl rfl | exact pure_shift rfl rfl rfl rfl | exact pure_eqlNil rfl rfl rfl (by rfl) | exact pure_conv rfl rfl (by rfl) (by rfl)) ?_ | refine Tk.seq (WkP.wk (Wl own)) ?_ | refine Tk.reg (Wl own) ?_ | refine Tk.skip (WkP.wk (Wl own)) ?_ | refine Tk.block (WkP.wk (Wl own)) ?_ | refine Tk.condT (WkP.wk (Wl own)) rfl ?_ | refine Tk.condF (WkP.wk (Wl own)) rfl ?_ | refine Tk.exit (WkP.wk (Wl own)) rfl ?_ | refine Tk.label (WkP.wk (Wl own)) ?_))
        refine TkO.pureS (Wl _) (by rfl) (by rfl) (by rfl) (by rfl) (pure_index rfl (by rfl) (by decide +kernel) rfl rfl (by omega)) ?_
        rw [show ((n : Int)).toNat = n by omega]
        refine TkO.open (by rfl) (Tk.oload (Wl _).wk rfl (x := .tmp 25) (ad := adr rb (ro + n)) (v := .int .u8 (rr n)) (by rfl) (by rfl) (by rfl) (by rfl) (by rw [hP]; rfl) (by rfl) h1 hrc' ?_)
        refine Tk.lay (rfl : Nv.put _ _ _ = (_, _) :: _) ?_
        show TkO _ _ _ _ _ _ _ _ _ _ 4 _ _
        refine TkO.call (Wl _) (by rfl) (by rfl) (by rfl) (by rfl) b7 rfl fun fr2 hk2 => ?_
        refine add7M (r := rr n) hf hP m.ctr (fun r => ⟨(cN_bd (show n ≤ 300 by omega) r).1, by have := (cN_bd (show n ≤ 300 by omega) (rr := rr) r).2; omega⟩) fun own3 w3 FP3 k3 c3 => hk2 _ _ _ (TkO.lay (rfl : Nv.put _ _ _ = (_, _) :: _) ?_)
        rw [cN_step] at c3
        have m3 := m.kf k3 c3
        refine TkO.done (Wl own3) (by rfl) ?_
        refine Tk.inBlock (Wl _).wk ?_
        refine Tk.reg (Wl _) ?_
        refine TkO.pureS (Wl _) (by rfl) (by rfl) (by rfl) (by rfl) (by (first | exact pure_move (.inl rfl) rfl | exact pure_move (.inr rfl) rfl | exact pure_nilCheck rfl rfl | exact pure_field rfl rfl (by rfl) rfl (by decide +kernel) | exact pure_int rfl rfl rfl rfl | exact pure_not rfl rfl | exact pure_pickT rfl rfl rfl | exact pure_pickF rfl rfl rfl | exact pure_shift rfl rfl rfl rfl | exact pure_eqlNil rfl rfl rfl (by rfl) | exact pure_conv rfl rfl (by rfl) (by rfl))) ?_
        refine TkO.pureS (Wl _) (by rfl) (by rfl) (by rfl) (by rfl) (by (first | exact pure_move (.inl rfl) rfl | exact pure_move (.inr rfl) rfl | exact pure_nilCheck rfl rfl | exact pure_field rfl rfl (by rfl) rfl (by decide +kernel) | exact pure_int rfl rfl rfl rfl | exact pure_not rfl rfl | exact pure_pickT rfl rfl rfl | exact pure_pickF rfl rfl rfl | exact pure_shift rfl rfl rfl rfl | exact pure_eqlNil rfl rfl rfl (by rfl) | exact pure_conv rfl rfl (by rfl) (by rfl))) ?_
        rw [wrap64 (by omega)]
        (repeat (first | refine TkO.done (Wl own3) (by rfl) ?_ | refine TkO.unwantedS (Wl own3) (by rfl) (by rfl) (by rfl) (by rfl) ?_ | refine TkO.pureS (Wl own3) (by rfl) (by rfl) (by rfl) (by rfl) (by first | exact pure_move (.inl rfl) rfl | exact pure_move (.inr rfl) rfl | exact pure_nilCheck rfl rfl | exact pure_field rfl rfl (by rfl) rfl (by decide +kernel) | exact pure_int rfl rfl rfl rfl | exact pure_not rfl rfl | exact pure_pickT rfl rfl rfl | exact pure_pickF rfl rfl rfl | exact pure_shift rfl rfl rfl rfl | exact pure_eqlNil rfl rfl rfl (by rfl) | exact pure_conv rfl rfl (by rfl) (by rfl)) ?_ | refine Tk.seq (WkP.wk (Wl own3)) ?_ | refine Tk.reg (Wl own3) ?_ | refine Tk.skip (WkP.wk (Wl own3)) ?_ | refine Tk.block (WkP.wk (Wl own3)) ?_ | refine Tk.condT (WkP.wk (Wl own3)) rfl ?_ | refine Tk.condF (WkP.wk (Wl own3)) rfl ?_ | refine Tk.exit (WkP.wk (Wl own3)) rfl ?_ | refine Tk.label (WkP.wk (Wl own3)) ?_))
        refine Tk.inLoop (Wl _).wk ?_
        rw [← hKK]
        exact Tk.sub (ihm (n + 1) own3 w3 FP3 (by omega) m3) (AllGet.sub ⟨rfl, rfl, rfl, rfl, rfl, rfl, trivial⟩)
    exact Tk.sub (HH nj 0 own2 w2 _ (by omega) m2) (AllGet.sub ⟨rfl, rfl, rfl, rfl, rfl, rfl, trivial⟩)
end Go.Co.F1

namespace Go.Co.Row
open Go Go.Conc Go.RowKit Go.WideShapes Go.ChangeShapes
section
variable {H : Type} {enc : TypeId × Value → H} {P : Program}

/-- The row's last step, where what was there is as it was. -/
theorem post_below {f : Func} {s : ChangeSpec} {apart fresh handsOn again : Bool} {W W' : World} {args : Array Value} {v : Value} {ds gs : List (DataW H)} {before pa pv : List MemPlace}
    (hW : DataW.Whole enc P f.params.toList s.vars apart W args.toList ds gs before)
    (hres : ∀ (b : Nat) (sp : Nat → Bool) (hd : Bool), DataW.TrodAll enc P W' b sp hd f.resultTypes.toList (v.resultList f.resultTypes.size) (s.fn H (ds ++ gs)).results [])
    (hargs : ∀ sp : Nat → Bool, (∀ p ∈ before, sp p.block = true) → DataW.TrodAll enc P W' 0 sp true f.params.toList args.toList (s.fn H (ds ++ gs)).args pa)
    (hvars : ∀ sp : Nat → Bool, (∀ p ∈ before, sp p.block = true) → DataW.TrodVars enc P W' sp s.vars (s.fn H (ds ++ gs)).vars pv)
    (hps : before = pa ++ pv) (hb : Go.RowKit.Below W.heap.size W W')
    (hok : ∀ (j : Nat) (t : TypeId) (r : Value), f.resultTypes[j]? = some t → (v.resultList f.resultTypes.size)[j]? = some r → Value.okWide P W' .any 0 t r) :
    s.post enc P f apart fresh handsOn again W args v W' := by
  have hlt : ∀ p ∈ before, p.block < W.heap.size := fun p hp => hW.lt p hp
  have hold : ∀ p ∈ before, (fun b => decide (b < W.heap.size)) p.block = true := fun p hp => by simpa using hlt p hp
  refine ⟨ds, gs, before, [], pa, pv, hW, hres _ _ _, hargs _ hold, hvars _ hold, World.keptBut_mono (fun p hp => ⟨hp, ?_⟩) (hb.frame (· ∈ before)), fun _ => ?_⟩
  · rw [hps, List.mem_append] at hp
    exact Or.inr hp
  · obtain ⟨_, _, _, _, _, hz, hn⟩ := hW
    refine ⟨hok, _, _, ([] ++ pa) ++ pv, ⟨[] ++ pa, pv, trodAll_append (hargs _ (fun _ _ => rfl)) (hres _ _ _), hvars _ (fun _ _ => rfl), rfl, ?_, ?_⟩, ?_⟩
    · intro b off hp
      have hin : MemPlace.cell b off ∈ before := by rw [hps]; simpa using hp
      rw [hb.frozen (hlt _ hin)]
      exact hz b off hin
    · intro ha
      have := hn ha
      rw [hps] at this
      simpa using this
    · intro p hp _
      rw [hps]
      simpa using hp

/-- All arguments read as they did. -/
theorem trodAll_stays (hl : laidOutB P = true) {W W' : World} {sp : Nat → Bool} (hb : Go.RowKit.Below W.heap.size W W') : ∀ {ts : List TypeId} {vs : List Value} {ds : List (DataW H)} {ps : List MemPlace}, (∀ t ∈ ts, P.readableRec t = true ∧ t < P.types.size) →
    DataW.TrodAll enc P W 0 (fun _ => true) true ts vs ds ps → (∀ x ∈ ps, x.block < W.heap.size) → (∀ x ∈ ps, sp x.block = true) → DataW.TrodAll enc P W' 0 sp true ts vs ds ps
  | [], [], [], ps, _, h, _, _ => h
  | t :: ts, v :: vs, d :: ds, ps, hr, h, hlt, hsp => by
    obtain ⟨p, q, h1, h2, rfl⟩ := h
    refine ⟨p, q, ?_, trodAll_stays hl hb (fun t ht => hr t (by simp [ht])) h2 (fun x hx => hlt x (by simp [hx])) fun x hx => hsp x (by simp [hx]), rfl⟩
    exact WideElems.Trod_stays hl (hr t (by simp)).1 (hr t (by simp)).2 h1 (fun x hx => hb.same (hlt x (by simp [hx]))) fun x hx => hsp x (by simp [hx])

theorem trodAll_length : ∀ {W : World} {b : Nat} {sp : Nat → Bool} {hd : Bool} {ts : List TypeId} {vs : List Value} {ds : List (DataW H)} {ps : List MemPlace}, DataW.TrodAll enc P W b sp hd ts vs ds ps → ds.length = ts.length ∧ vs.length = ts.length
  | _, _, _, _, [], [], [], _, _ => ⟨rfl, rfl⟩
  | _, _, _, _, _ :: ts, _ :: vs, _ :: ds, _, h => by
    obtain ⟨p, q, h1, h2, _⟩ := h
    obtain ⟨e1, e2⟩ := trodAll_length h2
    simp [e1, e2]


/-- A slice of bytes that came in. -/
theorem open_bytes {W : World} {base : Nat} {t e : TypeId} {v : Value} {d : DataW H} {ps : List MemPlace} (ht : P.underlying t = some (.slice e)) (he : P.underlying e = some (.int .u8)) (hc : P.cellsOf e = 1)
    (hval : Value.okWide P W .any base t v) (h : DataW.Trod enc P W 0 (fun _ => true) true t v d ps) :
    ∃ (bs : Option Addr) (nj cap : Nat) (rr : Nat → Nat), v = .slice bs nj cap ∧ (∀ q, rr q < 256) ∧ ∀ q, q < nj → ∃ b o, bs = some ⟨b, o, none⟩ ∧ b < W.heap.size ∧ W.cell? ⟨b, o + q, none⟩ = some (.int .u8 (rr q)) := by
  have hval2 := hval
  obtain ⟨a1, len, cap, rfl⟩ := okWide_slice ht hval
  obtain ⟨fuel, hf⟩ := h
  rcases open_ints ht he hc hf with ⟨hcs, hx⟩ | ⟨a, len', cap', zs, hcs, _, hl, hm, hz, hx, hcell, hwz⟩
  · simp [Value.cells] at hcs
    obtain ⟨rfl, rfl, rfl⟩ := hcs
    exact ⟨none, 0, 0, fun _ => 0, rfl, fun _ => Nat.zero_lt_succ 255, fun q hq => absurd hq (Nat.not_lt_zero _)⟩
  · simp [Value.cells] at hcs
    obtain ⟨rfl, rfl, rfl⟩ := hcs
    simp only [if_true] at hz
    have hspot : a.spot = none := by
      simp only [Value.okWide, ht, Cell.okWide, Cell.ok] at hval2
      exact hval2.2.2.2.1
    obtain ⟨ab, ao, spot⟩ := a
    simp only at hspot
    subst hspot
    have hbd : ∀ q, q < zs.length → 0 ≤ zs.getD q 0 ∧ zs.getD q 0 ≤ 255 := fun q hq => by
      have h1 : zs.getD q 0 ∈ zs := by
        rw [List.getD_eq_getElem?_getD, List.getElem?_eq_getElem hq]
        exact List.getElem_mem hq
      have := hwz _ h1
      have h2 : IntKind.u8.min ≤ zs.getD q 0 ∧ zs.getD q 0 ≤ IntKind.u8.max := by simpa [Lit.wf, IntKind.has] using this
      exact h2
    refine ⟨some ⟨ab, ao, none⟩, len, cap, fun q => if q < zs.length then (zs.getD q 0).toNat else 0, rfl, fun q => ?_, fun q hq => ⟨ab, ao, rfl, ?_, ?_⟩⟩
    · show (if q < zs.length then (zs.getD q 0).toNat else 0) < 256
      split
      · rename_i h1
        have := hbd q h1
        omega
      · decide
    · have := hcell q (by omega)
      have hb := Go.Co.cell_block this
      have e : ((⟨ab, ao, none⟩ : Addr).add q).block = ab := by unfold Addr.add; split <;> rfl
      rwa [e] at hb
    · have := hcell q (by omega)
      have e : (⟨ab, ao, none⟩ : Addr).add q = ⟨ab, ao + q, none⟩ := by
        unfold Addr.add; split
        · rename_i h; subst h; rfl
        · rfl
      rw [e] at this
      rw [this]
      have h1 : q < zs.length := by omega
      have h2 := hbd q h1
      have h3 : (if q < zs.length then (zs.getD q 0).toNat else 0) = (zs.getD q 0).toNat := if_pos h1
      show some (Value.int .u8 (zs.getD q 0)) = some (Value.int .u8 ((if q < zs.length then (zs.getD q 0).toNat else 0 : Nat) : Int))
      rw [h3]
      congr 2
      omega
theorem open_byte {W : World} {base : Nat} {t : TypeId} {v : Value} (ht : P.underlying t = some (.int .u8)) (hval : Value.okWide P W .any base t v) : ∃ n : Nat, v = .int .u8 n ∧ n < 256 := by
  have h : Cell.okWide P W .any base t v := by
    simpa only [Value.okWide, ht] using hval
  have h2 : ∃ n, v = .int .u8 n ∧ IntKind.u8.has n := by
    simp only [Cell.okWide, ht] at h
    cases v <;> simp_all [Cell.ok]
  obtain ⟨n, rfl, hn⟩ := h2
  have hn : 0 ≤ n ∧ n ≤ 255 := hn
  exact ⟨n.toNat, by congr 1; omega, by omega⟩

/-- A row's last step, where goroutines may leave and time may have passed. -/
theorem leaving_post {fn : Func} {s : ChangeSpec} {t : TypeId} {W w' : World} {args : Array Value} {ds gs : List (DataW H)} {before : List MemPlace}
    (hvars : s.vars = []) (hfn : ∀ l : List (DataW H), l.length = fn.params.size → (s.fn H l).results = [.lit (.bool true)] ∧ (s.fn H l).args = l ∧ (s.fn H l).vars = [])
    (hres : fn.resultTypes = #[t]) (ht : P.underlying t = some .bool) (hl : laidOutB P = true) (hr0 : (fn.params.toList.all fun t => P.readableRec t && decide (t < P.types.size)) = true)
    (hW : DataW.Whole enc P fn.params.toList s.vars false W args.toList ds gs before) (hb : Go.RowKit.Below W.heap.size W w') : s.post enc P fn false true false false W args (.bool true) w' := by
  have hr : ∀ t ∈ fn.params.toList, P.readableRec t = true ∧ t < P.types.size := fun t ht => by
    have := List.all_eq_true.1 hr0 t ht
    rw [Bool.and_eq_true] at this
    exact ⟨this.1, of_decide_eq_true this.2⟩
  have hW' := hW
  obtain ⟨p, q, hA, hV, hpq, _, _⟩ := hW'
  rw [hvars] at hV
  obtain ⟨rfl, rfl⟩ := trodVars_none hV
  have hlen := (trodAll_length hA).1
  obtain ⟨r1, r2, r3⟩ := hfn (ds ++ []) (by simpa using hlen)
  have hlt : ∀ x ∈ before, x.block < W.heap.size := fun x hx => hW.lt x hx
  refine post_below (pa := before) (pv := []) hW (fun b sp hd => ?_) (fun sp hsp => ?_) (fun sp _ => ?_) (by simp) hb ?_
  · rw [r1, hres]
    exact trodAll_cons_mk (shut_bool ht _) trodAll_mk0
  · rw [r2, List.append_nil]
    have e : before = p := by rw [hpq, List.append_nil]
    rw [e] at hsp hlt ⊢
    exact trodAll_stays hl hb hr hA hlt hsp
  · rw [r3, hvars]
    exact rfl
  · exact ok_one hres rfl (okWide_bool_mk ht _)
end
end Go.Co.Row

namespace Go.Proofs.Ytcikailibheakaa
open Go Go.Conc Go.RowKit Go.WideShapes Go.ChangeShapes Go.Co Go.Co.F1 Go.Co.Row
set_option maxRecDepth 100000
set_option maxHeartbeats 4000000

theorem own : ownKnob Try.prog.godebug = none := by kernel_rfl
theorem laid : laidOutB Try.prog = true := by kernel_rfl
theorem one_params : Try.f5.params = #[22, 5] := by kernel_rfl
theorem ul22 : Try.prog.underlying 22 = some (.slice 5) := by kernel_rfl
theorem ul5 : Try.prog.underlying 5 = some (.int .u8) := by kernel_rfl
theorem ul4 : Try.prog.underlying 4 = some .bool := by kernel_rfl
theorem cells5 : Try.prog.cellsOf 5 = 1 := by kernel_rfl

theorem one_lifted (os : Os) (started : os.Started) (H : Type) (enc : TypeId × Value → H) (F : Stop.Interp) :
    ReturnsInLeavingWide { calm := true } Try.checked os 5 .any (Rows.countsOneSpec.pre6 enc Try.prog Try.f5 Rows.countsOneRow.domain false) ((OpenSpec.ofChange Rows.countsOneSpec).postWith enc Try.prog Try.f5 F (outsideKept [.timePasses]) false true false) := by
  refine returnsInLeavingWide_of_change_time (C := Try.checked) own started Try.func5
    (ChangeSpec.witness6c (enc := enc) (C := Try.checked) ⟨#[], #[.slice none 0 0, .int .u8 0], []⟩ 8 (by kernel_rfl) (by kernel_rfl) (by kernel_rfl) (by kernel_rfl)) ?_
  intro W base args ds gs before hval hW _ _ _
  have hW0 := hW
  obtain ⟨ps, qs, hA0, hV, rfl, hfz, hnd⟩ := hW
  have hA : DataW.TrodAll enc Try.prog W 0 (fun _ => true) true Try.f5.params.toList args.toList ds ps := hA0
  rw [one_params] at hA hval
  obtain ⟨v0, vs0, d0, ds0, p0, q0, hargs, rfl, rfl, h0, r0⟩ := trodAll_cons hA
  obtain ⟨v1, vs1, d1, ds1, p1, q1, rfl, rfl, rfl, h1, r1⟩ := trodAll_cons r0
  obtain ⟨rfl, rfl, rfl⟩ := trodAll_nil r1
  obtain rfl : args = #[v0, v1] := by cases args; simp_all
  obtain ⟨bs, nj, cap, rr, rfl, hrr, hat⟩ := open_bytes ul22 ul5 cells5 (hval 0 22 v0 rfl rfl) h0
  obtain ⟨x, rfl, hx⟩ := open_byte ul5 (hval 1 5 v1 rfl rfl)
  obtain ⟨M, last, o, w', t', r1, r2, r3, v, ho, ⟨hv, e1, e2, e3, e4, e5⟩, g2, g3, g4, g5⟩ := law_runs (W := W) (g0 := Conc.G (Frame.enter Try.prog 5 #[.slice bs nj cap, .int .u8 x] .normal) []) rfl fun E N hf hP hfin =>
    one5 (rr := rr) hf hP hfin ⟨Nat.le_refl _, fun b hb => ⟨hb, rfl⟩⟩ ⟨hat, hrr, hx⟩
  refine ⟨M, last, o, w', t', r1, r2, r3, v, ho, ⟨?_, e3⟩, g2, g3, g4, g5⟩
  rw [hv]
  refine leaving_post (t := 4) (s := Rows.countsOneSpec) rfl (fun l hl => ?_) rfl ul4 laid (by kernel_rfl) hW0 ⟨rfl, e1, e2, e4, e5⟩
  match l, hl with
  | [_, _], _ => exact ⟨rfl, rfl, rfl⟩

theorem one_holds : Rows.CountsOneSaid :=
  OpenClaim.holds_of_wide_leaving_time 5 Try.f5 rfl rfl rfl rfl rfl rfl rfl ⟨rfl, rfl, rfl, rfl, rfl⟩ rfl rfl rfl rfl rfl (by kernel_rfl) Try.func5 (by kernel_rfl)
    (of_decide_eq_true (by kernel_rfl)) (by unfold Func.isWrapper; first | (rw [if_pos (by decide +kernel)]; kernel_rfl) | (rw [if_neg (by decide +kernel)]; exact ⟨rfl, rfl⟩))
    (fun os started H enc _ F => one_lifted os started H enc F)
end Go.Proofs.Ytcikailibheakaa

#print axioms Go.Proofs.Ytcikailibheakaa.one_holds
