/- A theory of many goroutines that count at once (a channel, a wait group, once, a mutex), the walks of the program's functions in it, and the law CountsTells of the seat, proved out of them. No condition beyond those that stand in each statement. -/
import Derived.Test.YtcikailibheakaaCoG
import Derived.ProofKit
import Derived.OpenShut
import Derived.Below
import Derived.ChangeSame
import Derived.ChangeSlices
import Derived.Conc.HoldsTime
import Derived.Test.YtcikailibheakaaRows
namespace Go.Co.F1
open Go Go.Conc Go.Proofs
open Go.Co
open Go.ConcN (upd upd_ne upd_same)
variable {E : Geo} {N i : Nat} {l : Lo} {w : World} {own own' : Nat → Prop} {w' : World} {FP FP' : Nat → Prop}
set_option maxRecDepth 10000
theorem ctr_new {r : Nat} (h : own r) (hh : w.heap[r]? = some (.cells #[.int .u32 0, .int .i32 0, .int .u32 0, .slice none 0 0] 38 (0, 0))) : Ctr own w r (fun b => b = r) (fun _ => 0) :=
  .inl ⟨CB.of h hh, fun _ => Iff.rfl, fun _ => rfl⟩
section
variable {b : Frame} {n : Nat} {env : Nv} {ds : List Deferred} {k : List Item} {cs : List Frame} {ops : Array Oper} {j : Nat} {o : Oper}
theorem TkO.storeAt (W : WkP Try.prog E (mainLo own) b) {A m : Nat} {f : Nat → Int} {v : Int} {x y : Operand} (hm : m < 19) (ho : ops[j]? = some o) (hw : wantE ops env o = some true) (hd : o.dst = none) (hop : o.op = .store 3 x y)
    (hx : env.ev x = some (ptr A m)) (hy : env.ev y = some (.int .i64 v)) (hown : own A) (hh : w.heap[A]? = some (.cells (arrV 19 f) 40 (0, 0)))
    (h : ∀ w', w.heap.size ≤ w'.heap.size → (∀ b, own b → b ≠ A → w'.heap[b]? = w.heap[b]?) → w'.heap[A]? = some (.cells (arrV 19 (upd f m v)) 40 (0, 0)) → TkO E N i (mainLo own) w' b n env ds ops (j + 1) k cs) : TkO E N i (mainLo own) w b n env ds ops j k cs := by
  have hc : w.cell? (adr A m) = some (.int .i64 (f m)) := by
    rw [cell_at hh, arrV_get, if_pos hm]
  refine TkO.open ho (Tk.ostore W.wk rfl (t := 3) (x := x) (y := y) (ad := adr A m) (v := .int .i64 v) ho hw hd hop (by rw [W.hP]; exact ⟨_, by rfl, by rfl⟩) rfl rfl hx hy hown hc (by unfold World.frozen?; rw [show w.heap[(adr A m).block]? = _ from hh]; simp) fun w₁ hv => ?_)
  refine h _ (by rw [setCell_size]; exact hv.1) (fun b hb hn => ?_) ?_
  · rw [set_blk w₁ _ _ fun e => hn e.symm]; exact hv.2 b hb
  · rw [heap_set (by rw [hv.2 A hown]; exact hh), arrV_set hm]
theorem TkO.newArr (W : WkP Try.prog E (mainLo own) b) {d : Nat} (ho : ops[j]? = some o) (hw : wantE ops env o = some true) (hdd : o.dst = some d) (hd : Nat.blt d n = true) (hop : o.op = .alloc 40)
    (h : ∀ own' w' r, Kp own w own' w' → w.heap.size ≤ r → own' r → w'.heap[r]? = some (.cells (arrV 19 fun _ => 0) 40 (0, 0)) → TkO E N i (mainLo own') w' b n ((d, ptr r 0) :: env) ds ops (j + 1) k cs) : TkO E N i (mainLo own) w b n env ds ops j k cs := by
  refine TkO.newM W (d := d) ho hw hdd hd (fun r => ptr r 0) (.cells (arrV 19 fun _ => 0) 40 (0, 0)) (fun a ha w₁ => ?_) h
  have := exec_allocC (P := Try.prog) (a := a) (o := o) (t := 40) (c := Array.replicate 19 (.int .i64 0)) hop (by rfl) w₁
  rw [show Array.replicate 19 (Value.int .i64 0) = arrV 19 fun _ => 0 from arrV_zero] at this
  exact this
end
theorem b6 : Bod Try.prog 6 77 c6 #[.tmp 0] := ⟨Try.f6, Try.func6, by decide +kernel, rfl, rfl, rfl⟩
def v1W (r : Nat) : Int := if r = 5 then 1 else 0
def v2W (r : Nat) : Int := if r = 5 then 1 else if r = 15 then 1 else 0
theorem v2_bd (r : Nat) : 0 ≤ v2W r ∧ v2W r ≤ 2 := by
  unfold v2W
  split
  · decide
  · split <;> decide
theorem e1W : (if isR 5 = true then upd (fun _ => (0 : Int)) 5 ((fun _ => (0 : Int)) 5 + 1) else fun _ => 0) = v1W := by
  rw [if_pos (by decide)]
  funext r
  unfold upd v1W
  rfl
theorem e2W : (if isR 15 = true then upd v1W 15 (v1W 15 + 1) else v1W) = v2W := by
  rw [if_pos (by decide)]
  funext r
  unfold upd v2W v1W
  by_cases e : r = 15
  · subst e; rfl
  · rw [if_neg e, if_neg e]
theorem e3W : (if isR 5 = true then upd v2W 5 (v2W 5 + 1) else v2W) = vW := by
  rw [if_pos (by decide)]
  funext r
  unfold upd v2W vW
  by_cases e : r = 5
  · subst e; rfl
  · rw [if_neg e, if_neg e, if_neg e]
theorem e4W : (if isR 0 = true then upd vW 0 (vW 0 + 1) else vW) = vW := if_neg (by decide)
theorem bdW {f : Nat → Int} (h : ∀ r, 0 ≤ f r ∧ f r ≤ 2) : ∀ r, 0 ≤ f r ∧ f r < 4611686018427387904 := fun r => ⟨(h r).1, by have := (h r).2; omega⟩
set_option maxHeartbeats 8000000 in
theorem wakes6 {W : World} {S0 : Nat} {F2 : Nat → Lo → Goroutine → World → Prop} (hf : E.FinV) (hP : E.P = Try.prog) (hfin : E.fin = AtTally W S0 F2) (hsz : S0 ≤ w.heap.size) (ho : Old W own w) {fr : Frame} {cs : List Frame}
    (h : ∀ E2 N2 own2 w2 S2, E2.FinV → E2.P = Try.prog → E2.fin = F2 S2 → S2 ≤ w2.heap.size → Old W own2 w2 → Tr E2 N2 0 (mainLo own2) (Conc.G (fr.finish (.bool true)) cs) w2) :
    Tr E N 0 (mainLo own) (Conc.G (Frame.enter Try.prog 6 #[] .normal) (fr :: cs)) w := by
  have Wl : ∀ own', WkP Try.prog E (mainLo own') (base 6) := fun own' => wk_main hf hP (by decide)
  refine Tr.enterP hP b6 (Nat.le_of_ble_eq_true rfl) ?_
  (repeat (first | refine TkO.done (Wl own) (by rfl) ?_ | refine TkO.unwantedS (Wl own) (by rfl) (by rfl) (by rfl) (by rfl) ?_ | refine TkO.pureS (Wl own) (by rfl) (by rfl) (by rfl) (by rfl) (by first | exact pure_move (.inl rfl) rfl | exact pure_move (.inr rfl) rfl | exact pure_nilCheck rfl rfl | exact pure_field rfl rfl (by rfl) rfl (by decide +kernel) | exact pure_int rfl rfl rfl rfl | exact pure_not rfl rfl | exact pure_pickT rfl rfl rfl | exact pure_pickF rfl rfl rfl | exact pure_shift rfl rfl rfl rfl | exact pure_eqlNil rfl rfl rfl (by rfl) | exact pure_conv rfl rfl (by rfl) (by rfl)) ?_ | refine Tk.seq (WkP.wk (Wl own)) ?_ | refine Tk.reg (Wl own) ?_ | refine Tk.skip (WkP.wk (Wl own)) ?_ | refine Tk.block (WkP.wk (Wl own)) ?_ | refine Tk.condT (WkP.wk (Wl own)) rfl ?_ | refine Tk.condF (WkP.wk (Wl own)) rfl ?_ | refine Tk.exit (WkP.wk (Wl own)) rfl ?_ | refine Tk.label (WkP.wk (Wl own)) ?_))
  refine TkO.newM (Wl _) (d := 1) (by rfl) (by rfl) (by rfl) (by rfl) (fun r => ptr r 0) (.cells #[.int .u32 0, .int .i32 0, .int .u32 0, .slice none 0 0] 38 (0, 0)) (fun a ha w₁ => exec_allocC (t := 38) (by rfl) (by rfl) w₁) fun own1 w1 K k1 K1 K2 K3 => ?_
  have o1 := ho.kp k1
  have c1 := ctr_new K2 K3
  have f1 : ∀ b, b = K → W.heap.size ≤ b := fun b hb => by rw [hb]; exact Nat.le_trans ho.size K1
  (repeat (first | refine TkO.done (Wl own1) (by rfl) ?_ | refine TkO.unwantedS (Wl own1) (by rfl) (by rfl) (by rfl) (by rfl) ?_ | refine TkO.pureS (Wl own1) (by rfl) (by rfl) (by rfl) (by rfl) (by first | exact pure_move (.inl rfl) rfl | exact pure_move (.inr rfl) rfl | exact pure_nilCheck rfl rfl | exact pure_field rfl rfl (by rfl) rfl (by decide +kernel) | exact pure_int rfl rfl rfl rfl | exact pure_not rfl rfl | exact pure_pickT rfl rfl rfl | exact pure_pickF rfl rfl rfl | exact pure_shift rfl rfl rfl rfl | exact pure_eqlNil rfl rfl rfl (by rfl) | exact pure_conv rfl rfl (by rfl) (by rfl)) ?_ | refine Tk.seq (WkP.wk (Wl own1)) ?_ | refine Tk.reg (Wl own1) ?_ | refine Tk.skip (WkP.wk (Wl own1)) ?_ | refine Tk.block (WkP.wk (Wl own1)) ?_ | refine Tk.condT (WkP.wk (Wl own1)) rfl ?_ | refine Tk.condF (WkP.wk (Wl own1)) rfl ?_ | refine Tk.exit (WkP.wk (Wl own1)) rfl ?_ | refine Tk.label (WkP.wk (Wl own1)) ?_))
  refine TkO.call (Wl _) (by rfl) (by rfl) (by rfl) (by rfl) b7 rfl fun fr1 hk1 => ?_
  refine add7M (r := 5) hf hP c1 (fun _ => ⟨by decide, by decide⟩) fun own2 w2 FP2 k2 c2 => hk1 _ _ _ (TkO.lay (rfl : Nv.put _ _ _ = (_, _) :: _) ?_)
  rw [e1W] at c2
  obtain ⟨o2, f2⟩ := o1.kf k2 f1
  (repeat (first | refine TkO.done (Wl own2) (by rfl) ?_ | refine TkO.unwantedS (Wl own2) (by rfl) (by rfl) (by rfl) (by rfl) ?_ | refine TkO.pureS (Wl own2) (by rfl) (by rfl) (by rfl) (by rfl) (by first | exact pure_move (.inl rfl) rfl | exact pure_move (.inr rfl) rfl | exact pure_nilCheck rfl rfl | exact pure_field rfl rfl (by rfl) rfl (by decide +kernel) | exact pure_int rfl rfl rfl rfl | exact pure_not rfl rfl | exact pure_pickT rfl rfl rfl | exact pure_pickF rfl rfl rfl | exact pure_shift rfl rfl rfl rfl | exact pure_eqlNil rfl rfl rfl (by rfl) | exact pure_conv rfl rfl (by rfl) (by rfl)) ?_ | refine Tk.seq (WkP.wk (Wl own2)) ?_ | refine Tk.reg (Wl own2) ?_ | refine Tk.skip (WkP.wk (Wl own2)) ?_ | refine Tk.block (WkP.wk (Wl own2)) ?_ | refine Tk.condT (WkP.wk (Wl own2)) rfl ?_ | refine Tk.condF (WkP.wk (Wl own2)) rfl ?_ | refine Tk.exit (WkP.wk (Wl own2)) rfl ?_ | refine Tk.label (WkP.wk (Wl own2)) ?_))
  refine TkO.call (Wl _) (by rfl) (by rfl) (by rfl) (by rfl) b7 rfl fun fr2 hk2 => ?_
  refine add7M (r := 15) hf hP c2 (bdW fun r => by unfold v1W; split <;> decide) fun own3 w3 FP3 k3 c3 => hk2 _ _ _ (TkO.lay (rfl : Nv.put _ _ _ = (_, _) :: _) ?_)
  rw [e2W] at c3
  obtain ⟨o3, f3⟩ := o2.kf k3 f2
  (repeat (first | refine TkO.done (Wl own3) (by rfl) ?_ | refine TkO.unwantedS (Wl own3) (by rfl) (by rfl) (by rfl) (by rfl) ?_ | refine TkO.pureS (Wl own3) (by rfl) (by rfl) (by rfl) (by rfl) (by first | exact pure_move (.inl rfl) rfl | exact pure_move (.inr rfl) rfl | exact pure_nilCheck rfl rfl | exact pure_field rfl rfl (by rfl) rfl (by decide +kernel) | exact pure_int rfl rfl rfl rfl | exact pure_not rfl rfl | exact pure_pickT rfl rfl rfl | exact pure_pickF rfl rfl rfl | exact pure_shift rfl rfl rfl rfl | exact pure_eqlNil rfl rfl rfl (by rfl) | exact pure_conv rfl rfl (by rfl) (by rfl)) ?_ | refine Tk.seq (WkP.wk (Wl own3)) ?_ | refine Tk.reg (Wl own3) ?_ | refine Tk.skip (WkP.wk (Wl own3)) ?_ | refine Tk.block (WkP.wk (Wl own3)) ?_ | refine Tk.condT (WkP.wk (Wl own3)) rfl ?_ | refine Tk.condF (WkP.wk (Wl own3)) rfl ?_ | refine Tk.exit (WkP.wk (Wl own3)) rfl ?_ | refine Tk.label (WkP.wk (Wl own3)) ?_))
  refine TkO.call (Wl _) (by rfl) (by rfl) (by rfl) (by rfl) b7 rfl fun fr3 hk3 => ?_
  refine add7M (r := 5) hf hP c3 (bdW v2_bd) fun own4 w4 FP4 k4 c4 => hk3 _ _ _ (TkO.lay (rfl : Nv.put _ _ _ = (_, _) :: _) ?_)
  rw [e3W] at c4
  obtain ⟨o4, f4⟩ := o3.kf k4 f3
  (repeat (first | refine TkO.done (Wl own4) (by rfl) ?_ | refine TkO.unwantedS (Wl own4) (by rfl) (by rfl) (by rfl) (by rfl) ?_ | refine TkO.pureS (Wl own4) (by rfl) (by rfl) (by rfl) (by rfl) (by first | exact pure_move (.inl rfl) rfl | exact pure_move (.inr rfl) rfl | exact pure_nilCheck rfl rfl | exact pure_field rfl rfl (by rfl) rfl (by decide +kernel) | exact pure_int rfl rfl rfl rfl | exact pure_not rfl rfl | exact pure_pickT rfl rfl rfl | exact pure_pickF rfl rfl rfl | exact pure_shift rfl rfl rfl rfl | exact pure_eqlNil rfl rfl rfl (by rfl) | exact pure_conv rfl rfl (by rfl) (by rfl)) ?_ | refine Tk.seq (WkP.wk (Wl own4)) ?_ | refine Tk.reg (Wl own4) ?_ | refine Tk.skip (WkP.wk (Wl own4)) ?_ | refine Tk.block (WkP.wk (Wl own4)) ?_ | refine Tk.condT (WkP.wk (Wl own4)) rfl ?_ | refine Tk.condF (WkP.wk (Wl own4)) rfl ?_ | refine Tk.exit (WkP.wk (Wl own4)) rfl ?_ | refine Tk.label (WkP.wk (Wl own4)) ?_))
  refine TkO.call (Wl _) (by rfl) (by rfl) (by rfl) (by rfl) b7 rfl fun fr4 hk4 => ?_
  refine add7M (r := 0) hf hP c4 vW_bd fun own5 w5 FP5 k5 c5 => hk4 _ _ _ (TkO.lay (rfl : Nv.put _ _ _ = (_, _) :: _) ?_)
  rw [e4W] at c5
  obtain ⟨o5, f5⟩ := o4.kf k5 f4
  (repeat (first | refine TkO.done (Wl own5) (by rfl) ?_ | refine TkO.unwantedS (Wl own5) (by rfl) (by rfl) (by rfl) (by rfl) ?_ | refine TkO.pureS (Wl own5) (by rfl) (by rfl) (by rfl) (by rfl) (by first | exact pure_move (.inl rfl) rfl | exact pure_move (.inr rfl) rfl | exact pure_nilCheck rfl rfl | exact pure_field rfl rfl (by rfl) rfl (by decide +kernel) | exact pure_int rfl rfl rfl rfl | exact pure_not rfl rfl | exact pure_pickT rfl rfl rfl | exact pure_pickF rfl rfl rfl | exact pure_shift rfl rfl rfl rfl | exact pure_eqlNil rfl rfl rfl (by rfl) | exact pure_conv rfl rfl (by rfl) (by rfl)) ?_ | refine Tk.seq (WkP.wk (Wl own5)) ?_ | refine Tk.reg (Wl own5) ?_ | refine Tk.skip (WkP.wk (Wl own5)) ?_ | refine Tk.block (WkP.wk (Wl own5)) ?_ | refine Tk.condT (WkP.wk (Wl own5)) rfl ?_ | refine Tk.condF (WkP.wk (Wl own5)) rfl ?_ | refine Tk.exit (WkP.wk (Wl own5)) rfl ?_ | refine Tk.label (WkP.wk (Wl own5)) ?_))
  refine TkO.newArr (Wl _) (d := 7) (by rfl) (by rfl) (by rfl) (by rfl) (by rfl) fun own6 w6 A k6 A1 A2 A3 => ?_
  have o6 := o5.kp k6
  have c6' := c5.frame2 k6
  have nA : ¬ FP5 A := fun e => by have := (c5.lt e).1; omega
  (repeat (first | refine TkO.done (Wl own6) (by rfl) ?_ | refine TkO.unwantedS (Wl own6) (by rfl) (by rfl) (by rfl) (by rfl) ?_ | refine TkO.pureS (Wl own6) (by rfl) (by rfl) (by rfl) (by rfl) (by first | exact pure_move (.inl rfl) rfl | exact pure_move (.inr rfl) rfl | exact pure_nilCheck rfl rfl | exact pure_field rfl rfl (by rfl) rfl (by decide +kernel) | exact pure_int rfl rfl rfl rfl | exact pure_not rfl rfl | exact pure_pickT rfl rfl rfl | exact pure_pickF rfl rfl rfl | exact pure_shift rfl rfl rfl rfl | exact pure_eqlNil rfl rfl rfl (by rfl) | exact pure_conv rfl rfl (by rfl) (by rfl)) ?_ | refine Tk.seq (WkP.wk (Wl own6)) ?_ | refine Tk.reg (Wl own6) ?_ | refine Tk.skip (WkP.wk (Wl own6)) ?_ | refine Tk.block (WkP.wk (Wl own6)) ?_ | refine Tk.condT (WkP.wk (Wl own6)) rfl ?_ | refine Tk.condF (WkP.wk (Wl own6)) rfl ?_ | refine Tk.exit (WkP.wk (Wl own6)) rfl ?_ | refine Tk.label (WkP.wk (Wl own6)) ?_))
  refine TkO.pureS (Wl _) (by rfl) (by rfl) (by rfl) (by rfl) (pure_indexA (m := 19) (e := 3) (b := A) (off := 0) (k := .u8) (j := 5) (by rfl) (by rfl) (by decide +kernel) (by rfl) (by rfl) (by decide)) ?_
  refine TkO.storeAt (Wl _) (A := A) (m := 5) (v := 2) (by decide) (by rfl) (by rfl) (by rfl) (by rfl) (by rfl) (by rfl) A2 A3 fun w7 s7 h7 A7 => ?_
  refine TkO.pureS (Wl _) (by rfl) (by rfl) (by rfl) (by rfl) (pure_indexA (m := 19) (e := 3) (b := A) (off := 0) (k := .u8) (j := 15) (by rfl) (by rfl) (by decide +kernel) (by rfl) (by rfl) (by decide)) ?_
  refine TkO.storeAt (Wl _) (A := A) (m := 15) (v := 1) (by decide) (by rfl) (by rfl) (by rfl) (by rfl) (by rfl) (by rfl) A2 A7 fun w8 s8 h8 A8 => ?_
  have hA0 : W.heap.size ≤ A := Nat.le_trans o5.size A1
  have sz8 : S0 ≤ w8.heap.size := by
    have z1 := k1.size; have z2 := k2.size; have z3 := k3.size; have z4 := k4.size; have z5 := k5.size; have z6 := k6.size
    omega
  have M : Wm W S0 K A own6 w8 FP5 := by
    refine ⟨⟨Nat.le_trans o6.size (Nat.le_trans s7 s8), fun b hb => ⟨(o6.heap b hb).1, ?_⟩⟩, sz8, c6'.frame (fun _ x => x) fun b hb => ?_, f5, ⟨A2, ?_⟩, nA⟩
    · have hne : b ≠ A := by omega
      rw [h8 b (o6.heap b hb).1 hne, h7 b (o6.heap b hb).1 hne]
      exact (o6.heap b hb).2
    · have hne : b ≠ A := fun e => nA (e ▸ hb)
      rw [h8 b (c6'.lt hb).2 hne, h7 b (c6'.lt hb).2 hne]
    · have e : arrV 19 (upd (upd (fun _ => (0 : Int)) 5 2) 15 1) = arrV 19 vW := arrV_ext fun j _ => by
        unfold upd vW
        by_cases e15 : j = 15
        · subst e15; rfl
        · by_cases e5 : j = 5
          · subst e5; rfl
          · rw [if_neg e15, if_neg e5, if_neg e5, if_neg e15]
      rw [A8, e]
  refine TkO.done (Wl _) (by rfl) ?_
  refine Tk.seq (Wl _).wk ?_
  refine Tk.freeE (Wl _) mixed (I := Iw W F2 K A) (by decide +kernel) ?_ ?_ ?_ ?_
  · refine ⟨own6, S0, 0, FP5, rfl, hf, hP, fun _ => hfin, fun x => absurd x (not_up0 _ _), ⟨by simp, fun x hx => ?_, fun m o' d _ _ hu => absurd hu (not_up0 _ _)⟩, M, fun x => absurd x (not_up0 _ _)⟩
    have : x = 1 ∨ x = 2 ∨ x = 3 ∨ x = 4 ∨ x = 5 ∨ x = 6 ∨ x = 7 := by simpa [bsW] using hx
    rcases this with rfl | rfl | rfl | rfl | rfl | rfl | rfl <;> rfl
  · intro E L l w env ⟨own, S0, S, FP, hl, hf, hP, _, _, F, _⟩
    subst hl
    exact ⟨F.size, wk_main hf hP (by decide)⟩
  · exact wakesR rfl
  · intro E N L l w env ⟨own, S1, S, FP, hl, hf, hP, _, h38, F, M, _⟩ hall
    subst hl
    have W' : WkP Try.prog E (mainLo own) (base 6) := wk_main hf hP (by decide)
    have g0 := F.get (j := 63) (d := 0) (by rfl) rfl (hall 63 (by decide))
    exact Tk.ret W'.wk (TkR.leave1 W'.wk (hP ▸ b6) g0 (h _ _ _ _ _ hf hP (h38 (hall 38 (by decide))) M.sz M.old))
end Go.Co.F1

namespace Go.Co.F1
open Go Go.Conc Go.Proofs
open Go.Co
open Go.ConcN (upd upd_ne upd_same)
variable {E : Geo} {N i : Nat} {l : Lo} {w : World} {own own' : Nat → Prop} {w' : World} {FP FP' : Nat → Prop}
set_option maxRecDepth 10000
theorem eqlBool {P : Program} {t : TypeId} {a b : Bool} (hu : P.underlying t = some .bool) (w : World) : (Op.equal t (.bool a) (.bool b)).run P w = .ok (a == b) w ∧ (Op.equal t (.bool a) (.bool b)).events P w #[] = #[] := by
  have h1 := run_underlying hu w
  have e : Op.maxDepth = 9999 + 1 := rfl
  unfold Op.equal
  rw [e]
  generalize 9999 = D
  constructor
  · simp [Op.equalIn, h1]
  · simp [Op.equalIn, h1, events_underlying]
structure Om (W : World) (own : Nat → Prop) (w : World) (C : Nat) (FP : Nat → Prop) (v : Nat → Int) (D : Nat) : Prop where
  old : Old W own w
  ctr : Ctr own w C FP v
  fpo : ∀ b, FP b → W.heap.size ≤ b
  d : own D ∧ w.heap[D]? = some (.cells #[.int .u32 0, .int .i32 0, .int .u32 0, .slice none 0 0] 38 (0, 0))
  nd : ¬ FP D
structure Ar (own : Nat → Prop) (w : World) (FP : Nat → Prop) (A : Nat) (f : Nat → Int) : Prop where
  ow : own A
  heap : w.heap[A]? = some (.cells (arrV 19 f) 40 (0, 0))
  na : ¬ FP A
section
variable {W : World} {C D A : Nat} {v v' f : Nat → Int}
theorem Om.kf (m : Om W own w C FP v D) (k : Kf own w FP own' w' FP') (c : Ctr own' w' C FP' v') : Om W own' w' C FP' v' D := by
  obtain ⟨o, g⟩ := m.old.kf k m.fpo
  exact ⟨o, c, g, ⟨k.ow D m.d.1, by rw [k.heap D m.d.1 m.nd]; exact m.d.2⟩, fun e => (k.fp D e).elim m.nd fun x => by have := lt_of_heap m.d.2; omega⟩
theorem Ar.kf (s : Ar own w FP A f) (k : Kf own w FP own' w' FP') : Ar own' w' FP' A f :=
  ⟨k.ow A s.ow, by rw [k.heap A s.ow s.na]; exact s.heap, fun e => (k.fp A e).elim s.na fun x => by have := lt_of_heap s.heap; omega⟩
theorem Ar.kp (s : Ar own w FP A f) (k : Kp own w own' w') : Ar own' w' FP A f := ⟨(k.get s.ow s.heap).1, (k.get s.ow s.heap).2, s.na⟩
end
section
variable {b : Frame} {n : Nat} {env : Nv} {ds : List Deferred} {k : List Item} {cs : List Frame} {ops : Array Oper} {j : Nat} {o : Oper}
theorem TkO.storeAll (W : WkP Try.prog E (mainLo own) b) {A : Nat} {f f0 : Nat → Int} {x y : Operand} (ho : ops[j]? = some o) (hw : wantE ops env o = some true) (hd : o.dst = none) (hop : o.op = .store 40 x y)
    (hx : env.ev x = some (ptr A 0)) (hy : env.ev y = some (.agg (arrV 19 f))) (hown : own A) (hh : w.heap[A]? = some (.cells (arrV 19 f0) 40 (0, 0)))
    (h : ∀ w', w.heap.size ≤ w'.heap.size → (∀ b, own b → b ≠ A → w'.heap[b]? = w.heap[b]?) → w'.heap[A]? = some (.cells (arrV 19 f) 40 (0, 0)) → TkO E N i (mainLo own) w' b n env ds ops (j + 1) k cs) : TkO E N i (mainLo own) w b n env ds ops j k cs := by
  refine TkO.open ho (Tk.ostoreA W.wk rfl (x := x) (y := y) (g := A) (c := arrV 19 f) (old := arrV 19 f0) ho hw hd hop (by rw [W.hP, arrV_size]; rfl) (by rw [arrV_size, arrV_size]) arrV_one hx hy hown hh fun w₁ w₂ hv e2 => ?_)
  refine h w₂ ?_ (fun b hb hn => ?_) ?_
  · have : w₂.heap.size = w₁.heap.size := by rw [e2]; simp [World.setRow]
    rw [this]; exact hv.1
  · rw [e2, setRow_other _ _ _ _ hn]; exact hv.2 b hb
  · rw [e2]; exact setRow_heap _ _ _ _ _ _ (by rw [hv.2 A hown]; exact hh)
theorem TkO.loadAt (W : WkP Try.prog E (mainLo own) b) {A m d : Nat} {f : Nat → Int} {x : Operand} (hm : m < 19) (ho : ops[j]? = some o) (hw : wantE ops env o = some true) (hdd : o.dst = some d) (hd : Nat.blt d n = true) (hop : o.op = .load 3 x)
    (hx : env.ev x = some (ptr A m)) (hown : own A) (hh : w.heap[A]? = some (.cells (arrV 19 f) 40 (0, 0)))
    (h : TkO E N i (mainLo own) w b n ((d, .int .i64 (f m)) :: env) ds ops (j + 1) k cs) : TkO E N i (mainLo own) w b n env ds ops j k cs := by
  have hc : w.cell? (adr A m) = some (.int .i64 (f m)) := by
    rw [cell_at hh, arrV_get, if_pos hm]
  refine TkO.open ho (Tk.oload W.wk rfl (x := x) (ad := adr A m) (v := .int .i64 (f m)) ho hw (by rw [hdd]; exact hd) hop (by rw [W.hP]; rfl) hx hown hc ?_)
  rw [hdd]
  exact h
end
end Go.Co.F1

namespace Go.Co.F1
open Go Go.Conc Go.Proofs
open Go.Co
open Go.ConcN (upd upd_ne upd_same)
variable {E : Geo} {N i : Nat} {l : Lo} {w : World} {own own' : Nat → Prop} {w' : World} {FP FP' : Nat → Prop}
set_option maxRecDepth 10000
structure Arg (W : World) (bs : Option Addr) (nj : Nat) (rr : Nat → Nat) (x : Nat) : Prop where
  at_ : ∀ q, q < nj → ∃ b o, bs = some ⟨b, o, none⟩ ∧ b < W.heap.size ∧ W.cell? ⟨b, o + q, none⟩ = some (.int .u8 (rr q))
  rr : ∀ q, rr q < 256
  x : x < 256
def cN (rr : Nat → Nat) (n r : Nat) : Int := (sentTo (rsn rr) r n : Int)
theorem sent_le {rs : Nat → Option Nat} {r : Nat} : ∀ n, sentTo rs r n ≤ n
  | 0 => Nat.le_refl _
  | n + 1 => by
    have := sent_le (rs := rs) (r := r) n
    unfold sentTo at this ⊢
    simp only [Go.ConcN.sumTo]
    split <;> omega
theorem cN_bd {rr : Nat → Nat} {n : Nat} (h : n ≤ 300) : ∀ r, 0 ≤ cN rr n r ∧ cN rr n r ≤ 300 := fun r => by
  have := sent_le (rs := rsn rr) (r := r) n
  unfold cN
  omega
theorem cN_step (rr : Nat → Nat) (n : Nat) : (if isR (rr n) = true then upd (cN rr n) (rr n) (cN rr n (rr n) + 1) else cN rr n) = cN rr (n + 1) := by
  have e : ∀ r, cN rr (n + 1) r = cN rr n r + (if rsn rr n = some r then 1 else 0) := fun r => by
    unfold cN sentTo
    simp only [Go.ConcN.sumTo]
    split <;> simp
  funext r
  rw [e]
  by_cases hR : 0 < rr n ∧ rr n < 19
  · rw [if_pos (show isR (rr n) = true by unfold isR; exact decide_eq_true hR)]
    unfold rsn upd
    rw [if_pos hR]
    by_cases er : r = rr n
    · subst er; rw [if_pos rfl, if_pos rfl]
    · rw [if_neg er, if_neg (fun e => er (by cases e; rfl))]; simp
  · rw [if_neg (show ¬ isR (rr n) = true by unfold isR; simp only [decide_eq_true_eq]; exact hR)]
    unfold rsn
    rw [if_neg hR, if_neg (fun e => by cases e)]; simp
end Go.Co.F1

namespace Go.Co.F1
open Go Go.Conc Go.Proofs
open Go.Co
open Go.ConcN (upd upd_ne upd_same)
variable {E : Geo} {N i : Nat} {l : Lo} {w : World} {own own' : Nat → Prop} {w' : World} {FP FP' : Nat → Prop}
set_option maxRecDepth 10000
end Go.Co.F1

namespace Go.Co.F1
open Go Go.Conc Go.Proofs
open Go.Co
open Go.ConcN (upd upd_ne upd_same)
variable {E : Geo} {N i : Nat} {l : Lo} {w : World} {own own' : Nat → Prop} {w' : World} {FP FP' : Nat → Prop}
set_option maxRecDepth 10000
def SlAt (own : Nat → Prop) (w : World) (bs : Option Addr) (nj : Nat) (rr : Nat → Nat) : Prop :=
  ∀ q, q < nj → ∃ b o, bs = some ⟨b, o, none⟩ ∧ own b ∧ b < w.heap.size ∧ w.cell? ⟨b, o + q, none⟩ = some (.int .u8 (rr q))
theorem SlAt.kp {bs : Option Addr} {nj : Nat} {rr : Nat → Nat} (h : SlAt own w bs nj rr) (k : Kp own w own' w') : SlAt own' w' bs nj rr := fun q hq => by
  obtain ⟨b, o, e, h1, h2, h3⟩ := h q hq
  exact ⟨b, o, e, k.ow b h1 h2, Nat.lt_of_lt_of_le h2 k.size, by rw [(cell_same (a := ⟨b, o + q, none⟩) (k.heap b h1 h2)).1]; exact h3⟩
theorem Arg.sl {W : World} {bs : Option Addr} {nj x : Nat} {rr : Nat → Nat} (a : Arg W bs nj rr x) (h : Old W own w) : SlAt own w bs nj rr := fun q hq => by
  obtain ⟨b, o, e, h1, h2⟩ := a.at_ q hq
  exact ⟨b, o, e, (h.heap b h1).1, Nat.lt_of_lt_of_le h1 h.size, by rw [(cell_same (a := ⟨b, o + q, none⟩) (h.heap b h1).2).1]; exact h2⟩
set_option maxHeartbeats 1000000 in
/-- TALLY. -/
theorem tallyM {W : World} {S0 : Nat} {F2 : Nat → Lo → Goroutine → World → Prop} {wk : Int} {bs : Option Addr} {nj cap : Nat} {rr : Nat → Nat} {fr : Frame} {cs : List Frame} (hf : E.FinV) (hP : E.P = Try.prog) (hfin : E.fin = AtTally W S0 F2) (hsz : S0 ≤ w.heap.size) (ho : Old W own w) (hs : SlAt own w bs nj rr) (hn : nj < 4611686018427387904)
    (hk : ∀ E2 N2 own2 w2 S2, E2.FinV → E2.P = Try.prog → E2.fin = F2 S2 → S2 ≤ w2.heap.size → Kp own w own2 w2 → Tr E2 N2 0 (mainLo own2) (Conc.G (fr.finish (.agg (arrV 19 (cnt (cN rr nj))))) cs) w2) :
    Tr E N 0 (mainLo own) (Conc.G (Frame.enter Try.prog 14 #[.int .i64 wk, .slice bs nj cap] .normal) (fr :: cs)) w := by
  refine tally14pre hf hP fun own' w' A' C H B c kp st hx hA' hne => ?_
  intro a ha hds
  have hlow : ∀ b, own b → b < w.heap.size → less own' C H B c b ∧ b ≠ A' := fun b hb hlt => by
    have h1 := (hx C (by simp)).1; have h2 := (hx H (by simp)).1; have h3 := (hx B (by simp)).1; have h4 := (hx c (by simp)).1; have h5 := (hx A' (by simp)).1
    exact ⟨⟨kp.ow b hb hlt, by omega, by omega, by omega, by omega⟩, by omega⟩
  have hlA : less own' C H B c A' := ⟨(hx A' (by simp)).2, hne⟩
  refine Pro.Lv.fold ⟨runs_G _ _, .inl ⟨rfl, rfl, ?_⟩⟩
  show E.fin _ _ _
  rw [hfin]
  refine ⟨own', A', C, H, B, c, nj, cap, fr :: cs, a, wk, bs, rr, rfl, rfl, ha, hds, ho.kp kp, st, fun x hx' => ⟨Nat.le_trans hsz (hx x (by rcases hx' with h | h | h | h <;> simp [h])).1, (hx x (by rcases hx' with h | h | h | h <;> simp [h])).2⟩, hn, fun q hq => ?_, fun E2 N2 own2 w2 FP2 f2 P2 fin2 hb hsz2 hc hfp => ?_⟩
  · obtain ⟨b, o, e, h1, h2, h3⟩ := hs q hq
    exact ⟨b, o, e, (hlow b h1 h2).1, by rw [(cell_same (a := ⟨b, o + q, none⟩) (kp.heap b h1 h2)).1]; exact h3⟩
  · refine tally14post f2 P2 (hb A' hlA).1 (by rw [(hb A' hlA).2]; exact hA') hc (fun e => hfp A' e hlA) fun own3 w3 o3 s3 h3 => hk E2 N2 own3 w3 w2.heap.size f2 P2 fin2 s3 ⟨fun b hb' hlt => ?_, ?_, fun b hb' hlt => ?_⟩
    · exact o3 b (hb b (hlow b hb' hlt).1).1
    · exact Nat.le_trans kp.size (Nat.le_trans hsz2 s3)
    · obtain ⟨q1, q2⟩ := hlow b hb' hlt
      have hb2 : b < w2.heap.size := Nat.lt_of_lt_of_le hlt (Nat.le_trans kp.size hsz2)
      rw [h3 b (hb b q1).1 hb2 (fun e => hfp b e q1) q2, (hb b q1).2]
      exact kp.heap b hb' hlt
noncomputable def c8 : Code := (Try.f8.body).getD .skip
theorem b8 : Bod Try.prog 8 9 c8 #[.tmp 2] := ⟨Try.f8, Try.func8, by decide +kernel, rfl, rfl, rfl⟩
set_option maxHeartbeats 4000000 in
/-- The document's Reason. -/
theorem reason8 {r : Nat} (hf : E.FinV) (hP : E.P = Try.prog) {fr : Frame} {cs : List Frame} (h : Tr E N i (mainLo own) (Conc.G (fr.finish (.bool (isR r))) cs) w) :
    Tr E N i (mainLo own) (Conc.G (Frame.enter Try.prog 8 #[.int .u8 r] .normal) (fr :: cs)) w := by
  have Wl : WkP Try.prog E (mainLo own) (base 8) := wk_main hf hP (by decide)
  refine Tr.enterP hP b8 (Nat.le_of_ble_eq_true rfl) ?_
  rcases (show r = 0 ∨ (0 < r ∧ r < 19) ∨ 19 ≤ r by omega) with hr | hr | hr
  · have e1 : intV .geq .u8 (r : Int) 1 = some (.bool false) := by simp only [intV]; rw [decide_eq_false (show ¬ (r : Int) ≥ 1 by omega)]
    have e2 : isR r = false := by unfold isR; exact decide_eq_false (by omega)
    rw [e2] at h
    repeat (first
      | refine TkO.pureS Wl (by rfl) (by rfl) (by rfl) (by rfl) (by exact pure_int rfl rfl rfl e1) ?_
      | refine TkO.done Wl (by rfl) ?_ | refine TkO.unwantedS Wl (by rfl) (by rfl) (by rfl) (by rfl) ?_ | refine TkO.pureS Wl (by rfl) (by rfl) (by rfl) (by rfl) (by first | exact pure_move (.inl rfl) rfl | exact pure_move (.inr rfl) rfl | exact pure_nilCheck rfl rfl | exact pure_field rfl rfl (by rfl) rfl (by decide +kernel) | exact pure_int rfl rfl rfl rfl | exact pure_not rfl rfl | exact pure_pickT rfl rfl rfl | exact pure_pickF rfl rfl rfl | exact pure_shift rfl rfl rfl rfl | exact pure_eqlNil rfl rfl rfl (by rfl) | exact pure_conv rfl rfl (by rfl) (by rfl)) ?_ | refine Tk.seq (WkP.wk Wl) ?_ | refine Tk.reg Wl ?_ | refine Tk.skip (WkP.wk Wl) ?_ | refine Tk.block (WkP.wk Wl) ?_ | refine Tk.condT (WkP.wk Wl) rfl ?_ | refine Tk.condF (WkP.wk Wl) rfl ?_ | refine Tk.exit (WkP.wk Wl) rfl ?_ | refine Tk.label (WkP.wk Wl) ?_)
    exact Tk.ret Wl.wk (TkR.leave1 Wl.wk (hP ▸ b8) rfl h)
  · have e1 : intV .geq .u8 (r : Int) 1 = some (.bool true) := by simp only [intV]; rw [decide_eq_true (show (r : Int) ≥ 1 by omega)]
    have e3 : intV .lss .u8 (r : Int) 19 = some (.bool true) := by simp only [intV]; rw [decide_eq_true (show (r : Int) < 19 by omega)]
    have e2 : isR r = true := by unfold isR; exact decide_eq_true (by omega)
    rw [e2] at h
    repeat (first
      | refine TkO.pureS Wl (by rfl) (by rfl) (by rfl) (by rfl) (by first | exact pure_int rfl rfl rfl e1 | exact pure_int rfl rfl rfl e3) ?_
      | refine TkO.done Wl (by rfl) ?_ | refine TkO.unwantedS Wl (by rfl) (by rfl) (by rfl) (by rfl) ?_ | refine TkO.pureS Wl (by rfl) (by rfl) (by rfl) (by rfl) (by first | exact pure_move (.inl rfl) rfl | exact pure_move (.inr rfl) rfl | exact pure_nilCheck rfl rfl | exact pure_field rfl rfl (by rfl) rfl (by decide +kernel) | exact pure_int rfl rfl rfl rfl | exact pure_not rfl rfl | exact pure_pickT rfl rfl rfl | exact pure_pickF rfl rfl rfl | exact pure_shift rfl rfl rfl rfl | exact pure_eqlNil rfl rfl rfl (by rfl) | exact pure_conv rfl rfl (by rfl) (by rfl)) ?_ | refine Tk.seq (WkP.wk Wl) ?_ | refine Tk.reg Wl ?_ | refine Tk.skip (WkP.wk Wl) ?_ | refine Tk.block (WkP.wk Wl) ?_ | refine Tk.condT (WkP.wk Wl) rfl ?_ | refine Tk.condF (WkP.wk Wl) rfl ?_ | refine Tk.exit (WkP.wk Wl) rfl ?_ | refine Tk.label (WkP.wk Wl) ?_)
    exact Tk.ret Wl.wk (TkR.leave1 Wl.wk (hP ▸ b8) rfl h)
  · have e1 : intV .geq .u8 (r : Int) 1 = some (.bool true) := by simp only [intV]; rw [decide_eq_true (show (r : Int) ≥ 1 by omega)]
    have e3 : intV .lss .u8 (r : Int) 19 = some (.bool false) := by simp only [intV]; rw [decide_eq_false (show ¬ (r : Int) < 19 by omega)]
    have e2 : isR r = false := by unfold isR; exact decide_eq_false (by omega)
    rw [e2] at h
    repeat (first
      | refine TkO.pureS Wl (by rfl) (by rfl) (by rfl) (by rfl) (by first | exact pure_int rfl rfl rfl e1 | exact pure_int rfl rfl rfl e3) ?_
      | refine TkO.done Wl (by rfl) ?_ | refine TkO.unwantedS Wl (by rfl) (by rfl) (by rfl) (by rfl) ?_ | refine TkO.pureS Wl (by rfl) (by rfl) (by rfl) (by rfl) (by first | exact pure_move (.inl rfl) rfl | exact pure_move (.inr rfl) rfl | exact pure_nilCheck rfl rfl | exact pure_field rfl rfl (by rfl) rfl (by decide +kernel) | exact pure_int rfl rfl rfl rfl | exact pure_not rfl rfl | exact pure_pickT rfl rfl rfl | exact pure_pickF rfl rfl rfl | exact pure_shift rfl rfl rfl rfl | exact pure_eqlNil rfl rfl rfl (by rfl) | exact pure_conv rfl rfl (by rfl) (by rfl)) ?_ | refine Tk.seq (WkP.wk Wl) ?_ | refine Tk.reg Wl ?_ | refine Tk.skip (WkP.wk Wl) ?_ | refine Tk.block (WkP.wk Wl) ?_ | refine Tk.condT (WkP.wk Wl) rfl ?_ | refine Tk.condF (WkP.wk Wl) rfl ?_ | refine Tk.exit (WkP.wk Wl) rfl ?_ | refine Tk.label (WkP.wk Wl) ?_)
    exact Tk.ret Wl.wk (TkR.leave1 Wl.wk (hP ▸ b8) rfl h)
noncomputable def c13 : Code := (Try.f13.body).getD .skip
theorem b13 : Bod Try.prog 13 15 c13 #[.tmp 2] := ⟨Try.f13, Try.func13, by decide +kernel, rfl, rfl, rfl⟩
theorem exec_boxA {P : Program} {a : Act} {o : Oper} {t : TypeId} {x : Operand} {v : Value} (ho : o.op = .box t x) (hx : a.eval x = v) (w : World) : (execOp a.eval o).run P w = .ok (.value (.pointer (some ⟨w.heap.size, 0, none⟩))) { w with heap := w.heap.push (.cells v.cells t (0, 0)) } ∧ (execOp a.eval o).events P w #[] = #[] :=
  exec_box ho hx
set_option maxHeartbeats 8000000 in
/-- The document's Sum. -/
theorem ref13 {f : Nat → Int} (hf : E.FinV) (hP : E.P = Try.prog) (hv : ∀ j, 0 ≤ f j ∧ f j < 1125899906842624) {fr : Frame} {cs : List Frame}
    (h : ∀ own' w', Kp own w own' w' → Tr E N i (mainLo own') (Conc.G (fr.finish (.int .i64 (sumF f 19))) cs) w') :
    Tr E N i (mainLo own) (Conc.G (Frame.enter Try.prog 13 #[.agg (arrV 19 f)] .normal) (fr :: cs)) w := by
  have Wl : ∀ own', WkP Try.prog E (mainLo own') (base 13) := fun own' => wk_main hf hP (by decide)
  refine Tr.enterP hP b13 (Nat.le_of_ble_eq_true rfl) ?_
  refine Tk.seq (Wl _).wk ?_
  refine Tk.reg (Wl _) ?_
  refine TkO.newM (Wl _) (d := 1) (by rfl) (by rfl) (by rfl) (by rfl) (fun r => ptr r 0) (.cells (arrV 19 f) 40 (0, 0)) (fun a ha w₁ => exec_boxA (t := 40) (x := .tmp 0) (v := .agg (arrV 19 f)) (by rfl) (ha.ev rfl) w₁) fun own1 w1 A k1 A1 A2 A3 => ?_
  have W1 := Wl own1
  (repeat (first | refine TkO.done W1 (by rfl) ?_ | refine TkO.unwantedS W1 (by rfl) (by rfl) (by rfl) (by rfl) ?_ | refine TkO.pureS W1 (by rfl) (by rfl) (by rfl) (by rfl) (by first | exact pure_move (.inl rfl) rfl | exact pure_move (.inr rfl) rfl | exact pure_nilCheck rfl rfl | exact pure_field rfl rfl (by rfl) rfl (by decide +kernel) | exact pure_int rfl rfl rfl rfl | exact pure_not rfl rfl | exact pure_pickT rfl rfl rfl | exact pure_pickF rfl rfl rfl | exact pure_shift rfl rfl rfl rfl | exact pure_eqlNil rfl rfl rfl (by rfl) | exact pure_conv rfl rfl (by rfl) (by rfl)) ?_ | refine Tk.seq (WkP.wk W1) ?_ | refine Tk.reg W1 ?_ | refine Tk.skip (WkP.wk W1) ?_ | refine Tk.block (WkP.wk W1) ?_ | refine Tk.condT (WkP.wk W1) rfl ?_ | refine Tk.condF (WkP.wk W1) rfl ?_ | refine Tk.exit (WkP.wk W1) rfl ?_ | refine Tk.label (WkP.wk W1) ?_))
  refine Tk.loop W1.wk ?_
  refine Tk.cut fun KK hKK => ?_
  have HH : ∀ m n, n + m = 19 → Tk E N i (mainLo own1) w1 (base 13) 15 [(1, ptr A 0), (3, .int .i64 (sumF f n)), (4, .int .i64 n)] [] KK (fr :: cs) := by
    intro m
    induction m with
    | zero =>
      intro n hn
      have hn : n = 19 := by omega
      subst hn
      rw [hKK]
      (repeat (first | refine TkO.done W1 (by rfl) ?_ | refine TkO.unwantedS W1 (by rfl) (by rfl) (by rfl) (by rfl) ?_ | refine TkO.pureS W1 (by rfl) (by rfl) (by rfl) (by rfl) (by first | exact pure_move (.inl rfl) rfl | exact pure_move (.inr rfl) rfl | exact pure_nilCheck rfl rfl | exact pure_field rfl rfl (by rfl) rfl (by decide +kernel) | exact pure_int rfl rfl rfl rfl | exact pure_not rfl rfl | exact pure_pickT rfl rfl rfl | exact pure_pickF rfl rfl rfl | exact pure_shift rfl rfl rfl rfl | exact pure_eqlNil rfl rfl rfl (by rfl) | exact pure_conv rfl rfl (by rfl) (by rfl)) ?_ | refine Tk.seq (WkP.wk W1) ?_ | refine Tk.reg W1 ?_ | refine Tk.skip (WkP.wk W1) ?_ | refine Tk.block (WkP.wk W1) ?_ | refine Tk.condT (WkP.wk W1) rfl ?_ | refine Tk.condF (WkP.wk W1) rfl ?_ | refine Tk.exit (WkP.wk W1) rfl ?_ | refine Tk.label (WkP.wk W1) ?_))
      exact Tk.ret W1.wk (TkR.leave1 W1.wk (hP ▸ b13) rfl (h _ _ k1))
    | succ m ihm =>
      intro n hn
      have hn19 : n < 19 := by omega
      rw [hKK]
      refine Tk.seq W1.wk ?_
      refine Tk.seq W1.wk ?_
      refine Tk.reg W1 ?_
      refine TkO.pureS W1 (by rfl) (by rfl) (by rfl) (by rfl) (by (first | exact pure_move (.inl rfl) rfl | exact pure_move (.inr rfl) rfl | exact pure_nilCheck rfl rfl | exact pure_field rfl rfl (by rfl) rfl (by decide +kernel) | exact pure_int rfl rfl rfl rfl | exact pure_not rfl rfl | exact pure_pickT rfl rfl rfl | exact pure_pickF rfl rfl rfl | exact pure_shift rfl rfl rfl rfl | exact pure_eqlNil rfl rfl rfl (by rfl) | exact pure_conv rfl rfl (by rfl) (by rfl))) ?_
      refine TkO.pureS W1 (by rfl) (by rfl) (by rfl) (by rfl) (by (first | exact pure_move (.inl rfl) rfl | exact pure_move (.inr rfl) rfl | exact pure_nilCheck rfl rfl | exact pure_field rfl rfl (by rfl) rfl (by decide +kernel) | exact pure_int rfl rfl rfl rfl | exact pure_not rfl rfl | exact pure_pickT rfl rfl rfl | exact pure_pickF rfl rfl rfl | exact pure_shift rfl rfl rfl rfl | exact pure_eqlNil rfl rfl rfl (by rfl) | exact pure_conv rfl rfl (by rfl) (by rfl))) ?_
      refine TkO.done W1 (by rfl) ?_
      refine Tk.condT W1.wk (congrArg (fun b => some (Value.bool b)) (decide_eq_true (show (n : Int) < 19 by omega))) ?_
      have hb := sumF_bd hv n
      have hfn := hv n
      have hadd : IntKind.i64.wrap (sumF f n + f n) = sumF f (n + 1) := by
        simp only [sumF]
        rw [IntKind.wrap_i64]
        have : (n : Int) * 1125899906842624 ≤ 19 * 1125899906842624 := by
          have : (n : Int) ≤ 19 := by omega
          exact Int.mul_le_mul_of_nonneg_right this (by decide)
        omega
      (repeat (first | refine TkO.done W1 (by rfl) ?_ | refine TkO.unwantedS W1 (by rfl) (by rfl) (by rfl) (by rfl) ?_ | refine TkO.pureS W1 (by rfl) (by rfl) (by rfl) (by rfl) (by first | exact pure_move (.inl rfl) rfl | exact pure_move (.inr rfl) rfl | exact pure_nilCheck rfl rfl | exact pure_field rfl rfl (by rfl) rfl (by decide +kernel) | exact pure_int rfl rfl rfl rfl | exact pure_not rfl rfl | exact pure_pickT rfl rfl rfl | exact pure_pickF rfl rfl rfl | exact pure_shift rfl rfl rfl rfl | exact pure_eqlNil rfl rfl rfl (by rfl) | exact pure_conv rfl rfl (by rfl) (by rfl)) ?_ | refine Tk.seq (WkP.wk W1) ?_ | refine Tk.reg W1 ?_ | refine Tk.skip (WkP.wk W1) ?_ | refine Tk.block (WkP.wk W1) ?_ | refine Tk.condT (WkP.wk W1) rfl ?_ | refine Tk.condF (WkP.wk W1) rfl ?_ | refine Tk.exit (WkP.wk W1) rfl ?_ | refine Tk.label (WkP.wk W1) ?_))
      refine TkO.pureS W1 (by rfl) (by rfl) (by rfl) (by rfl) (pure_indexA (m := 19) (e := 3) (b := A) (off := 0) (k := .i64) (j := (n : Int)) (by rfl) (by rfl) (by decide +kernel) (by rfl) (by rfl) (by omega)) ?_
      rw [show (0 + ((n : Int)).toNat) = n by omega]
      refine TkO.loadAt W1 (A := A) (m := n) hn19 (by rfl) (by rfl) (by rfl) (by rfl) (by rfl) (by rfl) A2 A3 ?_
      refine TkO.pureS W1 (by rfl) (by rfl) (by rfl) (by rfl) (pure_addE rfl rfl rfl hadd) ?_
      (repeat (first | refine TkO.done W1 (by rfl) ?_ | refine TkO.unwantedS W1 (by rfl) (by rfl) (by rfl) (by rfl) ?_ | refine TkO.pureS W1 (by rfl) (by rfl) (by rfl) (by rfl) (by first | exact pure_move (.inl rfl) rfl | exact pure_move (.inr rfl) rfl | exact pure_nilCheck rfl rfl | exact pure_field rfl rfl (by rfl) rfl (by decide +kernel) | exact pure_int rfl rfl rfl rfl | exact pure_not rfl rfl | exact pure_pickT rfl rfl rfl | exact pure_pickF rfl rfl rfl | exact pure_shift rfl rfl rfl rfl | exact pure_eqlNil rfl rfl rfl (by rfl) | exact pure_conv rfl rfl (by rfl) (by rfl)) ?_ | refine Tk.seq (WkP.wk W1) ?_ | refine Tk.reg W1 ?_ | refine Tk.skip (WkP.wk W1) ?_ | refine Tk.block (WkP.wk W1) ?_ | refine Tk.condT (WkP.wk W1) rfl ?_ | refine Tk.condF (WkP.wk W1) rfl ?_ | refine Tk.exit (WkP.wk W1) rfl ?_ | refine Tk.label (WkP.wk W1) ?_))
      refine Tk.inBlock W1.wk ?_
      repeat (first
        | refine TkO.pureS W1 (by rfl) (by rfl) (by rfl) (by rfl) (by exact pure_addE rfl rfl rfl (wrap64 (by omega))) ?_
        | refine TkO.done W1 (by rfl) ?_ | refine TkO.unwantedS W1 (by rfl) (by rfl) (by rfl) (by rfl) ?_ | refine TkO.pureS W1 (by rfl) (by rfl) (by rfl) (by rfl) (by first | exact pure_move (.inl rfl) rfl | exact pure_move (.inr rfl) rfl | exact pure_nilCheck rfl rfl | exact pure_field rfl rfl (by rfl) rfl (by decide +kernel) | exact pure_int rfl rfl rfl rfl | exact pure_not rfl rfl | exact pure_pickT rfl rfl rfl | exact pure_pickF rfl rfl rfl | exact pure_shift rfl rfl rfl rfl | exact pure_eqlNil rfl rfl rfl (by rfl) | exact pure_conv rfl rfl (by rfl) (by rfl)) ?_ | refine Tk.seq (WkP.wk W1) ?_ | refine Tk.reg W1 ?_ | refine Tk.skip (WkP.wk W1) ?_ | refine Tk.block (WkP.wk W1) ?_ | refine Tk.condT (WkP.wk W1) rfl ?_ | refine Tk.condF (WkP.wk W1) rfl ?_ | refine Tk.exit (WkP.wk W1) rfl ?_ | refine Tk.label (WkP.wk W1) ?_)
      refine Tk.inLoop W1.wk ?_
      rw [← hKK]
      exact Tk.sub (ihm (n + 1) (by omega)) (AllGet.sub ⟨rfl, rfl, rfl, trivial⟩)
  exact Tk.sub (HH 19 0 rfl) (AllGet.sub ⟨rfl, rfl, rfl, trivial⟩)
end Go.Co.F1

namespace Go.Co.F1
open Go Go.Conc Go.Proofs
open Go.Co
open Go.ConcN (upd upd_ne upd_same)
variable {E : Geo} {N i : Nat} {l : Lo} {w : World} {own own' : Nat → Prop} {w' : World} {FP FP' : Nat → Prop}
set_option maxRecDepth 10000
noncomputable def c9 : Code := (Try.f9.body).getD .skip
theorem b9 : Bod Try.prog 9 25 c9 #[.cell 2 40] := ⟨Try.f9, Try.func9, by decide +kernel, rfl, rfl, rfl⟩
theorem Kp.ne {w w1 w2 : World} {own own1 : Nat → Prop} {A : Nat} (k : Kp own w own1 w1) (hA : w.heap.size ≤ A) (hs : w1.heap.size ≤ w2.heap.size) (h : ∀ b, own1 b → b ≠ A → w2.heap[b]? = w1.heap[b]?) : Kp own w own1 w2 :=
  ⟨k.ow, Nat.le_trans k.size hs, fun b hb hlt => (h b (k.ow b hb hlt) (by omega)).trans (k.heap b hb hlt)⟩
section
variable {b : Frame} {n : Nat} {env : Nv} {ds : List Deferred} {k : List Item} {cs : List Frame} {ops : Array Oper} {j : Nat} {o : Oper}
theorem TkO.loadR (W : WkP Try.prog E (mainLo own) b) {m d p nj : Nat} {bs : Option Addr} {rr : Nat → Nat} {x : Operand} (sl : SlAt own w bs nj rr) (hm : m < nj) (ho : ops[j]? = some o) (hw : wantE ops env o = some true) (hdd : o.dst = some d) (hd : Nat.blt d n = true) (hop : o.op = .load 5 x)
    (hx : env.ev x = some (.pointer (some ⟨p, (bs.getD ⟨0, 0, none⟩).off + m, none⟩))) (hp : ∀ a, bs = some a → p = a.block)
    (h : TkO E N i (mainLo own) w b n ((d, .int .u8 (rr m)) :: env) ds ops (j + 1) k cs) : TkO E N i (mainLo own) w b n env ds ops j k cs := by
  obtain ⟨rb, ro, hbs, h1, _, h3⟩ := sl m hm
  have hp' : p = rb := hp _ hbs
  rw [hp'] at hx
  subst hbs
  refine TkO.open ho (Tk.oload W.wk rfl (x := x) (ad := adr rb (ro + m)) (v := .int .u8 (rr m)) ho hw (by rw [hdd]; exact hd) hop (by rw [W.hP]; rfl) hx h1 h3 ?_)
  rw [hdd]
  exact h
theorem pure_indexS {P : Program} {env : Nv} {o : Oper} {t e : TypeId} {x y : Operand} {bs : Option Addr} {len cap : Nat} {k : IntKind} {m : Nat} {own : Nat → Prop} {w : World} {rr : Nat → Nat} (sl : SlAt own w bs len rr) (hm : m < len) (ho : o.op = .indexAddr t x y) (hu : P.underlying t = some (.slice e)) (hz : P.cellsOf e = 1) (hx : env.ev x = some (.slice bs len cap)) (hy : env.ev y = some (.int k (m : Int))) :
    PureOp P env o (.pointer (some ⟨(bs.getD ⟨0, 0, none⟩).block, (bs.getD ⟨0, 0, none⟩).off + m, none⟩)) := by
  obtain ⟨rb, ro, rfl, _⟩ := sl m hm
  have := pure_index (P := P) ho hu hz hx hy ⟨by omega, by omega⟩
  rwa [show ((m : Int)).toNat = m by omega] at this
end
set_option maxHeartbeats 16000000 in
/-- The document's Tally. -/
theorem ref9 {bs : Option Addr} {nj cap : Nat} {rr : Nat → Nat} (hf : E.FinV) (hP : E.P = Try.prog) (sl : SlAt own w bs nj rr) (hn : nj ≤ 300) (_hr : ∀ q, rr q < 256) {fr : Frame} {cs : List Frame}
    (h : ∀ own' w', Kp own w own' w' → Tr E N i (mainLo own') (Conc.G (fr.finish (.agg (arrV 19 (cN rr nj)))) cs) w') :
    Tr E N i (mainLo own) (Conc.G (Frame.enter Try.prog 9 #[.slice bs nj cap] .normal) (fr :: cs)) w := by
  have Wl : ∀ own', WkP Try.prog E (mainLo own') (base 9) := fun own' => wk_main hf hP (by decide)
  refine Tr.enterP hP b9 (Nat.le_of_ble_eq_true rfl) ?_
  refine Tk.seq (Wl _).wk ?_
  refine Tk.reg (Wl _) ?_
  refine TkO.newArr (Wl _) (d := 2) (by rfl) (by rfl) (by rfl) (by rfl) (by rfl) fun own1 w1 R k1 R1 R2 R3 => ?_
  refine TkO.done (Wl _) (by rfl) ?_
  refine Tk.seq (Wl _).wk ?_
  refine Tk.reg (Wl _) ?_
  refine TkO.newArr (Wl _) (d := 3) (by rfl) (by rfl) (by rfl) (by rfl) (by rfl) fun own2 w2 A k2 A1 A2 A3 => ?_
  have k02 := k1.trans k2
  have R4 := k2.get R2 R3
  have lR := lt_of_heap R3
  have nAR : A ≠ R := by omega
  have hA0 : w.heap.size ≤ A := Nat.le_trans k1.size A1
  have W2 := Wl own2
  (repeat (first | refine TkO.done W2 (by rfl) ?_ | refine TkO.unwantedS W2 (by rfl) (by rfl) (by rfl) (by rfl) ?_ | refine TkO.pureS W2 (by rfl) (by rfl) (by rfl) (by rfl) (by first | exact pure_move (.inl rfl) rfl | exact pure_move (.inr rfl) rfl | exact pure_nilCheck rfl rfl | exact pure_field rfl rfl (by rfl) rfl (by decide +kernel) | exact pure_int rfl rfl rfl rfl | exact pure_not rfl rfl | exact pure_pickT rfl rfl rfl | exact pure_pickF rfl rfl rfl | exact pure_shift rfl rfl rfl rfl | exact pure_eqlNil rfl rfl rfl (by rfl) | exact pure_conv rfl rfl (by rfl) (by rfl)) ?_ | refine Tk.seq (WkP.wk W2) ?_ | refine Tk.reg W2 ?_ | refine Tk.skip (WkP.wk W2) ?_ | refine Tk.block (WkP.wk W2) ?_ | refine Tk.condT (WkP.wk W2) rfl ?_ | refine Tk.condF (WkP.wk W2) rfl ?_ | refine Tk.exit (WkP.wk W2) rfl ?_ | refine Tk.label (WkP.wk W2) ?_))
  refine Tk.loop W2.wk ?_
  refine Tk.cut fun KK hKK => ?_
  have HH : ∀ (m n : Nat) w2, n + m = nj → Kp own w own2 w2 → w2.heap[R]? = some (.cells (arrV 19 fun _ => 0) 40 (0, 0)) → w2.heap[A]? = some (.cells (arrV 19 (cN rr n)) 40 (0, 0)) →
      Tk E N i (mainLo own2) w2 (base 9) 25 [(0, .slice bs nj cap), (2, ptr R 0), (3, ptr A 0), (4, .int .i64 n)] [] KK (fr :: cs) := by
    intro m
    induction m with
    | zero =>
      intro n w2 hn2 kp hR hA
      have hn2 : n = nj := by omega
      subst hn2
      rw [hKK]
      refine Tk.seq W2.wk ?_
      refine Tk.seq W2.wk ?_
      refine Tk.reg W2 ?_
      refine TkO.pureS W2 (by rfl) (by rfl) (by rfl) (by rfl) (by (first | exact pure_move (.inl rfl) rfl | exact pure_move (.inr rfl) rfl | exact pure_nilCheck rfl rfl | exact pure_field rfl rfl (by rfl) rfl (by decide +kernel) | exact pure_int rfl rfl rfl rfl | exact pure_not rfl rfl | exact pure_pickT rfl rfl rfl | exact pure_pickF rfl rfl rfl | exact pure_shift rfl rfl rfl rfl | exact pure_eqlNil rfl rfl rfl (by rfl) | exact pure_conv rfl rfl (by rfl) (by rfl))) ?_
      refine TkO.pureS W2 (by rfl) (by rfl) (by rfl) (by rfl) (by (first | exact pure_move (.inl rfl) rfl | exact pure_move (.inr rfl) rfl | exact pure_nilCheck rfl rfl | exact pure_field rfl rfl (by rfl) rfl (by decide +kernel) | exact pure_int rfl rfl rfl rfl | exact pure_not rfl rfl | exact pure_pickT rfl rfl rfl | exact pure_pickF rfl rfl rfl | exact pure_shift rfl rfl rfl rfl | exact pure_eqlNil rfl rfl rfl (by rfl) | exact pure_conv rfl rfl (by rfl) (by rfl))) ?_
      refine TkO.pureS W2 (by rfl) (by rfl) (by rfl) (by rfl) (pure_len rfl rfl (by rfl)) ?_
      refine TkO.pureS W2 (by rfl) (by rfl) (by rfl) (by rfl) (by (first | exact pure_move (.inl rfl) rfl | exact pure_move (.inr rfl) rfl | exact pure_nilCheck rfl rfl | exact pure_field rfl rfl (by rfl) rfl (by decide +kernel) | exact pure_int rfl rfl rfl rfl | exact pure_not rfl rfl | exact pure_pickT rfl rfl rfl | exact pure_pickF rfl rfl rfl | exact pure_shift rfl rfl rfl rfl | exact pure_eqlNil rfl rfl rfl (by rfl) | exact pure_conv rfl rfl (by rfl) (by rfl))) ?_
      refine TkO.done W2 (by rfl) ?_
      refine Tk.condF W2.wk (congrArg (fun b => some (Value.bool b)) (decide_eq_false (show ¬ (n : Int) < (n : Int) by omega))) ?_
      refine Tk.exit W2.wk rfl ?_
      refine Tk.seq W2.wk ?_
      refine Tk.reg W2 ?_
      refine TkO.open (by rfl) (Tk.oloadA W2.wk rfl (x := .tmp 3) (g := A) (d := 24) (by rfl) (by rfl) (by rfl) (by rfl) (by rfl) (by rw [hP]; rfl) (by rw [hP, arrV_size]; rfl) (by rfl) A2 hA ?_)
      show TkO _ _ _ _ _ _ _ _ _ _ 1 _ _
      refine TkO.storeAll W2 (A := R) (f := cN rr n) (by rfl) (by rfl) (by rfl) (by rfl) (by rfl) (by rfl) R4.1 hR fun w3 s3 h3 R5 => ?_
      have kp3 := kp.ne R1 s3 h3
      refine TkO.done W2 (by rfl) ?_
      exact Tk.ret W2.wk (TkR.leaveC W2.wk (hP ▸ b9) rfl (by rw [hP]; rfl) (by rw [hP, arrV_size]; rfl) (by rfl) R4.1 R5 fun w4 hv => h own2 w4 (kp3.trans (Kp.view hv)))
    | succ m ihm =>
      intro n w2 hn2 kp hR hA
      have hlt : n < nj := by omega
      have sl2 := sl.kp kp
      rw [hKK]
      refine Tk.seq W2.wk ?_
      refine Tk.seq W2.wk ?_
      refine Tk.reg W2 ?_
      refine TkO.pureS W2 (by rfl) (by rfl) (by rfl) (by rfl) (by (first | exact pure_move (.inl rfl) rfl | exact pure_move (.inr rfl) rfl | exact pure_nilCheck rfl rfl | exact pure_field rfl rfl (by rfl) rfl (by decide +kernel) | exact pure_int rfl rfl rfl rfl | exact pure_not rfl rfl | exact pure_pickT rfl rfl rfl | exact pure_pickF rfl rfl rfl | exact pure_shift rfl rfl rfl rfl | exact pure_eqlNil rfl rfl rfl (by rfl) | exact pure_conv rfl rfl (by rfl) (by rfl))) ?_
      refine TkO.pureS W2 (by rfl) (by rfl) (by rfl) (by rfl) (by (first | exact pure_move (.inl rfl) rfl | exact pure_move (.inr rfl) rfl | exact pure_nilCheck rfl rfl | exact pure_field rfl rfl (by rfl) rfl (by decide +kernel) | exact pure_int rfl rfl rfl rfl | exact pure_not rfl rfl | exact pure_pickT rfl rfl rfl | exact pure_pickF rfl rfl rfl | exact pure_shift rfl rfl rfl rfl | exact pure_eqlNil rfl rfl rfl (by rfl) | exact pure_conv rfl rfl (by rfl) (by rfl))) ?_
      refine TkO.pureS W2 (by rfl) (by rfl) (by rfl) (by rfl) (pure_len rfl rfl (by rfl)) ?_
      refine TkO.pureS W2 (by rfl) (by rfl) (by rfl) (by rfl) (by (first | exact pure_move (.inl rfl) rfl | exact pure_move (.inr rfl) rfl | exact pure_nilCheck rfl rfl | exact pure_field rfl rfl (by rfl) rfl (by decide +kernel) | exact pure_int rfl rfl rfl rfl | exact pure_not rfl rfl | exact pure_pickT rfl rfl rfl | exact pure_pickF rfl rfl rfl | exact pure_shift rfl rfl rfl rfl | exact pure_eqlNil rfl rfl rfl (by rfl) | exact pure_conv rfl rfl (by rfl) (by rfl))) ?_
      refine TkO.done W2 (by rfl) ?_
      refine Tk.condT W2.wk (congrArg (fun b => some (Value.bool b)) (decide_eq_true (show (n : Int) < (nj : Int) by omega))) ?_
      (repeat (first | refine TkO.done W2 (by rfl) ?_ | refine TkO.unwantedS W2 (by rfl) (by rfl) (by rfl) (by rfl) ?_ | refine TkO.pureS W2 (by rfl) (by rfl) (by rfl) (by rfl) (by first | exact pure_move (.inl rfl) rfl | exact pure_move (.inr rfl) rfl | exact pure_nilCheck rfl rfl | exact pure_field rfl rfl (by rfl) rfl (by decide +kernel) | exact pure_int rfl rfl rfl rfl | exact pure_not rfl rfl | exact pure_pickT rfl rfl rfl | exact pure_pickF rfl rfl rfl | exact pure_shift rfl rfl rfl rfl | exact pure_eqlNil rfl rfl rfl (by rfl) | exact pure_conv rfl rfl (by rfl) (by rfl)) ?_ | refine Tk.seq (WkP.wk W2) ?_ | refine Tk.reg W2 ?_ | refine Tk.skip (WkP.wk W2) ?_ | refine Tk.block (WkP.wk W2) ?_ | refine Tk.condT (WkP.wk W2) rfl ?_ | refine Tk.condF (WkP.wk W2) rfl ?_ | refine Tk.exit (WkP.wk W2) rfl ?_ | refine Tk.label (WkP.wk W2) ?_))
      refine TkO.pureS W2 (by rfl) (by rfl) (by rfl) (by rfl) (pure_indexS sl2 hlt rfl (by rfl) (by decide +kernel) rfl rfl) ?_
      refine TkO.loadR W2 sl2 hlt (by rfl) (by rfl) (by rfl) (by rfl) (by rfl) (by rfl) (fun a e => by rw [e]; rfl) ?_
      refine TkO.call W2 (by rfl) (by rfl) (by rfl) (by rfl) b8 rfl fun fr1 hk1 => ?_
      refine reason8 hf hP (hk1 _ _ _ (TkO.lay (rfl : Nv.put _ _ _ = (_, _) :: _) ?_))
      have hst := cN_step rr n
      have hbd := (cN_bd (show n ≤ 300 by omega) (rr := rr) (rr n))
      cases hR' : isR (rr n) with
      | false =>
        rw [if_neg (by rw [hR']; exact fun e => by cases e)] at hst
        (repeat (first | refine TkO.done W2 (by rfl) ?_ | refine TkO.unwantedS W2 (by rfl) (by rfl) (by rfl) (by rfl) ?_ | refine TkO.pureS W2 (by rfl) (by rfl) (by rfl) (by rfl) (by first | exact pure_move (.inl rfl) rfl | exact pure_move (.inr rfl) rfl | exact pure_nilCheck rfl rfl | exact pure_field rfl rfl (by rfl) rfl (by decide +kernel) | exact pure_int rfl rfl rfl rfl | exact pure_not rfl rfl | exact pure_pickT rfl rfl rfl | exact pure_pickF rfl rfl rfl | exact pure_shift rfl rfl rfl rfl | exact pure_eqlNil rfl rfl rfl (by rfl) | exact pure_conv rfl rfl (by rfl) (by rfl)) ?_ | refine Tk.seq (WkP.wk W2) ?_ | refine Tk.reg W2 ?_ | refine Tk.skip (WkP.wk W2) ?_ | refine Tk.block (WkP.wk W2) ?_ | refine Tk.condT (WkP.wk W2) rfl ?_ | refine Tk.condF (WkP.wk W2) rfl ?_ | refine Tk.exit (WkP.wk W2) rfl ?_ | refine Tk.label (WkP.wk W2) ?_))
        refine Tk.inBlock W2.wk ?_
        repeat (first
          | refine TkO.pureS W2 (by rfl) (by rfl) (by rfl) (by rfl) (by exact pure_addE rfl rfl rfl (wrap64 (by omega))) ?_
          | refine TkO.done W2 (by rfl) ?_ | refine TkO.unwantedS W2 (by rfl) (by rfl) (by rfl) (by rfl) ?_ | refine TkO.pureS W2 (by rfl) (by rfl) (by rfl) (by rfl) (by first | exact pure_move (.inl rfl) rfl | exact pure_move (.inr rfl) rfl | exact pure_nilCheck rfl rfl | exact pure_field rfl rfl (by rfl) rfl (by decide +kernel) | exact pure_int rfl rfl rfl rfl | exact pure_not rfl rfl | exact pure_pickT rfl rfl rfl | exact pure_pickF rfl rfl rfl | exact pure_shift rfl rfl rfl rfl | exact pure_eqlNil rfl rfl rfl (by rfl) | exact pure_conv rfl rfl (by rfl) (by rfl)) ?_ | refine Tk.seq (WkP.wk W2) ?_ | refine Tk.reg W2 ?_ | refine Tk.skip (WkP.wk W2) ?_ | refine Tk.block (WkP.wk W2) ?_ | refine Tk.condT (WkP.wk W2) rfl ?_ | refine Tk.condF (WkP.wk W2) rfl ?_ | refine Tk.exit (WkP.wk W2) rfl ?_ | refine Tk.label (WkP.wk W2) ?_)
        refine Tk.inLoop W2.wk ?_
        rw [← hKK]
        exact Tk.sub (ihm (n + 1) w2 (by omega) kp hR (by rw [← hst]; exact hA)) (AllGet.sub ⟨rfl, rfl, rfl, rfl, trivial⟩)
      | true =>
        rw [if_pos hR'] at hst
        have hadd : IntKind.i64.wrap (cN rr n (rr n) + 1) = cN rr n (rr n) + 1 := by rw [IntKind.wrap_i64]; omega
        have hr19 : rr n < 19 := by
          unfold isR at hR'
          exact (of_decide_eq_true hR').2
        (repeat (first | refine TkO.done W2 (by rfl) ?_ | refine TkO.unwantedS W2 (by rfl) (by rfl) (by rfl) (by rfl) ?_ | refine TkO.pureS W2 (by rfl) (by rfl) (by rfl) (by rfl) (by first | exact pure_move (.inl rfl) rfl | exact pure_move (.inr rfl) rfl | exact pure_nilCheck rfl rfl | exact pure_field rfl rfl (by rfl) rfl (by decide +kernel) | exact pure_int rfl rfl rfl rfl | exact pure_not rfl rfl | exact pure_pickT rfl rfl rfl | exact pure_pickF rfl rfl rfl | exact pure_shift rfl rfl rfl rfl | exact pure_eqlNil rfl rfl rfl (by rfl) | exact pure_conv rfl rfl (by rfl) (by rfl)) ?_ | refine Tk.seq (WkP.wk W2) ?_ | refine Tk.reg W2 ?_ | refine Tk.skip (WkP.wk W2) ?_ | refine Tk.block (WkP.wk W2) ?_ | refine Tk.condT (WkP.wk W2) rfl ?_ | refine Tk.condF (WkP.wk W2) rfl ?_ | refine Tk.exit (WkP.wk W2) rfl ?_ | refine Tk.label (WkP.wk W2) ?_))
        refine TkO.pureS W2 (by rfl) (by rfl) (by rfl) (by rfl) (pure_indexS sl2 hlt rfl (by rfl) (by decide +kernel) rfl rfl) ?_
        refine TkO.loadR W2 sl2 hlt (by rfl) (by rfl) (by rfl) (by rfl) (by rfl) (by rfl) (fun a e => by rw [e]; rfl) ?_
        refine TkO.pureS W2 (by rfl) (by rfl) (by rfl) (by rfl) (pure_indexA (m := 19) (e := 3) (b := A) (off := 0) (k := .u8) (j := (rr n : Int)) (by rfl) (by rfl) (by decide +kernel) (by rfl) (by rfl) (by omega)) ?_
        rw [show (0 + ((rr n : Int)).toNat) = rr n by omega]
        refine TkO.loadAt W2 (A := A) (m := rr n) hr19 (by rfl) (by rfl) (by rfl) (by rfl) (by rfl) (by rfl) A2 hA ?_
        refine TkO.pureS W2 (by rfl) (by rfl) (by rfl) (by rfl) (pure_addE rfl rfl rfl hadd) ?_
        refine TkO.pureS W2 (by rfl) (by rfl) (by rfl) (by rfl) (pure_indexA (m := 19) (e := 3) (b := A) (off := 0) (k := .u8) (j := (rr n : Int)) (by rfl) (by rfl) (by decide +kernel) (by rfl) (by rfl) (by omega)) ?_
        rw [show (0 + ((rr n : Int)).toNat) = rr n by omega]
        refine TkO.storeAt W2 (A := A) (m := rr n) (v := cN rr n (rr n) + 1) hr19 (by rfl) (by rfl) (by rfl) (by rfl) (by rfl) (by rfl) A2 hA fun w3 s3 h3 A5 => ?_
        (repeat (first | refine TkO.done W2 (by rfl) ?_ | refine TkO.unwantedS W2 (by rfl) (by rfl) (by rfl) (by rfl) ?_ | refine TkO.pureS W2 (by rfl) (by rfl) (by rfl) (by rfl) (by first | exact pure_move (.inl rfl) rfl | exact pure_move (.inr rfl) rfl | exact pure_nilCheck rfl rfl | exact pure_field rfl rfl (by rfl) rfl (by decide +kernel) | exact pure_int rfl rfl rfl rfl | exact pure_not rfl rfl | exact pure_pickT rfl rfl rfl | exact pure_pickF rfl rfl rfl | exact pure_shift rfl rfl rfl rfl | exact pure_eqlNil rfl rfl rfl (by rfl) | exact pure_conv rfl rfl (by rfl) (by rfl)) ?_ | refine Tk.seq (WkP.wk W2) ?_ | refine Tk.reg W2 ?_ | refine Tk.skip (WkP.wk W2) ?_ | refine Tk.block (WkP.wk W2) ?_ | refine Tk.condT (WkP.wk W2) rfl ?_ | refine Tk.condF (WkP.wk W2) rfl ?_ | refine Tk.exit (WkP.wk W2) rfl ?_ | refine Tk.label (WkP.wk W2) ?_))
        refine Tk.inBlock W2.wk ?_
        repeat (first
          | refine TkO.pureS W2 (by rfl) (by rfl) (by rfl) (by rfl) (by exact pure_addE rfl rfl rfl (wrap64 (by omega))) ?_
          | refine TkO.done W2 (by rfl) ?_ | refine TkO.unwantedS W2 (by rfl) (by rfl) (by rfl) (by rfl) ?_ | refine TkO.pureS W2 (by rfl) (by rfl) (by rfl) (by rfl) (by first | exact pure_move (.inl rfl) rfl | exact pure_move (.inr rfl) rfl | exact pure_nilCheck rfl rfl | exact pure_field rfl rfl (by rfl) rfl (by decide +kernel) | exact pure_int rfl rfl rfl rfl | exact pure_not rfl rfl | exact pure_pickT rfl rfl rfl | exact pure_pickF rfl rfl rfl | exact pure_shift rfl rfl rfl rfl | exact pure_eqlNil rfl rfl rfl (by rfl) | exact pure_conv rfl rfl (by rfl) (by rfl)) ?_ | refine Tk.seq (WkP.wk W2) ?_ | refine Tk.reg W2 ?_ | refine Tk.skip (WkP.wk W2) ?_ | refine Tk.block (WkP.wk W2) ?_ | refine Tk.condT (WkP.wk W2) rfl ?_ | refine Tk.condF (WkP.wk W2) rfl ?_ | refine Tk.exit (WkP.wk W2) rfl ?_ | refine Tk.label (WkP.wk W2) ?_)
        refine Tk.inLoop W2.wk ?_
        rw [← hKK]
        exact Tk.sub (ihm (n + 1) w3 (by omega) (kp.ne hA0 s3 h3) (by rw [h3 R R4.1 (Ne.symm nAR)]; exact hR) (by rw [← hst]; exact A5)) (AllGet.sub ⟨rfl, rfl, rfl, rfl, trivial⟩)
  exact Tk.sub (HH nj 0 w2 (by omega) k02 R4.2 (by rw [A3]; congr 2)) (AllGet.sub ⟨rfl, rfl, rfl, rfl, trivial⟩)
end Go.Co.F1

namespace Go.Co.F1
open Go Go.Conc Go.Proofs
open Go.Co
open Go.ConcN (upd upd_ne upd_same)
variable {E : Geo} {N i : Nat} {l : Lo} {w : World} {own own' : Nat → Prop} {w' : World} {FP FP' : Nat → Prop}
set_option maxRecDepth 10000
def upB (L : Array Bool) (j : Nat) : Bool := L[j]? == some true
theorem upB_iff {L : Array Bool} {j : Nat} : upB L j = true ↔ Up L j := by unfold upB Up; simp
theorem upB_yes {L : Array Bool} {j : Nat} (h : Up L j) : upB L j = true := upB_iff.2 h
theorem upB_no {L : Array Bool} {j : Nat} (h : ¬ Up L j) : upB L j = false := by
  cases e : upB L j with
  | false => rfl
  | true => exact absurd (upB_iff.1 e) h
theorem upB_ne {L : Array Bool} {j m : Nat} (h : m ≠ j) : upB (L.setIfInBounds j true) m = upB L m := by
  unfold upB
  rw [Array.getElem?_setIfInBounds_ne (Ne.symm h)]
theorem upB_eq {L : Array Bool} {j : Nat} (h : j < L.size) : upB (L.setIfInBounds j true) j = true := upB_iff.2 (up_eq h)
def lft : List Nat → Array Bool → Nat
  | [], _ => 0
  | j :: js, L => (if upB L j = true then 0 else 1) + lft js L
theorem lft_ne {j : Nat} {L : Array Bool} : ∀ {js : List Nat}, js.contains j = false → lft js (L.setIfInBounds j true) = lft js L
  | [], _ => rfl
  | m :: js, h => by
    have h1 : m ≠ j := fun e => by subst e; simp at h
    have h2 : js.contains j = false := by
      rw [← Bool.not_eq_true] at h ⊢
      exact fun e => h (by simp at e; simp [e])
    simp only [lft]
    rw [upB_ne h1, lft_ne h2]
theorem lft_eq {j : Nat} {L : Array Bool} (hj : j < L.size) (hu : ¬ Up L j) : ∀ {js : List Nat}, js.Nodup → js.contains j = true → lft js L = lft js (L.setIfInBounds j true) + 1
  | [], _, h => by simp at h
  | m :: js, hn, h => by
    obtain ⟨h1, h2⟩ := List.nodup_cons.1 hn
    simp only [lft]
    by_cases e : m = j
    · subst e
      rw [upB_eq hj, upB_no hu, lft_ne (by rw [← Bool.not_eq_true]; simpa using h1)]
      simp; omega
    · rw [upB_ne e, lft_eq hj hu h2 (by simp at h; simpa using h.resolve_left fun x => e x.symm)]
      omega
def It (W : World) (k0 : Nat) (js : List Nat) (val : (Nat → Nat) → Nat → Value) (bs : List Nat) (M : (Nat → Nat) → Array Bool → (Nat → Prop) → World → (Nat → Prop) → Prop) (ops : Array Oper) (E : Geo) (L : Array Bool) (l : Lo) (w : World) (env : Nv) : Prop :=
  ∃ p own S0 FP, l = mainLo own ∧ E.FinV ∧ E.P = Try.prog ∧ E.fin = Fins W (k0 + lft js L) S0 ∧ S0 ≤ w.heap.size ∧ Facts ops (val p) bs L env ∧ Old W own w ∧ M p L own w FP
section
variable {W : World} {k0 : Nat} {js : List Nat} {val : (Nat → Nat) → Nat → Value} {bs : List Nat} {M : (Nat → Nat) → Array Bool → (Nat → Prop) → World → (Nat → Prop) → Prop} {ops : Array Oper} {L : Array Bool} {env env' : Nv} {S0 j d : Nat} {p : Nat → Nat}
theorem It.kp (hj : js.contains j = false) (hf : E.FinV) (hP : E.P = Try.prog) (hfin : E.fin = Fins W (k0 + lft js L) S0) (hsz : S0 ≤ w.heap.size) (ho : Old W own w) (k : Kp own w own' w') (F : Facts ops (val p) bs (L.setIfInBounds j true) env') (hM : M p (L.setIfInBounds j true) own' w' FP') :
    It W k0 js val bs M ops E (L.setIfInBounds j true) (mainLo own') w' env' :=
  ⟨p, own', S0, FP', rfl, hf, hP, by rw [lft_ne hj]; exact hfin, Nat.le_trans hsz k.size, F, ho.kp k, hM⟩
theorem It.kf (hj : js.contains j = false) (hf : E.FinV) (hP : E.P = Try.prog) (hfin : E.fin = Fins W (k0 + lft js L) S0) (hsz : S0 ≤ w.heap.size) (ho : Old W own w) (hfp : ∀ b, FP b → W.heap.size ≤ b) (k : Kf own w FP own' w' FP') (F : Facts ops (val p) bs (L.setIfInBounds j true) env') (hM : M p (L.setIfInBounds j true) own' w' FP') :
    It W k0 js val bs M ops E (L.setIfInBounds j true) (mainLo own') w' env' :=
  ⟨p, own', S0, FP', rfl, hf, hP, by rw [lft_ne hj]; exact hfin, Nat.le_trans hsz k.size, F, (ho.kf k hfp).1, hM⟩
theorem It.next {E2 : Geo} {S2 : Nat} {own2 : Nat → Prop} {w2 : World} (_hlen : j < L.size) (_hu : ¬ Up L j) (_hn : js.Nodup) (_hj : js.contains j = true) (hf : E2.FinV) (hP : E2.P = Try.prog) (hfin : E2.fin = Fins W (k0 + lft js (L.setIfInBounds j true)) S2) (hsz : S2 ≤ w2.heap.size) (ho : Old W own2 w2) (F : Facts ops (val p) bs (L.setIfInBounds j true) env') (hM : M p (L.setIfInBounds j true) own2 w2 FP') :
    It W k0 js val bs M ops E2 (L.setIfInBounds j true) (mainLo own2) w2 env' :=
  ⟨p, own2, S2, FP', rfl, hf, hP, hfin, hsz, F, ho, hM⟩
theorem It.at (hlen : j < L.size) (hu : ¬ Up L j) (hn : js.Nodup) (hj : js.contains j = true) (hfin : E.fin = Fins W (k0 + lft js L) S0) : E.fin = AtTally W S0 (Fins W (k0 + lft js (L.setIfInBounds j true))) := by
  rw [hfin, lft_eq hlen hu hn hj]; rfl
end
theorem pure_neqBool {P : Program} {t yt : TypeId} {env : Nv} {o : Oper} {x y : Operand} {a b : Bool} (ho : o.op = .binOp .neq t x y yt) (hx : env.ev x = some (.bool a)) (hy : env.ev y = some (.bool b)) (hu : P.underlying t = some .bool) : PureOp P env o (.bool (a != b)) := fun n c hc w => by
  obtain ⟨h1, h2⟩ := eqlBool (P := P) (t := t) (a := a) (b := b) hu w
  have e : execOp c.eval o = (do eqGuard .neq t x y (.bool a) (.bool b); let r ← binOp .neq t (.bool a) (.bool b); pure (.value r)) := by
    unfold execOp; rw [ho]; simp only [hc.ev hx, hc.ev hy]; rfl
  have e2 : eqGuard .neq t x y (.bool a) (.bool b) = pure () := rfl
  have e3 : binOp .neq t (.bool a) (.bool b) = (do pure (.bool (!(← Op.equal t (.bool a) (.bool b))))) := rfl
  have e4 : (a != b) = !(a == b) := rfl
  rw [e, e2, e3, e4]
  constructor
  · simp only [Sem.run_bind, Sem.run_pure, Result.andThen_ok, h1]
  · simp only [Sem.events_bind, Sem.run_bind, Sem.run_pure, Sem.events_pure, Result.andThen_ok, Result.evThen_ok, h1, h2]
end Go.Co.F1

namespace Go.Co.F1
open Go Go.Conc Go.Proofs
open Go.Co
open Go.ConcN (upd upd_ne upd_same)
variable {E : Geo} {N i : Nat} {l : Lo} {w : World} {own own' : Nat → Prop} {w' : World} {FP FP' : Nat → Prop}
set_option maxRecDepth 10000
noncomputable def c3 : Code := (Try.f3.body).getD .skip
theorem b3 : Bod Try.prog 3 67 c3 #[.tmp 4] := ⟨Try.f3, Try.func3, by decide +kernel, rfl, rfl, rfl⟩
section
variable {b : Frame} {n : Nat} {env : Nv} {ds : List Deferred} {k : List Item} {cs : List Frame} {ops : Array Oper} {j : Nat} {o : Oper} {rest : List Nat}
theorem Tk.loadR (W : WkP Try.prog E (mainLo own) b) {m d nj : Nat} {bs : Option Addr} {rr : Nat → Nat} {x : Operand} (sl : SlAt own w bs nj rr) (hm : m < nj) (ho : ops[j]? = some o) (hw : wantE ops env o = some true) (hdd : o.dst = some d) (hd : Nat.blt d n = true) (hop : o.op = .load 5 x)
    (hx : env.ev x = some (.pointer (some ⟨(bs.getD ⟨0, 0, none⟩).block, (bs.getD ⟨0, 0, none⟩).off + m, none⟩)))
    (h : Tk E N i (mainLo own) w b n ((d, .int .u8 (rr m)) :: env) ds (.inRegion ops rest :: k) cs) : Tk E N i (mainLo own) w b n env ds (.inRegion ops (j :: rest) :: k) cs := by
  obtain ⟨rb, ro, rfl, h1, _, h3⟩ := sl m hm
  refine Tk.oload W.wk rfl (x := x) (ad := adr rb (ro + m)) (v := .int .u8 (rr m)) ho hw (by rw [hdd]; exact hd) hop (by rw [W.hP]; rfl) hx h1 h3 ?_
  rw [hdd]
  exact h
end
theorem cnt_cN (rr : Nat → Nat) (n r : Nat) : cnt (cN rr n) r = cN rr n r := by
  unfold cnt
  split
  · rfl
  · rename_i h
    have e : ∀ q, rsn rr q ≠ some r := fun q e => by
      unfold rsn at e
      split at e
      · rename_i h2; cases e; exact h (by unfold isR; exact decide_eq_true h2)
      · cases e
    unfold cN sentTo
    have : ∀ m, (Go.ConcN.sumTo m fun j => if rsn rr j = some r then 1 else 0) = 0 := fun m => by
      induction m with
      | zero => rfl
      | succ m ih => simp only [Go.ConcN.sumTo]; rw [ih, if_neg (e m)]
    rw [this]; rfl
def v7 (bs : Option Addr) (nj cap : Nat) (wk : Int) (n : Nat) (rr : Nat → Nat) (C : Nat) (_p : Nat → Nat) (x : Nat) : Value := match x with
  | 0 | 20 | 25 => .slice bs nj cap
  | 1 => .int .i64 wk
  | 5 => ptr C 0
  | 6 | 21 | 26 => .int .i64 n
  | 22 | 27 => .pointer (some ⟨(bs.getD ⟨0, 0, none⟩).block, (bs.getD ⟨0, 0, none⟩).off + n, none⟩)
  | 23 | 28 => .int .u8 (rr n)
  | 24 | 29 => .bool (isR (rr n))
  | _ => .bool false
abbrev bs7 : List Nat := [0, 1, 5, 6]
def M7 (W : World) (C n : Nat) (rr : Nat → Nat) (_p : Nat → Nat) (L : Array Bool) (own : Nat → Prop) (w : World) (FP : Nat → Prop) : Prop := Ctr own w C FP (if upB L 4 = true then cN rr (n + 1) else cN rr n) ∧ ∀ b, FP b → W.heap.size ≤ b
theorem M7.same {W : World} {C n : Nat} {rr : Nat → Nat} {p : Nat → Nat} {L : Array Bool} (j : Nat) (hj : 4 ≠ j) (m : M7 W C n rr p L own w FP) : M7 W C n rr p (L.setIfInBounds j true) own w FP := by
  unfold M7 at m ⊢
  rw [upB_ne hj]; exact m
set_option maxHeartbeats 8000000 in
theorem reg7 {W : World} {bs : Option Addr} {nj cap n C : Nat} {wk : Int} {rr : Nat → Nat} {k0 : Nat} {cs : List Frame} {k : List Item} {ops : Array Oper} (hops : c3.regOps 7 = some ops) (sl : ∀ own w, Old W own w → SlAt own w bs nj rr) (hn : n < nj) (hnj : nj ≤ 300) (_hrr : ∀ q, rr q < 256) :
    ∀ E N L l w env j, It W k0 [] (v7 bs nj cap wk n rr C) bs7 (M7 W C n rr) ops E L l w env → j < ops.size → Closed ops L → ¬ Up L j → (∀ o, ops[j]? = some o → ∀ e ∈ o.after, Region.binds .any e = true → Up L e.on) → ∀ rest, (∀ E2 N2 l' w' env', It W k0 [] (v7 bs nj cap wk n rr C) bs7 (M7 W C n rr) ops E2 (L.setIfInBounds j true) l' w' env' → Tk E2 N2 0 l' w' (base 3) 67 env' [] (.inRegion ops rest :: k) cs) → Tk E N 0 l w (base 3) 67 env [] (.inRegion ops (j :: rest) :: k) cs := by
  intro E N L l w env j ⟨p, own, S0, FP, hl, hf, hP, hfin, hsz, F, ho, m⟩ hj hcl hu hb rest hk'
  subst hl
  cases hops
  have hjn : j < 11 := hj
  have hLs : L.size = 11 := F.size
  have Wk : WkP Try.prog E (mainLo own) (base 3) := wk_main hf hP (by decide)
  have hsl := sl own w ho
  have hbd : ∀ r, 0 ≤ cN rr n r ∧ cN rr n r < 4611686018427387904 := fun r => by have := cN_bd (show n ≤ 300 by omega) (rr := rr) r; omega
  have hcases : j = 0 ∨ j = 1 ∨ j = 2 ∨ j = 3 ∨ j = 4 ∨ j = 5 ∨ j = 6 ∨ j = 7 ∨ j = 8 ∨ j = 9 ∨ j = 10 := by omega
  rcases hcases with rfl | rfl | rfl | rfl | rfl | rfl | rfl | rfl | rfl | rfl | rfl
  · refine Tk.pure Wk.wk (by rfl) (by rfl) (by rfl) (pure_move (x := .tmp 0) (.inl rfl) (F.base 0 rfl)) ?_
    exact hk' _ _ _ _ _ (It.kp (j := 0) (by rfl) hf hP hfin hsz ho (Kp.refl _ _) (F.step (j := 0) (d := 20) (by rfl) rfl rfl) (M7.same 0 (by decide) m))
  · refine Tk.pure Wk.wk (by rfl) (by rfl) (by rfl) (pure_move (x := .tmp 6) (.inl rfl) (F.base 6 rfl)) ?_
    exact hk' _ _ _ _ _ (It.kp (j := 1) (by rfl) hf hP hfin hsz ho (Kp.refl _ _) (F.step (j := 1) (d := 21) (by rfl) rfl rfl) (M7.same 1 (by decide) m))
  · refine Tk.pure Wk.wk (by rfl) (by rfl) (by rfl) (by rw [hP]; exact pure_indexS hsl hn (x := .tmp 20) (y := .tmp 21) (k := .i64) (by rfl) (by rfl) (by decide +kernel) (F.get (j := 0) (d := 20) (by rfl) rfl (up_of hb (by rfl) 0 (by rfl))) (F.get (j := 1) (d := 21) (by rfl) rfl (up_of hb (by rfl) 1 (by rfl)))) ?_
    exact hk' _ _ _ _ _ (It.kp (j := 2) (by rfl) hf hP hfin hsz ho (Kp.refl _ _) (F.step (j := 2) (d := 22) (by rfl) rfl rfl) (M7.same 2 (by decide) m))
  · refine Tk.loadR Wk hsl hn (x := .tmp 22) (d := 23) (by rfl) (by rfl) (by rfl) (by rfl) (by rfl) (F.get (j := 2) (d := 22) (by rfl) rfl (up_of hb (by rfl) 2 (by rfl))) ?_
    exact hk' _ _ _ _ _ (It.kp (j := 3) (by rfl) hf hP hfin hsz ho (Kp.refl _ _) (F.put (j := 3) (d := 23) (by rfl) rfl) (M7.same 3 (by decide) m))
  · refine Tk.callE Wk (by rfl) (by rfl) (by rfl) (by rfl) (by rfl) b7 (ev2 (x := .tmp 5) (y := .tmp 23) (F.base 5 rfl) (F.get (j := 3) (d := 23) (by rfl) rfl (up_of hb (by rfl) 3 (by rfl)))) fun fr1 hk1 => ?_
    have mc := m.1
    rw [if_neg (by rw [upB_no hu]; exact fun e => by cases e)] at mc
    refine add7M (r := rr n) hf hP mc hbd fun own' w' FP' k c' => hk1 _ _ _ _ _ (hk' _ _ _ _ _ (It.kf (j := 4) (by rfl) hf hP hfin hsz ho m.2 k (F.put (j := 4) (d := 24) (by rfl) rfl) ⟨?_, fun b hb => (k.fp b hb).elim (m.2 b) fun x => Nat.le_trans ho.size x⟩))
    rw [if_pos (upB_eq (by rw [hLs]; decide)), ← cN_step]; exact c'
  · refine Tk.pure Wk.wk (by rfl) (by rfl) (by rfl) (pure_move (x := .tmp 0) (.inl rfl) (F.base 0 rfl)) ?_
    exact hk' _ _ _ _ _ (It.kp (j := 5) (by rfl) hf hP hfin hsz ho (Kp.refl _ _) (F.step (j := 5) (d := 25) (by rfl) rfl rfl) (M7.same 5 (by decide) m))
  · refine Tk.pure Wk.wk (by rfl) (by rfl) (by rfl) (pure_move (x := .tmp 6) (.inl rfl) (F.base 6 rfl)) ?_
    exact hk' _ _ _ _ _ (It.kp (j := 6) (by rfl) hf hP hfin hsz ho (Kp.refl _ _) (F.step (j := 6) (d := 26) (by rfl) rfl rfl) (M7.same 6 (by decide) m))
  · refine Tk.pure Wk.wk (by rfl) (by rfl) (by rfl) (by rw [hP]; exact pure_indexS hsl hn (x := .tmp 25) (y := .tmp 26) (k := .i64) (by rfl) (by rfl) (by decide +kernel) (F.get (j := 5) (d := 25) (by rfl) rfl (up_of hb (by rfl) 5 (by rfl))) (F.get (j := 6) (d := 26) (by rfl) rfl (up_of hb (by rfl) 6 (by rfl)))) ?_
    exact hk' _ _ _ _ _ (It.kp (j := 7) (by rfl) hf hP hfin hsz ho (Kp.refl _ _) (F.step (j := 7) (d := 27) (by rfl) rfl rfl) (M7.same 7 (by decide) m))
  · refine Tk.loadR Wk hsl hn (x := .tmp 27) (d := 28) (by rfl) (by rfl) (by rfl) (by rfl) (by rfl) (F.get (j := 7) (d := 27) (by rfl) rfl (up_of hb (by rfl) 7 (by rfl))) ?_
    exact hk' _ _ _ _ _ (It.kp (j := 8) (by rfl) hf hP hfin hsz ho (Kp.refl _ _) (F.put (j := 8) (d := 28) (by rfl) rfl) (M7.same 8 (by decide) m))
  · refine Tk.callE Wk (by rfl) (by rfl) (by rfl) (by rfl) (by rfl) b8 (ev1 (x := .tmp 28) (F.get (j := 8) (d := 28) (by rfl) rfl (up_of hb (by rfl) 8 (by rfl)))) fun fr1 hk1 => ?_
    exact reason8 hf hP (hk1 _ _ _ _ _ (hk' _ _ _ _ _ (It.kp (j := 9) (by rfl) hf hP hfin hsz ho (Kp.refl _ _) (F.put (j := 9) (d := 29) (by rfl) rfl) (M7.same 9 (by decide) m))))
  · refine Tk.pure Wk.wk (by rfl) (by rfl) (by rfl) (pure_neqBool (x := .tmp 24) (y := .tmp 29) rfl (F.get (j := 4) (d := 24) (by rfl) rfl (up_of hb (by rfl) 4 (by rfl))) (F.get (j := 9) (d := 29) (by rfl) rfl (up_of hb (by rfl) 9 (by rfl))) (by rw [hP]; rfl)) ?_
    exact hk' _ _ _ _ _ (It.kp (j := 10) (by rfl) hf hP hfin hsz ho (Kp.refl _ _) (F.step (j := 10) (d := 30) (by rfl) rfl (congrArg Value.bool (bne_self_eq_false _))) (M7.same 10 (by decide) m))
def v18 (bs : Option Addr) (nj cap : Nat) (wk : Int) (rr : Nat → Nat) (C A : Nat) (_p : Nat → Nat) (x : Nat) : Value := match x with
  | 0 | 59 => .slice bs nj cap
  | 1 | 58 => .int .i64 wk
  | 5 => ptr C 0
  | 7 => ptr A 0
  | 48 | 60 => .agg (arrV 19 (cnt (cN rr nj)))
  | 49 | 53 | 61 => .agg (arrV 19 (cN rr nj))
  | 52 => .int .i64 (sumF (cnt (cN rr nj)) 19)
  | 54 => .int .i64 (sumF (cN rr nj) 19)
  | _ => .bool true
abbrev bs18 : List Nat := [0, 1, 5, 7]
def M18 (W : World) (C A nj : Nat) (rr : Nat → Nat) (_p : Nat → Nat) (L : Array Bool) (own : Nat → Prop) (w : World) (FP : Nat → Prop) : Prop := ¬ Up L 17 → Ctr own w C FP (cN rr nj) ∧ (∀ b, FP b → W.heap.size ≤ b) ∧ Ar own w FP A (cN rr nj)
theorem M18.same {W : World} {C A nj : Nat} {rr : Nat → Nat} {p : Nat → Nat} {L : Array Bool} (j : Nat) (hj : 17 ≠ j) (m : M18 W C A nj rr p L own w FP) : M18 W C A nj rr p (L.setIfInBounds j true) own w FP := fun h => m fun x => h ((up_ne hj).2 x)
theorem M18.kp {W : World} {C A nj : Nat} {rr : Nat → Nat} {p : Nat → Nat} {L : Array Bool} (m : M18 W C A nj rr p L own w FP) (k : Kp own w own' w') : M18 W C A nj rr p L own' w' FP := fun h => by
  obtain ⟨a, b, c⟩ := m h
  exact ⟨a.frame2 k, b, c.kp k⟩
theorem sum_cN (rr : Nat → Nat) (n : Nat) : ∀ m, sumF (cnt (cN rr n)) m = sumF (cN rr n) m
  | 0 => rfl
  | m + 1 => by simp only [sumF]; rw [sum_cN rr n m, cnt_cN]
set_option maxHeartbeats 16000000 in
theorem reg18 {W : World} {bs : Option Addr} {nj cap C A : Nat} {wk : Int} {rr : Nat → Nat} {cs : List Frame} {k : List Item} {ops : Array Oper} (hops : c3.regOps 18 = some ops) (sl : ∀ own w, Old W own w → SlAt own w bs nj rr) (hnj : nj ≤ 300) :
    ∀ E N L l w env j, It W 0 [12, 17] (v18 bs nj cap wk rr C A) bs18 (M18 W C A nj rr) ops E L l w env → j < ops.size → Closed ops L → ¬ Up L j → (∀ o, ops[j]? = some o → ∀ e ∈ o.after, Region.binds .any e = true → Up L e.on) → ∀ rest, (∀ E2 N2 l' w' env', It W 0 [12, 17] (v18 bs nj cap wk rr C A) bs18 (M18 W C A nj rr) ops E2 (L.setIfInBounds j true) l' w' env' → Tk E2 N2 0 l' w' (base 3) 67 env' [] (.inRegion ops rest :: k) cs) → Tk E N 0 l w (base 3) 67 env [] (.inRegion ops (j :: rest) :: k) cs := by
  intro E N L l w env j ⟨p, own, S0, FP, hl, hf, hP, hfin, hsz, F, ho, m⟩ hj hcl hu hb rest hk'
  subst hl
  cases hops
  have hjn : j < 20 := hj
  have hLs : L.size = 20 := F.size
  have Wk : WkP Try.prog E (mainLo own) (base 3) := wk_main hf hP (by decide)
  have hbd : ∀ r, 0 ≤ cN rr nj r ∧ cN rr nj r < 1125899906842624 := fun r => by have := cN_bd hnj (rr := rr) r; omega
  have hcases : j = 0 ∨ j = 1 ∨ j = 2 ∨ j = 3 ∨ j = 4 ∨ j = 5 ∨ j = 6 ∨ j = 7 ∨ j = 8 ∨ j = 9 ∨ j = 10 ∨ j = 11 ∨ j = 12 ∨ j = 13 ∨ j = 14 ∨ j = 15 ∨ j = 16 ∨ j = 17 ∨ j = 18 ∨ j = 19 := by omega
  rcases hcases with rfl | rfl | rfl | rfl | rfl | rfl | rfl | rfl | rfl | rfl | rfl | rfl | rfl | rfl | rfl | rfl | rfl | rfl | rfl | rfl
  · obtain ⟨mc, mf, ma⟩ := m (fun x => hu (Closed.up hcl (Closed.up hcl (Closed.up hcl (Closed.up hcl (Closed.up hcl (Closed.up hcl x (by rfl) 16 (by rfl)) (by rfl) 12 (by rfl)) (by rfl) 9 (by rfl)) (by rfl) 6 (by rfl)) (by rfl) 3 (by rfl)) (by rfl) 0 (by rfl)))
    refine Tk.callE Wk (by rfl) (by rfl) (by rfl) (by rfl) (by rfl) b11 (ev1 (x := .tmp 5) (F.base 5 rfl)) fun fr1 hk1 => ?_
    exact all11M hf hP mc fun own' w' FP' k c' => hk1 _ _ _ _ _ (hk' _ _ _ _ _ (It.kf (j := 0) (by rfl) hf hP hfin hsz ho mf k (F.put (j := 0) (d := 48) (by rfl) rfl) fun _ => ⟨c', fun b hb => (k.fp b hb).elim (mf b) fun x => Nat.le_trans ho.size x, ma.kf k⟩))
  · obtain ⟨mc, mf, ma⟩ := m (fun x => hu (Closed.up hcl (Closed.up hcl (Closed.up hcl (Closed.up hcl (Closed.up hcl (Closed.up hcl (Closed.up hcl x (by rfl) 16 (by rfl)) (by rfl) 12 (by rfl)) (by rfl) 9 (by rfl)) (by rfl) 6 (by rfl)) (by rfl) 3 (by rfl)) (by rfl) 2 (by rfl)) (by rfl) 1 (by rfl)))
    refine Tk.oloadA Wk.wk rfl (x := .tmp 7) (g := A) (d := 49) (by rfl) (by rfl) (by rfl) (by rfl) (by rfl) (by rw [hP]; rfl) (by rw [hP, arrV_size]; rfl) (F.base 7 rfl) ma.ow ma.heap ?_
    exact hk' _ _ _ _ _ (It.kp (j := 1) (by rfl) hf hP hfin hsz ho (Kp.refl _ _) (F.put (j := 1) (d := 49) (by rfl) rfl) (M18.same 1 (by decide) m))
  · refine Tk.pure Wk.wk (by rfl) (by rfl) (by rfl) (by rw [hP]; exact pure_eqArr (x := .tmp 48) (y := .tmp 49) rfl (F.get (j := 0) (d := 48) (by rfl) rfl (up_of hb (by rfl) 0 (by rfl))) (F.get (j := 1) (d := 49) (by rfl) rfl (up_of hb (by rfl) 1 (by rfl))) (by rfl) (by rfl) (by decide +kernel) (by decide +kernel)) ?_
    exact hk' _ _ _ _ _ (It.kp (j := 2) (by rfl) hf hP hfin hsz ho (Kp.refl _ _) (F.step (j := 2) (d := 50) (by rfl) rfl (congrArg Value.bool (arrEq_true fun j _ => cnt_cN rr nj j))) (M18.same 2 (by decide) m))
  · refine Tk.pure Wk.wk (by rfl) (by rfl) (by rfl) (pure_move (x := .tmp 50) (.inl rfl) (F.get (j := 2) (d := 50) (by rfl) rfl (up_of hb (by rfl) 2 (by rfl)))) ?_
    exact hk' _ _ _ _ _ (It.kp (j := 3) (by rfl) hf hP hfin hsz ho (Kp.refl _ _) (F.step (j := 3) (d := 51) (by rfl) rfl rfl) (M18.same 3 (by decide) m))
  · obtain ⟨mc, mf, ma⟩ := m (fun x => hu (Closed.up hcl (Closed.up hcl (Closed.up hcl (Closed.up hcl (Closed.up hcl x (by rfl) 16 (by rfl)) (by rfl) 12 (by rfl)) (by rfl) 9 (by rfl)) (by rfl) 6 (by rfl)) (by rfl) 4 (by rfl)))
    refine Tk.callE Wk (by rfl) (wantE_up (m := 3) (d := 51) (by rfl) (by rfl) (F.get (j := 3) (d := 51) (by rfl) rfl (up_of hb (by rfl) 3 (by rfl)))) (by rfl) (by rfl) (by rfl) b12 (ev1 (x := .tmp 5) (F.base 5 rfl)) fun fr1 hk1 => ?_
    exact sum12M hf hP mc (fun r => by rw [cnt_cN]; exact hbd r) fun own' w' FP' k c' => hk1 _ _ _ _ _ (hk' _ _ _ _ _ (It.kf (j := 4) (by rfl) hf hP hfin hsz ho mf k (F.put (j := 4) (d := 52) (by rfl) rfl) fun _ => ⟨c', fun b hb => (k.fp b hb).elim (mf b) fun x => Nat.le_trans ho.size x, ma.kf k⟩))
  · obtain ⟨mc, mf, ma⟩ := m (fun x => hu (Closed.up hcl (Closed.up hcl (Closed.up hcl (Closed.up hcl (Closed.up hcl x (by rfl) 16 (by rfl)) (by rfl) 12 (by rfl)) (by rfl) 9 (by rfl)) (by rfl) 6 (by rfl)) (by rfl) 5 (by rfl)))
    refine Tk.oloadA Wk.wk rfl (x := .tmp 7) (g := A) (d := 53) (by rfl) (wantE_up (m := 3) (d := 51) (by rfl) (by rfl) (F.get (j := 3) (d := 51) (by rfl) rfl (up_of hb (by rfl) 3 (by rfl)))) (by rfl) (by rfl) (by rfl) (by rw [hP]; rfl) (by rw [hP, arrV_size]; rfl) (F.base 7 rfl) ma.ow ma.heap ?_
    exact hk' _ _ _ _ _ (It.kp (j := 5) (by rfl) hf hP hfin hsz ho (Kp.refl _ _) (F.put (j := 5) (d := 53) (by rfl) rfl) (M18.same 5 (by decide) m))
  · refine Tk.callE Wk (by rfl) (wantE_up (m := 3) (d := 51) (by rfl) (by rfl) (F.get (j := 3) (d := 51) (by rfl) rfl (up_of hb (by rfl) 3 (by rfl)))) (by rfl) (by rfl) (by rfl) b13 (ev1 (x := .tmp 53) (F.get (j := 5) (d := 53) (by rfl) rfl (up_of hb (by rfl) 5 (by rfl)))) fun fr1 hk1 => ?_
    exact ref13 hf hP hbd fun own' w' k => hk1 _ _ _ _ _ (hk' _ _ _ _ _ (It.kp (j := 6) (by rfl) hf hP hfin hsz ho k (F.put (j := 6) (d := 54) (by rfl) rfl) (M18.kp (M18.same 6 (by decide) m) k)))
  · refine Tk.pure Wk.wk (by rfl) (wantE_up (m := 3) (d := 51) (by rfl) (by rfl) (F.get (j := 3) (d := 51) (by rfl) rfl (up_of hb (by rfl) 3 (by rfl)))) (by rfl) (pure_int (op := .eql) (x := .tmp 52) (y := .tmp 54) rfl (F.get (j := 4) (d := 52) (by rfl) rfl (up_of hb (by rfl) 4 (by rfl))) (F.get (j := 6) (d := 54) (by rfl) rfl (up_of hb (by rfl) 6 (by rfl))) rfl) ?_
    exact hk' _ _ _ _ _ (It.kp (j := 7) (by rfl) hf hP hfin hsz ho (Kp.refl _ _) (F.step (j := 7) (d := 55) (by rfl) rfl (by show Value.bool _ = Value.bool true; rw [sum_cN, beq_self_eq_true])) (M18.same 7 (by decide) m))
  · refine Tk.pure Wk.wk (by rfl) (by rfl) (by rfl) (pure_pickT (c := .tmp 51) (x := .tmp 55) rfl (F.get (j := 3) (d := 51) (by rfl) rfl (up_of hb (by rfl) 3 (by rfl))) (F.get (j := 7) (d := 55) (by rfl) rfl (up_of hb (by rfl) 7 (by rfl)))) ?_
    exact hk' _ _ _ _ _ (It.kp (j := 8) (by rfl) hf hP hfin hsz ho (Kp.refl _ _) (F.step (j := 8) (d := 56) (by rfl) rfl rfl) (M18.same 8 (by decide) m))
  · refine Tk.pure Wk.wk (by rfl) (by rfl) (by rfl) (pure_move (x := .tmp 56) (.inl rfl) (F.get (j := 8) (d := 56) (by rfl) rfl (up_of hb (by rfl) 8 (by rfl)))) ?_
    exact hk' _ _ _ _ _ (It.kp (j := 9) (by rfl) hf hP hfin hsz ho (Kp.refl _ _) (F.step (j := 9) (d := 57) (by rfl) rfl rfl) (M18.same 9 (by decide) m))
  · refine Tk.pure Wk.wk (by rfl) (wantE_up (m := 9) (d := 57) (by rfl) (by rfl) (F.get (j := 9) (d := 57) (by rfl) rfl (up_of hb (by rfl) 9 (by rfl)))) (by rfl) (pure_move (x := .tmp 1) (.inl rfl) (F.base 1 rfl)) ?_
    exact hk' _ _ _ _ _ (It.kp (j := 10) (by rfl) hf hP hfin hsz ho (Kp.refl _ _) (F.step (j := 10) (d := 58) (by rfl) rfl rfl) (M18.same 10 (by decide) m))
  · refine Tk.pure Wk.wk (by rfl) (wantE_up (m := 9) (d := 57) (by rfl) (by rfl) (F.get (j := 9) (d := 57) (by rfl) rfl (up_of hb (by rfl) 9 (by rfl)))) (by rfl) (pure_move (x := .tmp 0) (.inl rfl) (F.base 0 rfl)) ?_
    exact hk' _ _ _ _ _ (It.kp (j := 11) (by rfl) hf hP hfin hsz ho (Kp.refl _ _) (F.step (j := 11) (d := 59) (by rfl) rfl rfl) (M18.same 11 (by decide) m))
  · refine Tk.callE Wk (by rfl) (wantE_up (m := 9) (d := 57) (by rfl) (by rfl) (F.get (j := 9) (d := 57) (by rfl) rfl (up_of hb (by rfl) 9 (by rfl)))) (by rfl) (by rfl) (by rfl) b14c (ev2 (x := .tmp 58) (y := .tmp 59) (F.get (j := 10) (d := 58) (by rfl) rfl (up_of hb (by rfl) 10 (by rfl))) (F.get (j := 11) (d := 59) (by rfl) rfl (up_of hb (by rfl) 11 (by rfl)))) fun fr1 hk1 => ?_
    exact tallyM hf hP (It.at (by rw [hLs]; decide) hu (by decide) (by rfl) hfin) hsz ho (sl own w ho) (by omega) fun E2 N2 own2 w2 S2 f2 P2 fin2 sz2 k => hk1 _ _ _ _ _ (hk' _ _ _ _ _ (It.next (by rw [hLs]; decide) hu (by decide) (by rfl) f2 P2 fin2 sz2 (ho.kp k) (F.put (j := 12) (d := 60) (by rfl) rfl) (M18.kp (M18.same 12 (by decide) m) k)))
  · obtain ⟨mc, mf, ma⟩ := m (fun x => hu (Closed.up hcl (Closed.up hcl (Closed.up hcl (Closed.up hcl x (by rfl) 16 (by rfl)) (by rfl) 15 (by rfl)) (by rfl) 14 (by rfl)) (by rfl) 13 (by rfl)))
    refine Tk.oloadA Wk.wk rfl (x := .tmp 7) (g := A) (d := 61) (by rfl) (wantE_up (m := 9) (d := 57) (by rfl) (by rfl) (F.get (j := 9) (d := 57) (by rfl) rfl (up_of hb (by rfl) 9 (by rfl)))) (by rfl) (by rfl) (by rfl) (by rw [hP]; rfl) (by rw [hP, arrV_size]; rfl) (F.base 7 rfl) ma.ow ma.heap ?_
    exact hk' _ _ _ _ _ (It.kp (j := 13) (by rfl) hf hP hfin hsz ho (Kp.refl _ _) (F.put (j := 13) (d := 61) (by rfl) rfl) (M18.same 13 (by decide) m))
  · refine Tk.pure Wk.wk (by rfl) (wantE_up (m := 9) (d := 57) (by rfl) (by rfl) (F.get (j := 9) (d := 57) (by rfl) rfl (up_of hb (by rfl) 9 (by rfl)))) (by rfl) (by rw [hP]; exact pure_eqArr (x := .tmp 60) (y := .tmp 61) rfl (F.get (j := 12) (d := 60) (by rfl) rfl (up_of hb (by rfl) 12 (by rfl))) (F.get (j := 13) (d := 61) (by rfl) rfl (up_of hb (by rfl) 13 (by rfl))) (by rfl) (by rfl) (by decide +kernel) (by decide +kernel)) ?_
    exact hk' _ _ _ _ _ (It.kp (j := 14) (by rfl) hf hP hfin hsz ho (Kp.refl _ _) (F.step (j := 14) (d := 62) (by rfl) rfl (congrArg Value.bool (arrEq_true fun j _ => cnt_cN rr nj j))) (M18.same 14 (by decide) m))
  · refine Tk.pure Wk.wk (by rfl) (by rfl) (by rfl) (pure_pickT (c := .tmp 57) (x := .tmp 62) rfl (F.get (j := 9) (d := 57) (by rfl) rfl (up_of hb (by rfl) 9 (by rfl))) (F.get (j := 14) (d := 62) (by rfl) rfl (up_of hb (by rfl) 14 (by rfl)))) ?_
    exact hk' _ _ _ _ _ (It.kp (j := 15) (by rfl) hf hP hfin hsz ho (Kp.refl _ _) (F.step (j := 15) (d := 63) (by rfl) rfl rfl) (M18.same 15 (by decide) m))
  · refine Tk.pure Wk.wk (by rfl) (by rfl) (by rfl) (pure_move (x := .tmp 63) (.inl rfl) (F.get (j := 15) (d := 63) (by rfl) rfl (up_of hb (by rfl) 15 (by rfl)))) ?_
    exact hk' _ _ _ _ _ (It.kp (j := 16) (by rfl) hf hP hfin hsz ho (Kp.refl _ _) (F.step (j := 16) (d := 64) (by rfl) rfl rfl) (M18.same 16 (by decide) m))
  · refine Tk.callE Wk (by rfl) (wantE_up (m := 16) (d := 64) (by rfl) (by rfl) (F.get (j := 16) (d := 64) (by rfl) rfl (up_of hb (by rfl) 16 (by rfl)))) (by rfl) (by rfl) (by rfl) b6 rfl fun fr1 hk1 => ?_
    exact wakes6 hf hP (It.at (by rw [hLs]; decide) hu (by decide) (by rfl) hfin) hsz ho fun E2 N2 own2 w2 S2 f2 P2 fin2 sz2 o2 => hk1 _ _ _ _ _ (hk' _ _ _ _ _ (It.next (FP' := FP) (by rw [hLs]; decide) hu (by decide) (by rfl) f2 P2 fin2 sz2 o2 (F.put (j := 17) (d := 65) (by rfl) rfl) fun h => absurd (up_eq (by rw [hLs]; decide)) h))
  · refine Tk.pure Wk.wk (by rfl) (by rfl) (by rfl) (pure_pickT (c := .tmp 64) (x := .tmp 65) rfl (F.get (j := 16) (d := 64) (by rfl) rfl (up_of hb (by rfl) 16 (by rfl))) (F.get (j := 17) (d := 65) (by rfl) rfl (up_of hb (by rfl) 17 (by rfl)))) ?_
    exact hk' _ _ _ _ _ (It.kp (j := 18) (by rfl) hf hP hfin hsz ho (Kp.refl _ _) (F.step (j := 18) (d := 66) (by rfl) rfl rfl) (M18.same 18 (by decide) m))
  · refine Tk.pure Wk.wk (by rfl) (by rfl) (by rfl) (pure_move (x := .tmp 66) (.inr rfl) (F.get (j := 18) (d := 66) (by rfl) rfl (up_of hb (by rfl) 18 (by rfl)))) ?_
    exact hk' _ _ _ _ _ (It.kp (j := 19) (by rfl) hf hP hfin hsz ho (Kp.refl _ _) (F.step (j := 19) (d := 4) (by rfl) rfl rfl) (M18.same 19 (by decide) m))
end Go.Co.F1

namespace Go.Co.F1
open Go Go.Conc Go.Proofs
open Go.Co
open Go.ConcN (upd upd_ne upd_same)
variable {E : Geo} {N i : Nat} {l : Lo} {w : World} {own own' : Nat → Prop} {w' : World} {FP FP' : Nat → Prop}
set_option maxRecDepth 10000
theorem end3 {W : World} {env : Nv} (hfin : E.fin = EndAt W) (ho : Old W own w) (g4 : env.get 4 = some (.bool true)) : TkR E N 0 (mainLo own) w (base 3) 67 env [] [] := by
  intro a todo ha hds
  obtain ⟨fn, f1, _, _, _, f5⟩ := b3.out
  refine Pro.Lv.fold ⟨⟨rfl, rfl, rfl⟩, .inl ⟨rfl, rfl, ?_⟩⟩
  show E.fin _ _ _
  rw [hfin]
  refine ⟨⟨own, rfl, ho⟩, fun w1 => ?_⟩
  have e : a.tmps.getD 4 undef = .bool true := by rw [Array.getD_eq_getD_getElem?, ha.2 4 _ g4]; rfl
  have hr : (results fn a.tmps).run Try.prog w1 = .ok (.bool true) w1 := by rw [results_tmp f5, e]
  have he := events_results_tmp (P := Try.prog) (w := w1) f5 a.tmps #[]
  simp [Conc.G, stepG, unwind, doReturn, Frame.at, base, hds, f1, hr, he, seen, GStep.after]
structure Ms (W : World) (S0 C : Nat) (v : Nat → Int) (own : Nat → Prop) (w : World) (FP : Nat → Prop) : Prop where
  sz : S0 ≤ w.heap.size
  old : Old W own w
  ctr : Ctr own w C FP v
  fpo : ∀ b, FP b → W.heap.size ≤ b
theorem Ms.kf {W : World} {S0 C : Nat} {v v' : Nat → Int} (m : Ms W S0 C v own w FP) (k : Kf own w FP own' w' FP') (c : Ctr own' w' C FP' v') : Ms W S0 C v' own' w' FP' := by
  obtain ⟨o, f⟩ := m.old.kf k m.fpo
  exact ⟨Nat.le_trans m.sz k.size, o, c, f⟩
theorem Ms.kp {W : World} {S0 C : Nat} {v : Nat → Int} (m : Ms W S0 C v own w FP) (k : Kp own w own' w') : Ms W S0 C v own' w' FP := ⟨Nat.le_trans m.sz k.size, m.old.kp k, m.ctr.frame2 k, m.fpo⟩
set_option maxHeartbeats 16000000 in
/-- CountsTells, behind its second loop. -/
theorem tells3c {W : World} {bs : Option Addr} {nj cap C A : Nat} {wk : Int} {rr : Nat → Nat} {S0 : Nat} (hf : E.FinV) (hP : E.P = Try.prog) (hfin : E.fin = Fins W 2 S0) (m : Ms W S0 C (cN rr nj) own w FP) (ma : Ar own w FP A (cN rr nj)) (ha : Arg W bs nj rr 0) (hnj : nj ≤ 300) :
    Tk E N 0 (mainLo own) w (base 3) 67 [(0, .slice bs nj cap), (1, .int .i64 wk), (5, ptr C 0), (7, ptr A 0)] [] [.code (skipSeq 6 c3)] [] := by
  have Wl : ∀ own', WkP Try.prog E (mainLo own') (base 3) := fun own' => wk_main hf hP (by decide)
  refine Tk.seq (Wl _).wk ?_
  refine Tk.freeE (Wl _) mixed (I := It W 0 [12, 17] (v18 bs nj cap wk rr C A) bs18 (M18 W C A nj rr)) (by decide +kernel) ?_ ?_ ?_ ?_
  · refine ⟨fun _ => 0, own, S0, FP, rfl, hf, hP, hfin, m.sz, ⟨by simp, fun x hx => ?_, fun m o' d _ _ hu => absurd hu (not_up0 _ _)⟩, m.old, fun _ => ⟨m.ctr, m.fpo, ma⟩⟩
    have : x = 0 ∨ x = 1 ∨ x = 5 ∨ x = 7 := by simpa [bs18] using hx
    rcases this with rfl | rfl | rfl | rfl <;> rfl
  · intro E L l w env ⟨_, own, S0, FP, hl, hf, hP, _, _, F, _⟩
    subst hl
    exact ⟨F.size, wk_main hf hP (by decide)⟩
  · exact reg18 rfl (fun own w o => ha.sl o) hnj
  · intro E N L l w env ⟨_, own, S0, FP, hl, hf, hP, hfin, _, F, ho, _⟩ hall
    subst hl
    have W' : WkP Try.prog E (mainLo own) (base 3) := wk_main hf hP (by decide)
    have g4 := F.get (j := 19) (d := 4) (by rfl) rfl (hall 19 (by decide))
    have e0 : lft [12, 17] L = 0 := by
      simp only [lft]
      rw [upB_yes (hall 12 (by decide)), upB_yes (hall 17 (by decide))]; rfl
    rw [e0] at hfin
    exact Tk.ret W'.wk (end3 hfin ho g4)
set_option maxHeartbeats 16000000 in
/-- CountsTells, behind its first loop. -/
theorem tells3b {W : World} {bs : Option Addr} {nj cap C : Nat} {wk : Int} {rr : Nat → Nat} {S0 : Nat} (hf : E.FinV) (hP : E.P = Try.prog) (hfin : E.fin = Fins W 2 S0) (m : Ms W S0 C (cN rr nj) own w FP) (ha : Arg W bs nj rr 0) (hnj : nj ≤ 300) :
    Tk E N 0 (mainLo own) w (base 3) 67 [(0, .slice bs nj cap), (1, .int .i64 wk), (5, ptr C 0)] [] [.code (skipSeq 4 c3)] [] := by
  have Wl : ∀ own', WkP Try.prog E (mainLo own') (base 3) := fun own' => wk_main hf hP (by decide)
  obtain ⟨v, hv⟩ : ∃ v, v = cN rr nj := ⟨_, rfl⟩
  rw [← hv] at m
  have hcv : ∀ r, cnt v r = v r := fun r => by rw [hv]; exact cnt_cN rr nj r
  (repeat (first | refine TkO.done (Wl own) (by rfl) ?_ | refine TkO.unwantedS (Wl own) (by rfl) (by rfl) (by rfl) (by rfl) ?_ | refine TkO.pureS (Wl own) (by rfl) (by rfl) (by rfl) (by rfl) (by first | exact pure_move (.inl rfl) rfl | exact pure_move (.inr rfl) rfl | exact pure_nilCheck rfl rfl | exact pure_field rfl rfl (by rfl) rfl (by decide +kernel) | exact pure_int rfl rfl rfl rfl | exact pure_not rfl rfl | exact pure_pickT rfl rfl rfl | exact pure_pickF rfl rfl rfl | exact pure_shift rfl rfl rfl rfl | exact pure_eqlNil rfl rfl rfl (by rfl) | exact pure_conv rfl rfl (by rfl) (by rfl)) ?_ | refine Tk.seq (WkP.wk (Wl own)) ?_ | refine Tk.reg (Wl own) ?_ | refine Tk.skip (WkP.wk (Wl own)) ?_ | refine Tk.block (WkP.wk (Wl own)) ?_ | refine Tk.condT (WkP.wk (Wl own)) rfl ?_ | refine Tk.condF (WkP.wk (Wl own)) rfl ?_ | refine Tk.exit (WkP.wk (Wl own)) rfl ?_ | refine Tk.label (WkP.wk (Wl own)) ?_))
  refine TkO.call (Wl _) (by rfl) (by rfl) (by rfl) (by rfl) b9 rfl fun fr1 hk1 => ?_
  refine ref9 hf hP (ha.sl m.old) hnj ha.rr fun own1 w1 k1 => hk1 _ _ _ (TkO.lay (rfl : Nv.put _ _ _ = (_, _) :: _) ?_)
  rw [← hv]
  have m1 := m.kp k1
  refine TkO.newArr (Wl _) (d := 7) (by rfl) (by rfl) (by rfl) (by rfl) (by rfl) fun own2 w2 A k2 A1 A2 A3 => ?_
  have nA : ¬ FP A := fun e => by have := (m1.ctr.lt e).1; omega
  have A0 : w1.heap.size ≤ A := A1
  refine TkO.storeAll (Wl _) (A := A) (f := v) (by rfl) (by rfl) (by rfl) (by rfl) (by rfl) (by rfl) A2 A3 fun w3 s3 h3 A4 => ?_
  have m3 := m1.kp (k2.ne A0 s3 h3)
  have a3 : Ar own2 w3 FP A v := ⟨A2, A4, nA⟩
  (repeat (first | refine TkO.done (Wl own2) (by rfl) ?_ | refine TkO.unwantedS (Wl own2) (by rfl) (by rfl) (by rfl) (by rfl) ?_ | refine TkO.pureS (Wl own2) (by rfl) (by rfl) (by rfl) (by rfl) (by first | exact pure_move (.inl rfl) rfl | exact pure_move (.inr rfl) rfl | exact pure_nilCheck rfl rfl | exact pure_field rfl rfl (by rfl) rfl (by decide +kernel) | exact pure_int rfl rfl rfl rfl | exact pure_not rfl rfl | exact pure_pickT rfl rfl rfl | exact pure_pickF rfl rfl rfl | exact pure_shift rfl rfl rfl rfl | exact pure_eqlNil rfl rfl rfl (by rfl) | exact pure_conv rfl rfl (by rfl) (by rfl)) ?_ | refine Tk.seq (WkP.wk (Wl own2)) ?_ | refine Tk.reg (Wl own2) ?_ | refine Tk.skip (WkP.wk (Wl own2)) ?_ | refine Tk.block (WkP.wk (Wl own2)) ?_ | refine Tk.condT (WkP.wk (Wl own2)) rfl ?_ | refine Tk.condF (WkP.wk (Wl own2)) rfl ?_ | refine Tk.exit (WkP.wk (Wl own2)) rfl ?_ | refine Tk.label (WkP.wk (Wl own2)) ?_))
  refine Tk.loop (Wl _).wk ?_
  refine Tk.cut fun KK hKK => ?_
  have HH : ∀ (q n : Nat) own w FP, n + q = 256 → Ms W S0 C v own w FP → Ar own w FP A v →
      Tk E N 0 (mainLo own) w (base 3) 67 [(0, .slice bs nj cap), (1, .int .i64 wk), (5, ptr C 0), (7, ptr A 0), (8, .int .i64 n)] [] KK [] := by
    intro q
    induction q with
    | zero =>
      intro n own w FP hn m a
      have hn : n = 256 := by omega
      subst hn
      rw [hKK]
      refine Tk.seq (Wl _).wk ?_
      refine Tk.seq (Wl _).wk ?_
      refine Tk.reg (Wl _) ?_
      refine TkO.pureS (Wl _) (by rfl) (by rfl) (by rfl) (by rfl) (by (first | exact pure_move (.inl rfl) rfl | exact pure_move (.inr rfl) rfl | exact pure_nilCheck rfl rfl | exact pure_field rfl rfl (by rfl) rfl (by decide +kernel) | exact pure_int rfl rfl rfl rfl | exact pure_not rfl rfl | exact pure_pickT rfl rfl rfl | exact pure_pickF rfl rfl rfl | exact pure_shift rfl rfl rfl rfl | exact pure_eqlNil rfl rfl rfl (by rfl) | exact pure_conv rfl rfl (by rfl) (by rfl))) ?_
      refine TkO.pureS (Wl _) (by rfl) (by rfl) (by rfl) (by rfl) (by (first | exact pure_move (.inl rfl) rfl | exact pure_move (.inr rfl) rfl | exact pure_nilCheck rfl rfl | exact pure_field rfl rfl (by rfl) rfl (by decide +kernel) | exact pure_int rfl rfl rfl rfl | exact pure_not rfl rfl | exact pure_pickT rfl rfl rfl | exact pure_pickF rfl rfl rfl | exact pure_shift rfl rfl rfl rfl | exact pure_eqlNil rfl rfl rfl (by rfl) | exact pure_conv rfl rfl (by rfl) (by rfl))) ?_
      refine TkO.done (Wl _) (by rfl) ?_
      refine Tk.condF (Wl _).wk rfl ?_
      refine Tk.exit (Wl _).wk rfl ?_
      exact Tk.sub (tells3c hf hP hfin (hv ▸ m) (hv ▸ a) ha hnj) (AllGet.sub ⟨rfl, rfl, rfl, rfl, trivial⟩)
    | succ q ihm =>
      intro n own w FP hn m a
      have hlt : n < 256 := by omega
      rw [hKK]
      refine Tk.seq (Wl _).wk ?_
      refine Tk.seq (Wl _).wk ?_
      refine Tk.reg (Wl _) ?_
      refine TkO.pureS (Wl _) (by rfl) (by rfl) (by rfl) (by rfl) (by (first | exact pure_move (.inl rfl) rfl | exact pure_move (.inr rfl) rfl | exact pure_nilCheck rfl rfl | exact pure_field rfl rfl (by rfl) rfl (by decide +kernel) | exact pure_int rfl rfl rfl rfl | exact pure_not rfl rfl | exact pure_pickT rfl rfl rfl | exact pure_pickF rfl rfl rfl | exact pure_shift rfl rfl rfl rfl | exact pure_eqlNil rfl rfl rfl (by rfl) | exact pure_conv rfl rfl (by rfl) (by rfl))) ?_
      refine TkO.pureS (Wl _) (by rfl) (by rfl) (by rfl) (by rfl) (by (first | exact pure_move (.inl rfl) rfl | exact pure_move (.inr rfl) rfl | exact pure_nilCheck rfl rfl | exact pure_field rfl rfl (by rfl) rfl (by decide +kernel) | exact pure_int rfl rfl rfl rfl | exact pure_not rfl rfl | exact pure_pickT rfl rfl rfl | exact pure_pickF rfl rfl rfl | exact pure_shift rfl rfl rfl rfl | exact pure_eqlNil rfl rfl rfl (by rfl) | exact pure_conv rfl rfl (by rfl) (by rfl))) ?_
      refine TkO.done (Wl _) (by rfl) ?_
      refine Tk.condT (Wl _).wk (congrArg (fun b => some (Value.bool b)) (decide_eq_true (show (n : Int) < 256 by omega))) ?_
      repeat (first
        | refine TkO.pureS (Wl own) (by rfl) (by rfl) (by rfl) (by rfl) (by exact pure_convE rfl rfl (by rfl) (by rfl) (wrap8u (r := n) (by omega))) ?_
        | refine TkO.done (Wl own) (by rfl) ?_ | refine TkO.unwantedS (Wl own) (by rfl) (by rfl) (by rfl) (by rfl) ?_ | refine TkO.pureS (Wl own) (by rfl) (by rfl) (by rfl) (by rfl) (by first | exact pure_move (.inl rfl) rfl | exact pure_move (.inr rfl) rfl | exact pure_nilCheck rfl rfl | exact pure_field rfl rfl (by rfl) rfl (by decide +kernel) | exact pure_int rfl rfl rfl rfl | exact pure_not rfl rfl | exact pure_pickT rfl rfl rfl | exact pure_pickF rfl rfl rfl | exact pure_shift rfl rfl rfl rfl | exact pure_eqlNil rfl rfl rfl (by rfl) | exact pure_conv rfl rfl (by rfl) (by rfl)) ?_ | refine Tk.seq (WkP.wk (Wl own)) ?_ | refine Tk.reg (Wl own) ?_ | refine Tk.skip (WkP.wk (Wl own)) ?_ | refine Tk.block (WkP.wk (Wl own)) ?_ | refine Tk.condT (WkP.wk (Wl own)) rfl ?_ | refine Tk.condF (WkP.wk (Wl own)) rfl ?_ | refine Tk.exit (WkP.wk (Wl own)) rfl ?_ | refine Tk.label (WkP.wk (Wl own)) ?_)
      refine TkO.call (Wl _) (by rfl) (by rfl) (by rfl) (by rfl) b8 rfl fun fr1 hk1 => ?_
      refine reason8 hf hP (hk1 _ _ _ (TkO.lay (rfl : Nv.put _ _ _ = (_, _) :: _) ?_))
      cases hR : isR n with
      | false =>
        have hz : intV .neq .i64 (cnt v n) 0 = some (.bool false) := by
          have : cnt v n = 0 := by unfold cnt; rw [hR]; rfl
          rw [this]; rfl
        repeat (first
          | refine TkO.pureS (Wl own) (by rfl) (by rfl) (by rfl) (by rfl) (by exact pure_convE rfl rfl (by rfl) (by rfl) (wrap8u (r := n) (by omega))) ?_
          | refine TkO.done (Wl own) (by rfl) ?_ | refine TkO.unwantedS (Wl own) (by rfl) (by rfl) (by rfl) (by rfl) ?_ | refine TkO.pureS (Wl own) (by rfl) (by rfl) (by rfl) (by rfl) (by first | exact pure_move (.inl rfl) rfl | exact pure_move (.inr rfl) rfl | exact pure_nilCheck rfl rfl | exact pure_field rfl rfl (by rfl) rfl (by decide +kernel) | exact pure_int rfl rfl rfl rfl | exact pure_not rfl rfl | exact pure_pickT rfl rfl rfl | exact pure_pickF rfl rfl rfl | exact pure_shift rfl rfl rfl rfl | exact pure_eqlNil rfl rfl rfl (by rfl) | exact pure_conv rfl rfl (by rfl) (by rfl)) ?_ | refine Tk.seq (WkP.wk (Wl own)) ?_ | refine Tk.reg (Wl own) ?_ | refine Tk.skip (WkP.wk (Wl own)) ?_ | refine Tk.block (WkP.wk (Wl own)) ?_ | refine Tk.condT (WkP.wk (Wl own)) rfl ?_ | refine Tk.condF (WkP.wk (Wl own)) rfl ?_ | refine Tk.exit (WkP.wk (Wl own)) rfl ?_ | refine Tk.label (WkP.wk (Wl own)) ?_)
        refine TkO.call (Wl _) (by rfl) (by rfl) (by rfl) (by rfl) b10 rfl fun fr4 hk4 => ?_
        refine many10M (r := n) hf hP m.ctr fun own2 w2 FP2 k2 c2 => hk4 _ _ _ (TkO.lay (rfl : Nv.put _ _ _ = (_, _) :: _) ?_)
        repeat (first
          | refine TkO.pureS (Wl own2) (by rfl) (by rfl) (by rfl) (by rfl) (by exact pure_int rfl rfl rfl hz) ?_
          | refine TkO.done (Wl own2) (by rfl) ?_ | refine TkO.unwantedS (Wl own2) (by rfl) (by rfl) (by rfl) (by rfl) ?_ | refine TkO.pureS (Wl own2) (by rfl) (by rfl) (by rfl) (by rfl) (by first | exact pure_move (.inl rfl) rfl | exact pure_move (.inr rfl) rfl | exact pure_nilCheck rfl rfl | exact pure_field rfl rfl (by rfl) rfl (by decide +kernel) | exact pure_int rfl rfl rfl rfl | exact pure_not rfl rfl | exact pure_pickT rfl rfl rfl | exact pure_pickF rfl rfl rfl | exact pure_shift rfl rfl rfl rfl | exact pure_eqlNil rfl rfl rfl (by rfl) | exact pure_conv rfl rfl (by rfl) (by rfl)) ?_ | refine Tk.seq (WkP.wk (Wl own2)) ?_ | refine Tk.reg (Wl own2) ?_ | refine Tk.skip (WkP.wk (Wl own2)) ?_ | refine Tk.block (WkP.wk (Wl own2)) ?_ | refine Tk.condT (WkP.wk (Wl own2)) rfl ?_ | refine Tk.condF (WkP.wk (Wl own2)) rfl ?_ | refine Tk.exit (WkP.wk (Wl own2)) rfl ?_ | refine Tk.label (WkP.wk (Wl own2)) ?_)
        refine Tk.inBlock (Wl _).wk ?_
        repeat (first
          | refine TkO.pureS (Wl own2) (by rfl) (by rfl) (by rfl) (by rfl) (by exact pure_addE rfl rfl rfl (wrap64 (by omega))) ?_
          | refine TkO.done (Wl own2) (by rfl) ?_ | refine TkO.unwantedS (Wl own2) (by rfl) (by rfl) (by rfl) (by rfl) ?_ | refine TkO.pureS (Wl own2) (by rfl) (by rfl) (by rfl) (by rfl) (by first | exact pure_move (.inl rfl) rfl | exact pure_move (.inr rfl) rfl | exact pure_nilCheck rfl rfl | exact pure_field rfl rfl (by rfl) rfl (by decide +kernel) | exact pure_int rfl rfl rfl rfl | exact pure_not rfl rfl | exact pure_pickT rfl rfl rfl | exact pure_pickF rfl rfl rfl | exact pure_shift rfl rfl rfl rfl | exact pure_eqlNil rfl rfl rfl (by rfl) | exact pure_conv rfl rfl (by rfl) (by rfl)) ?_ | refine Tk.seq (WkP.wk (Wl own2)) ?_ | refine Tk.reg (Wl own2) ?_ | refine Tk.skip (WkP.wk (Wl own2)) ?_ | refine Tk.block (WkP.wk (Wl own2)) ?_ | refine Tk.condT (WkP.wk (Wl own2)) rfl ?_ | refine Tk.condF (WkP.wk (Wl own2)) rfl ?_ | refine Tk.exit (WkP.wk (Wl own2)) rfl ?_ | refine Tk.label (WkP.wk (Wl own2)) ?_)
        refine Tk.inLoop (Wl _).wk ?_
        rw [← hKK]
        exact Tk.sub (ihm (n + 1) own2 w2 FP2 (by omega) (m.kf k2 c2) (a.kf k2)) (AllGet.sub ⟨rfl, rfl, rfl, rfl, rfl, trivial⟩)
      | true =>
        have hn19 : n < 19 := by unfold isR at hR; exact (of_decide_eq_true hR).2
        have hz : intV .neq .i64 (cnt v n) (v n) = some (.bool false) := by
          rw [hcv]
          simp only [intV, bne_self_eq_false]
        (repeat (first | refine TkO.done (Wl own) (by rfl) ?_ | refine TkO.unwantedS (Wl own) (by rfl) (by rfl) (by rfl) (by rfl) ?_ | refine TkO.pureS (Wl own) (by rfl) (by rfl) (by rfl) (by rfl) (by first | exact pure_move (.inl rfl) rfl | exact pure_move (.inr rfl) rfl | exact pure_nilCheck rfl rfl | exact pure_field rfl rfl (by rfl) rfl (by decide +kernel) | exact pure_int rfl rfl rfl rfl | exact pure_not rfl rfl | exact pure_pickT rfl rfl rfl | exact pure_pickF rfl rfl rfl | exact pure_shift rfl rfl rfl rfl | exact pure_eqlNil rfl rfl rfl (by rfl) | exact pure_conv rfl rfl (by rfl) (by rfl)) ?_ | refine Tk.seq (WkP.wk (Wl own)) ?_ | refine Tk.reg (Wl own) ?_ | refine Tk.skip (WkP.wk (Wl own)) ?_ | refine Tk.block (WkP.wk (Wl own)) ?_ | refine Tk.condT (WkP.wk (Wl own)) rfl ?_ | refine Tk.condF (WkP.wk (Wl own)) rfl ?_ | refine Tk.exit (WkP.wk (Wl own)) rfl ?_ | refine Tk.label (WkP.wk (Wl own)) ?_))
        refine TkO.pureS (Wl _) (by rfl) (by rfl) (by rfl) (by rfl) (pure_indexA (m := 19) (e := 3) (b := A) (off := 0) (k := .i64) (j := (n : Int)) (by rfl) (by rfl) (by decide +kernel) (by rfl) (by rfl) (by omega)) ?_
        rw [show (0 + ((n : Int)).toNat) = n by omega]
        refine TkO.loadAt (Wl _) (A := A) (m := n) hn19 (by rfl) (by rfl) (by rfl) (by rfl) (by rfl) (by rfl) a.ow a.heap ?_
        repeat (first
          | refine TkO.pureS (Wl own) (by rfl) (by rfl) (by rfl) (by rfl) (by exact pure_convE rfl rfl (by rfl) (by rfl) (wrap8u (r := n) (by omega))) ?_
          | refine TkO.done (Wl own) (by rfl) ?_ | refine TkO.unwantedS (Wl own) (by rfl) (by rfl) (by rfl) (by rfl) ?_ | refine TkO.pureS (Wl own) (by rfl) (by rfl) (by rfl) (by rfl) (by first | exact pure_move (.inl rfl) rfl | exact pure_move (.inr rfl) rfl | exact pure_nilCheck rfl rfl | exact pure_field rfl rfl (by rfl) rfl (by decide +kernel) | exact pure_int rfl rfl rfl rfl | exact pure_not rfl rfl | exact pure_pickT rfl rfl rfl | exact pure_pickF rfl rfl rfl | exact pure_shift rfl rfl rfl rfl | exact pure_eqlNil rfl rfl rfl (by rfl) | exact pure_conv rfl rfl (by rfl) (by rfl)) ?_ | refine Tk.seq (WkP.wk (Wl own)) ?_ | refine Tk.reg (Wl own) ?_ | refine Tk.skip (WkP.wk (Wl own)) ?_ | refine Tk.block (WkP.wk (Wl own)) ?_ | refine Tk.condT (WkP.wk (Wl own)) rfl ?_ | refine Tk.condF (WkP.wk (Wl own)) rfl ?_ | refine Tk.exit (WkP.wk (Wl own)) rfl ?_ | refine Tk.label (WkP.wk (Wl own)) ?_)
        refine TkO.call (Wl _) (by rfl) (by rfl) (by rfl) (by rfl) b10 rfl fun fr4 hk4 => ?_
        refine many10M (r := n) hf hP m.ctr fun own2 w2 FP2 k2 c2 => hk4 _ _ _ (TkO.lay (rfl : Nv.put _ _ _ = (_, _) :: _) ?_)
        repeat (first
          | refine TkO.pureS (Wl own2) (by rfl) (by rfl) (by rfl) (by rfl) (by exact pure_int rfl rfl rfl hz) ?_
          | refine TkO.done (Wl own2) (by rfl) ?_ | refine TkO.unwantedS (Wl own2) (by rfl) (by rfl) (by rfl) (by rfl) ?_ | refine TkO.pureS (Wl own2) (by rfl) (by rfl) (by rfl) (by rfl) (by first | exact pure_move (.inl rfl) rfl | exact pure_move (.inr rfl) rfl | exact pure_nilCheck rfl rfl | exact pure_field rfl rfl (by rfl) rfl (by decide +kernel) | exact pure_int rfl rfl rfl rfl | exact pure_not rfl rfl | exact pure_pickT rfl rfl rfl | exact pure_pickF rfl rfl rfl | exact pure_shift rfl rfl rfl rfl | exact pure_eqlNil rfl rfl rfl (by rfl) | exact pure_conv rfl rfl (by rfl) (by rfl)) ?_ | refine Tk.seq (WkP.wk (Wl own2)) ?_ | refine Tk.reg (Wl own2) ?_ | refine Tk.skip (WkP.wk (Wl own2)) ?_ | refine Tk.block (WkP.wk (Wl own2)) ?_ | refine Tk.condT (WkP.wk (Wl own2)) rfl ?_ | refine Tk.condF (WkP.wk (Wl own2)) rfl ?_ | refine Tk.exit (WkP.wk (Wl own2)) rfl ?_ | refine Tk.label (WkP.wk (Wl own2)) ?_)
        refine Tk.inBlock (Wl _).wk ?_
        repeat (first
          | refine TkO.pureS (Wl own2) (by rfl) (by rfl) (by rfl) (by rfl) (by exact pure_addE rfl rfl rfl (wrap64 (by omega))) ?_
          | refine TkO.done (Wl own2) (by rfl) ?_ | refine TkO.unwantedS (Wl own2) (by rfl) (by rfl) (by rfl) (by rfl) ?_ | refine TkO.pureS (Wl own2) (by rfl) (by rfl) (by rfl) (by rfl) (by first | exact pure_move (.inl rfl) rfl | exact pure_move (.inr rfl) rfl | exact pure_nilCheck rfl rfl | exact pure_field rfl rfl (by rfl) rfl (by decide +kernel) | exact pure_int rfl rfl rfl rfl | exact pure_not rfl rfl | exact pure_pickT rfl rfl rfl | exact pure_pickF rfl rfl rfl | exact pure_shift rfl rfl rfl rfl | exact pure_eqlNil rfl rfl rfl (by rfl) | exact pure_conv rfl rfl (by rfl) (by rfl)) ?_ | refine Tk.seq (WkP.wk (Wl own2)) ?_ | refine Tk.reg (Wl own2) ?_ | refine Tk.skip (WkP.wk (Wl own2)) ?_ | refine Tk.block (WkP.wk (Wl own2)) ?_ | refine Tk.condT (WkP.wk (Wl own2)) rfl ?_ | refine Tk.condF (WkP.wk (Wl own2)) rfl ?_ | refine Tk.exit (WkP.wk (Wl own2)) rfl ?_ | refine Tk.label (WkP.wk (Wl own2)) ?_)
        refine Tk.inLoop (Wl _).wk ?_
        rw [← hKK]
        exact Tk.sub (ihm (n + 1) own2 w2 FP2 (by omega) (m.kf k2 c2) (a.kf k2)) (AllGet.sub ⟨rfl, rfl, rfl, rfl, rfl, trivial⟩)
  exact Tk.sub (HH 256 0 own2 w3 FP rfl m3 a3) (AllGet.sub ⟨rfl, rfl, rfl, rfl, rfl, trivial⟩)
end Go.Co.F1

namespace Go.Co.F1
open Go Go.Conc Go.Proofs
open Go.Co
open Go.ConcN (upd upd_ne upd_same)
variable {E : Geo} {N i : Nat} {l : Lo} {w : World} {own own' : Nat → Prop} {w' : World} {FP FP' : Nat → Prop}
set_option maxRecDepth 10000
set_option maxHeartbeats 16000000 in
/-- CountsTells. -/
theorem tells3 {W : World} {bs : Option Addr} {nj cap : Nat} {wk : Int} {rr : Nat → Nat} {S0 : Nat} (hf : E.FinV) (hP : E.P = Try.prog) (hfin : E.fin = Fins W (if 300 < nj then 1 else 2) S0) (hsz : S0 ≤ w.heap.size) (ho : Old W own w) (ha : Arg W bs nj rr 0) :
    Tr E N 0 (mainLo own) (Conc.G (Frame.enter Try.prog 3 #[.slice bs nj cap, .int .i64 wk] .normal) []) w := by
  have Wl : ∀ own', WkP Try.prog E (mainLo own') (base 3) := fun own' => wk_main hf hP (by decide)
  refine Tr.enterP hP b3 (Nat.le_of_ble_eq_true rfl) ?_
  (repeat (first | refine TkO.done (Wl own) (by rfl) ?_ | refine TkO.unwantedS (Wl own) (by rfl) (by rfl) (by rfl) (by rfl) ?_ | refine TkO.pureS (Wl own) (by rfl) (by rfl) (by rfl) (by rfl) (by first | exact pure_move (.inl rfl) rfl | exact pure_move (.inr rfl) rfl | exact pure_nilCheck rfl rfl | exact pure_field rfl rfl (by rfl) rfl (by decide +kernel) | exact pure_int rfl rfl rfl rfl | exact pure_not rfl rfl | exact pure_pickT rfl rfl rfl | exact pure_pickF rfl rfl rfl | exact pure_shift rfl rfl rfl rfl | exact pure_eqlNil rfl rfl rfl (by rfl) | exact pure_conv rfl rfl (by rfl) (by rfl)) ?_ | refine Tk.seq (WkP.wk (Wl own)) ?_ | refine Tk.reg (Wl own) ?_ | refine Tk.skip (WkP.wk (Wl own)) ?_ | refine Tk.block (WkP.wk (Wl own)) ?_ | refine Tk.condT (WkP.wk (Wl own)) rfl ?_ | refine Tk.condF (WkP.wk (Wl own)) rfl ?_ | refine Tk.exit (WkP.wk (Wl own)) rfl ?_ | refine Tk.label (WkP.wk (Wl own)) ?_))
  refine TkO.pureS (Wl own) (by rfl) (by rfl) (by rfl) (by rfl) (pure_len rfl rfl (by rfl)) ?_
  by_cases hn : 300 < nj
  · rw [if_pos hn] at hfin
    have hz : intV .gtr .i64 (nj : Int) 300 = some (.bool true) := by
      simp only [intV]; rw [decide_eq_true (show (nj : Int) > 300 by omega)]
    repeat (first
      | refine TkO.pureS (Wl own) (by rfl) (by rfl) (by rfl) (by rfl) (by exact pure_int rfl rfl rfl hz) ?_
      | refine TkO.done (Wl own) (by rfl) ?_ | refine TkO.unwantedS (Wl own) (by rfl) (by rfl) (by rfl) (by rfl) ?_ | refine TkO.pureS (Wl own) (by rfl) (by rfl) (by rfl) (by rfl) (by first | exact pure_move (.inl rfl) rfl | exact pure_move (.inr rfl) rfl | exact pure_nilCheck rfl rfl | exact pure_field rfl rfl (by rfl) rfl (by decide +kernel) | exact pure_int rfl rfl rfl rfl | exact pure_not rfl rfl | exact pure_pickT rfl rfl rfl | exact pure_pickF rfl rfl rfl | exact pure_shift rfl rfl rfl rfl | exact pure_eqlNil rfl rfl rfl (by rfl) | exact pure_conv rfl rfl (by rfl) (by rfl)) ?_ | refine Tk.seq (WkP.wk (Wl own)) ?_ | refine Tk.reg (Wl own) ?_ | refine Tk.skip (WkP.wk (Wl own)) ?_ | refine Tk.block (WkP.wk (Wl own)) ?_ | refine Tk.condT (WkP.wk (Wl own)) rfl ?_ | refine Tk.condF (WkP.wk (Wl own)) rfl ?_ | refine Tk.exit (WkP.wk (Wl own)) rfl ?_ | refine Tk.label (WkP.wk (Wl own)) ?_)
    refine TkO.callE (Wl _) (by rfl) (by rfl) (by rfl) (by rfl) (by rfl) b6 rfl fun fr7 hk7 => ?_
    refine wakes6 hf hP hfin hsz ho fun E2 N2 own4 w4 _ f4 P4 fin4 _ o4 => hk7 E2 N2 _ _ _ ?_
    have W4 : WkP Try.prog E2 (mainLo own4) (base 3) := wk_main f4 P4 (by decide)
    (repeat (first | refine TkO.done W4 (by rfl) ?_ | refine TkO.unwantedS W4 (by rfl) (by rfl) (by rfl) (by rfl) ?_ | refine TkO.pureS W4 (by rfl) (by rfl) (by rfl) (by rfl) (by first | exact pure_move (.inl rfl) rfl | exact pure_move (.inr rfl) rfl | exact pure_nilCheck rfl rfl | exact pure_field rfl rfl (by rfl) rfl (by decide +kernel) | exact pure_int rfl rfl rfl rfl | exact pure_not rfl rfl | exact pure_pickT rfl rfl rfl | exact pure_pickF rfl rfl rfl | exact pure_shift rfl rfl rfl rfl | exact pure_eqlNil rfl rfl rfl (by rfl) | exact pure_conv rfl rfl (by rfl) (by rfl)) ?_ | refine Tk.seq (WkP.wk W4) ?_ | refine Tk.reg W4 ?_ | refine Tk.skip (WkP.wk W4) ?_ | refine Tk.block (WkP.wk W4) ?_ | refine Tk.condT (WkP.wk W4) rfl ?_ | refine Tk.condF (WkP.wk W4) rfl ?_ | refine Tk.exit (WkP.wk W4) rfl ?_ | refine Tk.label (WkP.wk W4) ?_))
    exact Tk.ret W4.wk (end3 fin4 o4 rfl)
  · rw [if_neg hn] at hfin
    have hnj : nj ≤ 300 := by omega
    have hz : intV .gtr .i64 (nj : Int) 300 = some (.bool false) := by
      simp only [intV]; rw [decide_eq_false (show ¬ (nj : Int) > 300 by omega)]
    repeat (first
      | refine TkO.pureS (Wl own) (by rfl) (by rfl) (by rfl) (by rfl) (by exact pure_int rfl rfl rfl hz) ?_
      | refine TkO.done (Wl own) (by rfl) ?_ | refine TkO.unwantedS (Wl own) (by rfl) (by rfl) (by rfl) (by rfl) ?_ | refine TkO.pureS (Wl own) (by rfl) (by rfl) (by rfl) (by rfl) (by first | exact pure_move (.inl rfl) rfl | exact pure_move (.inr rfl) rfl | exact pure_nilCheck rfl rfl | exact pure_field rfl rfl (by rfl) rfl (by decide +kernel) | exact pure_int rfl rfl rfl rfl | exact pure_not rfl rfl | exact pure_pickT rfl rfl rfl | exact pure_pickF rfl rfl rfl | exact pure_shift rfl rfl rfl rfl | exact pure_eqlNil rfl rfl rfl (by rfl) | exact pure_conv rfl rfl (by rfl) (by rfl)) ?_ | refine Tk.seq (WkP.wk (Wl own)) ?_ | refine Tk.reg (Wl own) ?_ | refine Tk.skip (WkP.wk (Wl own)) ?_ | refine Tk.block (WkP.wk (Wl own)) ?_ | refine Tk.condT (WkP.wk (Wl own)) rfl ?_ | refine Tk.condF (WkP.wk (Wl own)) rfl ?_ | refine Tk.exit (WkP.wk (Wl own)) rfl ?_ | refine Tk.label (WkP.wk (Wl own)) ?_)
    refine TkO.newM (Wl _) (d := 5) (by rfl) (by rfl) (by rfl) (by rfl) (fun r => ptr r 0) (.cells #[.int .u32 0, .int .i32 0, .int .u32 0, .slice none 0 0] 38 (0, 0)) (fun a ha w₁ => exec_allocC (t := 38) (by rfl) (by rfl) w₁) fun own1 w1 C k1 C1 C2 C3 => ?_
    have hC : W.heap.size ≤ C := Nat.le_trans ho.size C1
    have m1 : Ms W S0 C (cN rr 0) own1 w1 (fun b => b = C) := by
      have e : cN rr 0 = fun _ => 0 := by funext r; rfl
      rw [e]
      exact ⟨Nat.le_trans hsz k1.size, ho.kp k1, ctr_new C2 C3, fun b hb => by rw [hb]; exact hC⟩
    (repeat (first | refine TkO.done (Wl own1) (by rfl) ?_ | refine TkO.unwantedS (Wl own1) (by rfl) (by rfl) (by rfl) (by rfl) ?_ | refine TkO.pureS (Wl own1) (by rfl) (by rfl) (by rfl) (by rfl) (by first | exact pure_move (.inl rfl) rfl | exact pure_move (.inr rfl) rfl | exact pure_nilCheck rfl rfl | exact pure_field rfl rfl (by rfl) rfl (by decide +kernel) | exact pure_int rfl rfl rfl rfl | exact pure_not rfl rfl | exact pure_pickT rfl rfl rfl | exact pure_pickF rfl rfl rfl | exact pure_shift rfl rfl rfl rfl | exact pure_eqlNil rfl rfl rfl (by rfl) | exact pure_conv rfl rfl (by rfl) (by rfl)) ?_ | refine Tk.seq (WkP.wk (Wl own1)) ?_ | refine Tk.reg (Wl own1) ?_ | refine Tk.skip (WkP.wk (Wl own1)) ?_ | refine Tk.block (WkP.wk (Wl own1)) ?_ | refine Tk.condT (WkP.wk (Wl own1)) rfl ?_ | refine Tk.condF (WkP.wk (Wl own1)) rfl ?_ | refine Tk.exit (WkP.wk (Wl own1)) rfl ?_ | refine Tk.label (WkP.wk (Wl own1)) ?_))
    refine Tk.loop (Wl _).wk ?_
    refine Tk.cut fun KK hKK => ?_
    have HH : ∀ (m n : Nat) (E : Geo) (N : Nat) S0 own w FP, n + m = nj → E.FinV → E.P = Try.prog → E.fin = Fins W 2 S0 → Ms W S0 C (cN rr n) own w FP →
        Tk E N 0 (mainLo own) w (base 3) 67 [(0, .slice bs nj cap), (1, .int .i64 wk), (5, ptr C 0), (6, .int .i64 n)] [] KK [] := by
      intro m
      induction m with
      | zero =>
        intro n E N S0 own w FP hn2 hf hP hfin m
        have Wl : ∀ own', WkP Try.prog E (mainLo own') (base 3) := fun own' => wk_main hf hP (by decide)
        have hn3 : n = nj := by omega
        subst hn3
        rw [hKK]
        refine Tk.seq (Wl _).wk ?_
        refine Tk.seq (Wl _).wk ?_
        refine Tk.reg (Wl _) ?_
        refine TkO.pureS (Wl _) (by rfl) (by rfl) (by rfl) (by rfl) (by (first | exact pure_move (.inl rfl) rfl | exact pure_move (.inr rfl) rfl | exact pure_nilCheck rfl rfl | exact pure_field rfl rfl (by rfl) rfl (by decide +kernel) | exact pure_int rfl rfl rfl rfl | exact pure_not rfl rfl | exact pure_pickT rfl rfl rfl | exact pure_pickF rfl rfl rfl | exact pure_shift rfl rfl rfl rfl | exact pure_eqlNil rfl rfl rfl (by rfl) | exact pure_conv rfl rfl (by rfl) (by rfl))) ?_
        refine TkO.pureS (Wl _) (by rfl) (by rfl) (by rfl) (by rfl) (by (first | exact pure_move (.inl rfl) rfl | exact pure_move (.inr rfl) rfl | exact pure_nilCheck rfl rfl | exact pure_field rfl rfl (by rfl) rfl (by decide +kernel) | exact pure_int rfl rfl rfl rfl | exact pure_not rfl rfl | exact pure_pickT rfl rfl rfl | exact pure_pickF rfl rfl rfl | exact pure_shift rfl rfl rfl rfl | exact pure_eqlNil rfl rfl rfl (by rfl) | exact pure_conv rfl rfl (by rfl) (by rfl))) ?_
        refine TkO.pureS (Wl own) (by rfl) (by rfl) (by rfl) (by rfl) (pure_len rfl rfl (by rfl)) ?_
        refine TkO.pureS (Wl _) (by rfl) (by rfl) (by rfl) (by rfl) (by (first | exact pure_move (.inl rfl) rfl | exact pure_move (.inr rfl) rfl | exact pure_nilCheck rfl rfl | exact pure_field rfl rfl (by rfl) rfl (by decide +kernel) | exact pure_int rfl rfl rfl rfl | exact pure_not rfl rfl | exact pure_pickT rfl rfl rfl | exact pure_pickF rfl rfl rfl | exact pure_shift rfl rfl rfl rfl | exact pure_eqlNil rfl rfl rfl (by rfl) | exact pure_conv rfl rfl (by rfl) (by rfl))) ?_
        refine TkO.done (Wl _) (by rfl) ?_
        refine Tk.condF (Wl _).wk (congrArg (fun b => some (Value.bool b)) (decide_eq_false (show ¬ (n : Int) < (n : Int) by omega))) ?_
        refine Tk.exit (Wl _).wk rfl ?_
        exact Tk.sub (tells3b hf hP hfin m ha hnj) (AllGet.sub ⟨rfl, rfl, rfl, trivial⟩)
      | succ m ihm =>
        intro n E N S0 own w FP hn2 hf hP hfin m
        have Wl : ∀ own', WkP Try.prog E (mainLo own') (base 3) := fun own' => wk_main hf hP (by decide)
        have hlt : n < nj := by omega
        rw [hKK]
        refine Tk.seq (Wl _).wk ?_
        refine Tk.seq (Wl _).wk ?_
        refine Tk.reg (Wl _) ?_
        refine TkO.pureS (Wl _) (by rfl) (by rfl) (by rfl) (by rfl) (by (first | exact pure_move (.inl rfl) rfl | exact pure_move (.inr rfl) rfl | exact pure_nilCheck rfl rfl | exact pure_field rfl rfl (by rfl) rfl (by decide +kernel) | exact pure_int rfl rfl rfl rfl | exact pure_not rfl rfl | exact pure_pickT rfl rfl rfl | exact pure_pickF rfl rfl rfl | exact pure_shift rfl rfl rfl rfl | exact pure_eqlNil rfl rfl rfl (by rfl) | exact pure_conv rfl rfl (by rfl) (by rfl))) ?_
        refine TkO.pureS (Wl _) (by rfl) (by rfl) (by rfl) (by rfl) (by (first | exact pure_move (.inl rfl) rfl | exact pure_move (.inr rfl) rfl | exact pure_nilCheck rfl rfl | exact pure_field rfl rfl (by rfl) rfl (by decide +kernel) | exact pure_int rfl rfl rfl rfl | exact pure_not rfl rfl | exact pure_pickT rfl rfl rfl | exact pure_pickF rfl rfl rfl | exact pure_shift rfl rfl rfl rfl | exact pure_eqlNil rfl rfl rfl (by rfl) | exact pure_conv rfl rfl (by rfl) (by rfl))) ?_
        refine TkO.pureS (Wl own) (by rfl) (by rfl) (by rfl) (by rfl) (pure_len rfl rfl (by rfl)) ?_
        refine TkO.pureS (Wl _) (by rfl) (by rfl) (by rfl) (by rfl) (by (first | exact pure_move (.inl rfl) rfl | exact pure_move (.inr rfl) rfl | exact pure_nilCheck rfl rfl | exact pure_field rfl rfl (by rfl) rfl (by decide +kernel) | exact pure_int rfl rfl rfl rfl | exact pure_not rfl rfl | exact pure_pickT rfl rfl rfl | exact pure_pickF rfl rfl rfl | exact pure_shift rfl rfl rfl rfl | exact pure_eqlNil rfl rfl rfl (by rfl) | exact pure_conv rfl rfl (by rfl) (by rfl))) ?_
        refine TkO.done (Wl _) (by rfl) ?_
        refine Tk.condT (Wl _).wk (congrArg (fun b => some (Value.bool b)) (decide_eq_true (show (n : Int) < (nj : Int) by omega))) ?_
        refine Tk.skip (Wl _).wk ?_
        refine Tk.seq (Wl _).wk ?_
        refine Tk.block (Wl _).wk ?_
        refine Tk.seq (Wl _).wk ?_
        refine Tk.freeE (Wl _) mixed (I := It W 2 [] (v7 bs nj cap wk n rr C) bs7 (M7 W C n rr)) (by decide +kernel) ?_ ?_ ?_ ?_
        · refine ⟨fun _ => 0, own, S0, FP, rfl, hf, hP, hfin, m.sz, ⟨by simp, fun x hx => ?_, fun m o' d _ _ hu => absurd hu (not_up0 _ _)⟩, m.old, ?_, m.fpo⟩
          · have : x = 0 ∨ x = 1 ∨ x = 5 ∨ x = 6 := by simpa [bs7] using hx
            rcases this with rfl | rfl | rfl | rfl <;> rfl
          · rw [if_neg (by rw [upB_no (not_up0 _ _)]; exact fun e => by cases e)]; exact m.ctr
        · intro E L l w env ⟨_, own, S0, FP, hl, hf, hP, _, _, F, _⟩
          subst hl
          exact ⟨F.size, wk_main hf hP (by decide)⟩
        · exact reg7 rfl (fun own w o => ha.sl o) hlt hnj ha.rr
        · intro E' N' L l' w' env ⟨_, own', S', FP', hl, hf', hP', hfin', hsz', F, ho', mc, mf⟩ hall
          subst hl
          have W' : WkP Try.prog E' (mainLo own') (base 3) := wk_main hf' hP' (by decide)
          rw [if_pos (upB_yes (hall 4 (by decide)))] at mc
          refine Tk.sub (env' := [(0, .slice bs nj cap), (1, .int .i64 wk), (5, ptr C 0), (6, .int .i64 n), (30, .bool false)]) ?_ (AllGet.sub ⟨F.base 0 rfl, F.base 1 rfl, F.base 5 rfl, F.base 6 rfl, F.get (j := 10) (d := 30) (by rfl) rfl (hall 10 (by decide)), trivial⟩)
          refine Tk.condF W'.wk rfl ?_
          refine Tk.skip W'.wk ?_
          refine Tk.inBlock W'.wk ?_
          refine Tk.reg W' ?_
          refine TkO.pureS W' (by rfl) (by rfl) (by rfl) (by rfl) (by (first | exact pure_move (.inl rfl) rfl | exact pure_move (.inr rfl) rfl | exact pure_nilCheck rfl rfl | exact pure_field rfl rfl (by rfl) rfl (by decide +kernel) | exact pure_int rfl rfl rfl rfl | exact pure_not rfl rfl | exact pure_pickT rfl rfl rfl | exact pure_pickF rfl rfl rfl | exact pure_shift rfl rfl rfl rfl | exact pure_eqlNil rfl rfl rfl (by rfl) | exact pure_conv rfl rfl (by rfl) (by rfl))) ?_
          refine TkO.pureS W' (by rfl) (by rfl) (by rfl) (by rfl) (by (first | exact pure_move (.inl rfl) rfl | exact pure_move (.inr rfl) rfl | exact pure_nilCheck rfl rfl | exact pure_field rfl rfl (by rfl) rfl (by decide +kernel) | exact pure_int rfl rfl rfl rfl | exact pure_not rfl rfl | exact pure_pickT rfl rfl rfl | exact pure_pickF rfl rfl rfl | exact pure_shift rfl rfl rfl rfl | exact pure_eqlNil rfl rfl rfl (by rfl) | exact pure_conv rfl rfl (by rfl) (by rfl))) ?_
          rw [wrap64 (by omega)]
          refine TkO.pureS W' (by rfl) (by rfl) (by rfl) (by rfl) (by (first | exact pure_move (.inl rfl) rfl | exact pure_move (.inr rfl) rfl | exact pure_nilCheck rfl rfl | exact pure_field rfl rfl (by rfl) rfl (by decide +kernel) | exact pure_int rfl rfl rfl rfl | exact pure_not rfl rfl | exact pure_pickT rfl rfl rfl | exact pure_pickF rfl rfl rfl | exact pure_shift rfl rfl rfl rfl | exact pure_eqlNil rfl rfl rfl (by rfl) | exact pure_conv rfl rfl (by rfl) (by rfl))) ?_
          refine TkO.done W' (by rfl) ?_
          refine Tk.inLoop W'.wk ?_
          rw [← hKK]
          exact Tk.sub (ihm (n + 1) E' N' S' own' w' FP' (by omega) hf' hP' hfin' ⟨hsz', ho', mc, mf⟩) (AllGet.sub ⟨rfl, rfl, rfl, rfl, trivial⟩)
    exact Tk.sub (HH nj 0 E N S0 own1 w1 _ (by omega) hf hP hfin m1) (AllGet.sub ⟨rfl, rfl, rfl, rfl, trivial⟩)
end Go.Co.F1

namespace Go.Co.Row
open Go Go.Conc Go.RowKit Go.WideShapes Go.ChangeShapes
section
variable {H : Type} {enc : TypeId × Value → H} {P : Program}
theorem post_below {f : Func} {s : ChangeSpec} {apart fresh handsOn again : Bool} {W W' : World} {args : Array Value} {v : Value} {ds gs : List (DataW H)} {before pa pv : List MemPlace}
    (hW : DataW.Whole enc P f.params.toList s.vars apart W args.toList ds gs before)
    (hres : ∀ (b : Nat) (sp : Nat → Bool) (hd : Bool), DataW.TrodAll enc P W' b sp hd f.resultTypes.toList (v.resultList f.resultTypes.size) (s.fn H (ds ++ gs)).results [])
    (hargs : ∀ sp : Nat → Bool, (∀ p ∈ before, sp p.block = true) → DataW.TrodAll enc P W' 0 sp true f.params.toList args.toList (s.fn H (ds ++ gs)).args pa)
    (hvars : ∀ sp : Nat → Bool, (∀ p ∈ before, sp p.block = true) → DataW.TrodVars enc P W' sp s.vars (s.fn H (ds ++ gs)).vars pv)
    (hps : before = pa ++ pv) (hb : Go.RowKit.Below W.heap.size W W')
    (hok : ∀ (j : Nat) (t : TypeId) (r : Value), f.resultTypes[j]? = some t → (v.resultList f.resultTypes.size)[j]? = some r → Value.okWide P W' .any 0 t r) :
    s.post enc P f apart fresh handsOn again W args v W' := by
  have hlt : ∀ p ∈ before, p.block < W.heap.size := fun p hp => hW.lt p hp
  have hold : ∀ p ∈ before, (fun b => decide (b < W.heap.size)) p.block = true := fun p hp => by simpa using hlt p hp
  refine ⟨ds, gs, before, [], pa, pv, hW, hres _ _ _, hargs _ hold, hvars _ hold, World.keptBut_mono (fun p hp => ⟨hp, ?_⟩) (hb.frame (· ∈ before)), fun _ => ?_⟩
  · rw [hps, List.mem_append] at hp
    exact Or.inr hp
  · obtain ⟨_, _, _, _, _, hz, hn⟩ := hW
    refine ⟨hok, _, _, ([] ++ pa) ++ pv, ⟨[] ++ pa, pv, trodAll_append (hargs _ (fun _ _ => rfl)) (hres _ _ _), hvars _ (fun _ _ => rfl), rfl, ?_, ?_⟩, ?_⟩
    · intro b off hp
      have hin : MemPlace.cell b off ∈ before := by rw [hps]; simpa using hp
      rw [hb.frozen (hlt _ hin)]
      exact hz b off hin
    · intro ha
      have := hn ha
      rw [hps] at this
      simpa using this
    · intro p hp _
      rw [hps]
      simpa using hp
theorem trodAll_stays (hl : laidOutB P = true) {W W' : World} {sp : Nat → Bool} (hb : Go.RowKit.Below W.heap.size W W') : ∀ {ts : List TypeId} {vs : List Value} {ds : List (DataW H)} {ps : List MemPlace}, (∀ t ∈ ts, P.readableRec t = true ∧ t < P.types.size) →
    DataW.TrodAll enc P W 0 (fun _ => true) true ts vs ds ps → (∀ x ∈ ps, x.block < W.heap.size) → (∀ x ∈ ps, sp x.block = true) → DataW.TrodAll enc P W' 0 sp true ts vs ds ps
  | [], [], [], ps, _, h, _, _ => h
  | t :: ts, v :: vs, d :: ds, ps, hr, h, hlt, hsp => by
    obtain ⟨p, q, h1, h2, rfl⟩ := h
    refine ⟨p, q, ?_, trodAll_stays hl hb (fun t ht => hr t (by simp [ht])) h2 (fun x hx => hlt x (by simp [hx])) fun x hx => hsp x (by simp [hx]), rfl⟩
    exact WideElems.Trod_stays hl (hr t (by simp)).1 (hr t (by simp)).2 h1 (fun x hx => hb.same (hlt x (by simp [hx]))) fun x hx => hsp x (by simp [hx])
theorem trodAll_length : ∀ {W : World} {b : Nat} {sp : Nat → Bool} {hd : Bool} {ts : List TypeId} {vs : List Value} {ds : List (DataW H)} {ps : List MemPlace}, DataW.TrodAll enc P W b sp hd ts vs ds ps → ds.length = ts.length ∧ vs.length = ts.length
  | _, _, _, _, [], [], [], _, _ => ⟨rfl, rfl⟩
  | _, _, _, _, _ :: ts, _ :: vs, _ :: ds, _, h => by
    obtain ⟨p, q, h1, h2, _⟩ := h
    obtain ⟨e1, e2⟩ := trodAll_length h2
    simp [e1, e2]
theorem open_bytes {W : World} {base : Nat} {t e : TypeId} {v : Value} {d : DataW H} {ps : List MemPlace} (ht : P.underlying t = some (.slice e)) (he : P.underlying e = some (.int .u8)) (hc : P.cellsOf e = 1)
    (hval : Value.okWide P W .any base t v) (h : DataW.Trod enc P W 0 (fun _ => true) true t v d ps) :
    ∃ (bs : Option Addr) (nj cap : Nat) (rr : Nat → Nat), v = .slice bs nj cap ∧ (∀ q, rr q < 256) ∧ ∀ q, q < nj → ∃ b o, bs = some ⟨b, o, none⟩ ∧ b < W.heap.size ∧ W.cell? ⟨b, o + q, none⟩ = some (.int .u8 (rr q)) := by
  have hval2 := hval
  obtain ⟨a1, len, cap, rfl⟩ := okWide_slice ht hval
  obtain ⟨fuel, hf⟩ := h
  rcases open_ints ht he hc hf with ⟨hcs, hx⟩ | ⟨a, len', cap', zs, hcs, _, hl, hm, hz, hx, hcell, hwz⟩
  · simp [Value.cells] at hcs
    obtain ⟨rfl, rfl, rfl⟩ := hcs
    exact ⟨none, 0, 0, fun _ => 0, rfl, fun _ => Nat.zero_lt_succ 255, fun q hq => absurd hq (Nat.not_lt_zero _)⟩
  · simp [Value.cells] at hcs
    obtain ⟨rfl, rfl, rfl⟩ := hcs
    simp only [if_true] at hz
    have hspot : a.spot = none := by
      simp only [Value.okWide, ht, Cell.okWide, Cell.ok] at hval2
      exact hval2.2.2.2.1
    obtain ⟨ab, ao, spot⟩ := a
    simp only at hspot
    subst hspot
    have hbd : ∀ q, q < zs.length → 0 ≤ zs.getD q 0 ∧ zs.getD q 0 ≤ 255 := fun q hq => by
      have h1 : zs.getD q 0 ∈ zs := by
        rw [List.getD_eq_getElem?_getD, List.getElem?_eq_getElem hq]
        exact List.getElem_mem hq
      have := hwz _ h1
      have h2 : IntKind.u8.min ≤ zs.getD q 0 ∧ zs.getD q 0 ≤ IntKind.u8.max := by simpa [Lit.wf, IntKind.has] using this
      exact h2
    refine ⟨some ⟨ab, ao, none⟩, len, cap, fun q => if q < zs.length then (zs.getD q 0).toNat else 0, rfl, fun q => ?_, fun q hq => ⟨ab, ao, rfl, ?_, ?_⟩⟩
    · show (if q < zs.length then (zs.getD q 0).toNat else 0) < 256
      split
      · rename_i h1
        have := hbd q h1
        omega
      · decide
    · have := hcell q (by omega)
      have hb := Go.Co.cell_block this
      have e : ((⟨ab, ao, none⟩ : Addr).add q).block = ab := by unfold Addr.add; split <;> rfl
      rwa [e] at hb
    · have := hcell q (by omega)
      have e : (⟨ab, ao, none⟩ : Addr).add q = ⟨ab, ao + q, none⟩ := by
        unfold Addr.add; split
        · rename_i h; subst h; rfl
        · rfl
      rw [e] at this
      rw [this]
      have h1 : q < zs.length := by omega
      have h2 := hbd q h1
      have h3 : (if q < zs.length then (zs.getD q 0).toNat else 0) = (zs.getD q 0).toNat := if_pos h1
      show some (Value.int .u8 (zs.getD q 0)) = some (Value.int .u8 ((if q < zs.length then (zs.getD q 0).toNat else 0 : Nat) : Int))
      rw [h3]
      congr 2
      omega
theorem leaving_post {fn : Func} {s : ChangeSpec} {t : TypeId} {W w' : World} {args : Array Value} {ds gs : List (DataW H)} {before : List MemPlace}
    (hvars : s.vars = []) (hfn : ∀ l : List (DataW H), l.length = fn.params.size → (s.fn H l).results = [.lit (.bool true)] ∧ (s.fn H l).args = l ∧ (s.fn H l).vars = [])
    (hres : fn.resultTypes = #[t]) (ht : P.underlying t = some .bool) (hl : laidOutB P = true) (hr0 : (fn.params.toList.all fun t => P.readableRec t && decide (t < P.types.size)) = true)
    (hW : DataW.Whole enc P fn.params.toList s.vars false W args.toList ds gs before) (hb : Go.RowKit.Below W.heap.size W w') : s.post enc P fn false true false false W args (.bool true) w' := by
  have hr : ∀ t ∈ fn.params.toList, P.readableRec t = true ∧ t < P.types.size := fun t ht => by
    have := List.all_eq_true.1 hr0 t ht
    rw [Bool.and_eq_true] at this
    exact ⟨this.1, of_decide_eq_true this.2⟩
  have hW' := hW
  obtain ⟨p, q, hA, hV, hpq, _, _⟩ := hW'
  rw [hvars] at hV
  obtain ⟨rfl, rfl⟩ := trodVars_none hV
  have hlen := (trodAll_length hA).1
  obtain ⟨r1, r2, r3⟩ := hfn (ds ++ []) (by simpa using hlen)
  have hlt : ∀ x ∈ before, x.block < W.heap.size := fun x hx => hW.lt x hx
  refine post_below (pa := before) (pv := []) hW (fun b sp hd => ?_) (fun sp hsp => ?_) (fun sp _ => ?_) (by simp) hb ?_
  · rw [r1, hres]
    exact trodAll_cons_mk (shut_bool ht _) trodAll_mk0
  · rw [r2, List.append_nil]
    have e : before = p := by rw [hpq, List.append_nil]
    rw [e] at hsp hlt ⊢
    exact trodAll_stays hl hb hr hA hlt hsp
  · rw [r3, hvars]
    exact rfl
  · exact ok_one hres rfl (okWide_bool_mk ht _)
end
end Go.Co.Row

namespace Go.Proofs.Ytcikailibheakaa
open Go Go.Conc Go.RowKit Go.WideShapes Go.ChangeShapes Go.Co Go.Co.F1 Go.Co.Row
set_option maxRecDepth 100000
set_option maxHeartbeats 4000000
theorem open_int {P : Program} {W : World} {base : Nat} {t : TypeId} {v : Value} (ht : P.underlying t = some (.int .i64)) (hval : Value.okWide P W .any base t v) : ∃ n : Int, v = .int .i64 n := by
  have h : Cell.okWide P W .any base t v := by
    simpa only [Value.okWide, ht] using hval
  simp only [Cell.okWide, ht] at h
  cases v <;> simp_all [Cell.ok]
theorem own : ownKnob Try.prog.godebug = none := by kernel_rfl
theorem laid : laidOutB Try.prog = true := by kernel_rfl
theorem tells_params : Try.f3.params = #[22, 3] := by kernel_rfl
theorem ul22 : Try.prog.underlying 22 = some (.slice 5) := by kernel_rfl
theorem ul3 : Try.prog.underlying 3 = some (.int .i64) := by kernel_rfl
theorem ul5 : Try.prog.underlying 5 = some (.int .u8) := by kernel_rfl
theorem ul4 : Try.prog.underlying 4 = some .bool := by kernel_rfl
theorem cells5 : Try.prog.cellsOf 5 = 1 := by kernel_rfl
theorem tells_lifted (os : Os) (started : os.Started) (H : Type) (enc : TypeId × Value → H) (F : Stop.Interp) :
    ReturnsInLeavingWide { calm := true } Try.checked os 3 .any (Rows.countsTellsSpec.pre6 enc Try.prog Try.f3 Rows.countsTellsRow.domain false) ((OpenSpec.ofChange Rows.countsTellsSpec).postWith enc Try.prog Try.f3 F (outsideKept [.timePasses]) false true false) := by
  refine returnsInLeavingWide_of_change_time (C := Try.checked) own started Try.func3
    (ChangeSpec.witness6c (enc := enc) (C := Try.checked) ⟨#[], #[.slice none 0 0, .int .i64 0], []⟩ 8 (by kernel_rfl) (by kernel_rfl) (by kernel_rfl) (by kernel_rfl)) ?_
  intro W base args ds gs before hval hW _ _ _
  have hW0 := hW
  obtain ⟨ps, qs, hA0, hV, rfl, hfz, hnd⟩ := hW
  have hA : DataW.TrodAll enc Try.prog W 0 (fun _ => true) true Try.f3.params.toList args.toList ds ps := hA0
  rw [tells_params] at hA hval
  obtain ⟨v0, vs0, d0, ds0, p0, q0, hargs, rfl, rfl, h0, r0⟩ := trodAll_cons hA
  obtain ⟨v1, vs1, d1, ds1, p1, q1, rfl, rfl, rfl, h1, r1⟩ := trodAll_cons r0
  obtain ⟨rfl, rfl, rfl⟩ := trodAll_nil r1
  obtain rfl : args = #[v0, v1] := by cases args; simp_all
  obtain ⟨bs, nj, cap, rr, rfl, hrr, hat⟩ := open_bytes ul22 ul5 cells5 (hval 0 22 v0 rfl rfl) h0
  obtain ⟨x, rfl⟩ := open_int ul3 (hval 1 3 v1 rfl rfl)
  obtain ⟨M, last, o, w', t', r1, r2, r3, v, ho, ⟨hv, e1, e2, e3, e4, e5⟩, g2, g3, g4, g5⟩ := law_runs (W := W) (if 300 < nj then 1 else 2) (g0 := Conc.G (Frame.enter Try.prog 3 #[.slice bs nj cap, .int .i64 x] .normal) []) rfl fun E N hf hP hfin =>
    tells3 (rr := rr) hf hP hfin (Nat.le_refl _) ⟨Nat.le_refl _, fun b hb => ⟨hb, rfl⟩⟩ ⟨hat, hrr, by decide⟩
  refine ⟨M, last, o, w', t', r1, r2, r3, v, ho, ⟨?_, e3⟩, g2, g3, g4, g5⟩
  rw [hv]
  refine leaving_post (t := 4) (s := Rows.countsTellsSpec) rfl (fun l hl => ?_) rfl ul4 laid (by kernel_rfl) hW0 ⟨rfl, e1, e2, e4, e5⟩
  match l, hl with
  | [_, _], _ => exact ⟨rfl, rfl, rfl⟩
theorem tells_holds : Rows.CountsTellsSaid :=
  OpenClaim.holds_of_wide_leaving_time 3 Try.f3 rfl rfl rfl rfl rfl rfl rfl ⟨rfl, rfl, rfl, rfl, rfl⟩ rfl rfl rfl rfl rfl (by kernel_rfl) Try.func3 (by kernel_rfl)
    (of_decide_eq_true (by kernel_rfl)) (by unfold Func.isWrapper; first | (rw [if_pos (by decide +kernel)]; kernel_rfl) | (rw [if_neg (by decide +kernel)]; exact ⟨rfl, rfl⟩))
    (fun os started H enc _ F => tells_lifted os started H enc F)
end Go.Proofs.Ytcikailibheakaa

#print axioms Go.Proofs.Ytcikailibheakaa.tells_holds
