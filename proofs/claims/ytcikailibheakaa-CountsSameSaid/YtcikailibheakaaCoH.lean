/- A theory of many goroutines that count at once (a channel, a wait group, once, a mutex), the walks of the program's functions in it, and the law CountsSame of the seat, proved out of them. No condition beyond those that stand in each statement. -/
import Derived.Test.YtcikailibheakaaCoG
import Derived.Laws.OwnMore
import Derived.ProofKit
import Derived.OpenShut
import Derived.Below
import Derived.ChangeSame
import Derived.ChangeSlices
import Derived.Conc.HoldsTime
import Derived.Test.YtcikailibheakaaRows
namespace Go.Co.F1
open Go Go.Conc Go.Proofs
open Go.Co
open Go.ConcN (upd upd_ne upd_same)
variable {E : Geo} {N i : Nat} {l : Lo} {w : World} {own own' : Nat → Prop} {w' : World} {FP FP' : Nat → Prop}
set_option maxRecDepth 10000
theorem ctr_new {r : Nat} (h : own r) (hh : w.heap[r]? = some (.cells #[.int .u32 0, .int .i32 0, .int .u32 0, .slice none 0 0] 38 (0, 0))) : Ctr own w r (fun b => b = r) (fun _ => 0) :=
  .inl ⟨CB.of h hh, fun _ => Iff.rfl, fun _ => rfl⟩
section
variable {b : Frame} {n : Nat} {env : Nv} {ds : List Deferred} {k : List Item} {cs : List Frame} {ops : Array Oper} {j : Nat} {o : Oper}
theorem TkO.storeAt (W : WkP Try.prog E (mainLo own) b) {A m : Nat} {f : Nat → Int} {v : Int} {x y : Operand} (hm : m < 19) (ho : ops[j]? = some o) (hw : wantE ops env o = some true) (hd : o.dst = none) (hop : o.op = .store 3 x y)
    (hx : env.ev x = some (ptr A m)) (hy : env.ev y = some (.int .i64 v)) (hown : own A) (hh : w.heap[A]? = some (.cells (arrV 19 f) 40 (0, 0)))
    (h : ∀ w', w.heap.size ≤ w'.heap.size → (∀ b, own b → b ≠ A → w'.heap[b]? = w.heap[b]?) → w'.heap[A]? = some (.cells (arrV 19 (upd f m v)) 40 (0, 0)) → TkO E N i (mainLo own) w' b n env ds ops (j + 1) k cs) : TkO E N i (mainLo own) w b n env ds ops j k cs := by
  have hc : w.cell? (adr A m) = some (.int .i64 (f m)) := by
    rw [cell_at hh, arrV_get, if_pos hm]
  refine TkO.open ho (Tk.ostore W.wk rfl (t := 3) (x := x) (y := y) (ad := adr A m) (v := .int .i64 v) ho hw hd hop (by rw [W.hP]; exact ⟨_, by rfl, by rfl⟩) rfl rfl hx hy hown hc (by unfold World.frozen?; rw [show w.heap[(adr A m).block]? = _ from hh]; simp) fun w₁ hv => ?_)
  refine h _ (by rw [setCell_size]; exact hv.1) (fun b hb hn => ?_) ?_
  · rw [set_blk w₁ _ _ fun e => hn e.symm]; exact hv.2 b hb
  · rw [heap_set (by rw [hv.2 A hown]; exact hh), arrV_set hm]
theorem TkO.newArr (W : WkP Try.prog E (mainLo own) b) {d : Nat} (ho : ops[j]? = some o) (hw : wantE ops env o = some true) (hdd : o.dst = some d) (hd : Nat.blt d n = true) (hop : o.op = .alloc 40)
    (h : ∀ own' w' r, Kp own w own' w' → w.heap.size ≤ r → own' r → w'.heap[r]? = some (.cells (arrV 19 fun _ => 0) 40 (0, 0)) → TkO E N i (mainLo own') w' b n ((d, ptr r 0) :: env) ds ops (j + 1) k cs) : TkO E N i (mainLo own) w b n env ds ops j k cs := by
  refine TkO.newM W (d := d) ho hw hdd hd (fun r => ptr r 0) (.cells (arrV 19 fun _ => 0) 40 (0, 0)) (fun a ha w₁ => ?_) h
  have := exec_allocC (P := Try.prog) (a := a) (o := o) (t := 40) (c := Array.replicate 19 (.int .i64 0)) hop (by rfl) w₁
  rw [show Array.replicate 19 (Value.int .i64 0) = arrV 19 fun _ => 0 from arrV_zero] at this
  exact this
end
theorem b6 : Bod Try.prog 6 77 c6 #[.tmp 0] := ⟨Try.f6, Try.func6, by decide +kernel, rfl, rfl, rfl⟩
def v1W (r : Nat) : Int := if r = 5 then 1 else 0
def v2W (r : Nat) : Int := if r = 5 then 1 else if r = 15 then 1 else 0
theorem v2_bd (r : Nat) : 0 ≤ v2W r ∧ v2W r ≤ 2 := by
  unfold v2W
  split
  · decide
  · split <;> decide
theorem e1W : (if isR 5 = true then upd (fun _ => (0 : Int)) 5 ((fun _ => (0 : Int)) 5 + 1) else fun _ => 0) = v1W := by
  rw [if_pos (by decide)]
  funext r
  unfold upd v1W
  rfl
theorem e2W : (if isR 15 = true then upd v1W 15 (v1W 15 + 1) else v1W) = v2W := by
  rw [if_pos (by decide)]
  funext r
  unfold upd v2W v1W
  by_cases e : r = 15
  · subst e; rfl
  · rw [if_neg e, if_neg e]
theorem e3W : (if isR 5 = true then upd v2W 5 (v2W 5 + 1) else v2W) = vW := by
  rw [if_pos (by decide)]
  funext r
  unfold upd v2W vW
  by_cases e : r = 5
  · subst e; rfl
  · rw [if_neg e, if_neg e, if_neg e]
theorem e4W : (if isR 0 = true then upd vW 0 (vW 0 + 1) else vW) = vW := if_neg (by decide)
theorem bdW {f : Nat → Int} (h : ∀ r, 0 ≤ f r ∧ f r ≤ 2) : ∀ r, 0 ≤ f r ∧ f r < 4611686018427387904 := fun r => ⟨(h r).1, by have := (h r).2; omega⟩
set_option maxHeartbeats 8000000 in
theorem wakes6 {W : World} {S0 : Nat} {F2 : Nat → Lo → Goroutine → World → Prop} (hf : E.FinV) (hP : E.P = Try.prog) (hfin : E.fin = AtTally W S0 F2) (hsz : S0 ≤ w.heap.size) (ho : Old W own w) {fr : Frame} {cs : List Frame}
    (h : ∀ E2 N2 own2 w2 S2, E2.FinV → E2.P = Try.prog → E2.fin = F2 S2 → S2 ≤ w2.heap.size → Old W own2 w2 → Tr E2 N2 0 (mainLo own2) (Conc.G (fr.finish (.bool true)) cs) w2) :
    Tr E N 0 (mainLo own) (Conc.G (Frame.enter Try.prog 6 #[] .normal) (fr :: cs)) w := by
  have Wl : ∀ own', WkP Try.prog E (mainLo own') (base 6) := fun own' => wk_main hf hP (by decide)
  refine Tr.enterP hP b6 (Nat.le_of_ble_eq_true rfl) ?_
  (repeat (first | refine TkO.done (Wl own) (by rfl) ?_ | refine TkO.unwantedS (Wl own) (by rfl) (by rfl) (by rfl) (by rfl) ?_ | refine TkO.pureS (Wl own) (by rfl) (by rfl) (by rfl) (by rfl) (by first | exact pure_move (.inl rfl) rfl | exact pure_move (.inr rfl) rfl | exact pure_nilCheck rfl rfl | exact pure_field rfl rfl (by rfl) rfl (by decide +kernel) | exact pure_int rfl rfl rfl rfl | exact pure_not rfl rfl | exact pure_pickT rfl rfl rfl | exact pure_pickF rfl rfl rfl | exact pure_shift rfl rfl rfl rfl | exact pure_eqlNil rfl rfl rfl (by rfl) | exact pure_conv rfl rfl (by rfl) (by rfl)) ?_ | refine Tk.seq (WkP.wk (Wl own)) ?_ | refine Tk.reg (Wl own) ?_ | refine Tk.skip (WkP.wk (Wl own)) ?_ | refine Tk.block (WkP.wk (Wl own)) ?_ | refine Tk.condT (WkP.wk (Wl own)) rfl ?_ | refine Tk.condF (WkP.wk (Wl own)) rfl ?_ | refine Tk.exit (WkP.wk (Wl own)) rfl ?_ | refine Tk.label (WkP.wk (Wl own)) ?_))
  refine TkO.newM (Wl _) (d := 1) (by rfl) (by rfl) (by rfl) (by rfl) (fun r => ptr r 0) (.cells #[.int .u32 0, .int .i32 0, .int .u32 0, .slice none 0 0] 38 (0, 0)) (fun a ha w₁ => exec_allocC (t := 38) (by rfl) (by rfl) w₁) fun own1 w1 K k1 K1 K2 K3 => ?_
  have o1 := ho.kp k1
  have c1 := ctr_new K2 K3
  have f1 : ∀ b, b = K → W.heap.size ≤ b := fun b hb => by rw [hb]; exact Nat.le_trans ho.size K1
  (repeat (first | refine TkO.done (Wl own1) (by rfl) ?_ | refine TkO.unwantedS (Wl own1) (by rfl) (by rfl) (by rfl) (by rfl) ?_ | refine TkO.pureS (Wl own1) (by rfl) (by rfl) (by rfl) (by rfl) (by first | exact pure_move (.inl rfl) rfl | exact pure_move (.inr rfl) rfl | exact pure_nilCheck rfl rfl | exact pure_field rfl rfl (by rfl) rfl (by decide +kernel) | exact pure_int rfl rfl rfl rfl | exact pure_not rfl rfl | exact pure_pickT rfl rfl rfl | exact pure_pickF rfl rfl rfl | exact pure_shift rfl rfl rfl rfl | exact pure_eqlNil rfl rfl rfl (by rfl) | exact pure_conv rfl rfl (by rfl) (by rfl)) ?_ | refine Tk.seq (WkP.wk (Wl own1)) ?_ | refine Tk.reg (Wl own1) ?_ | refine Tk.skip (WkP.wk (Wl own1)) ?_ | refine Tk.block (WkP.wk (Wl own1)) ?_ | refine Tk.condT (WkP.wk (Wl own1)) rfl ?_ | refine Tk.condF (WkP.wk (Wl own1)) rfl ?_ | refine Tk.exit (WkP.wk (Wl own1)) rfl ?_ | refine Tk.label (WkP.wk (Wl own1)) ?_))
  refine TkO.call (Wl _) (by rfl) (by rfl) (by rfl) (by rfl) b7 rfl fun fr1 hk1 => ?_
  refine add7M (r := 5) hf hP c1 (fun _ => ⟨by decide, by decide⟩) fun own2 w2 FP2 k2 c2 => hk1 _ _ _ (TkO.lay (rfl : Nv.put _ _ _ = (_, _) :: _) ?_)
  rw [e1W] at c2
  obtain ⟨o2, f2⟩ := o1.kf k2 f1
  (repeat (first | refine TkO.done (Wl own2) (by rfl) ?_ | refine TkO.unwantedS (Wl own2) (by rfl) (by rfl) (by rfl) (by rfl) ?_ | refine TkO.pureS (Wl own2) (by rfl) (by rfl) (by rfl) (by rfl) (by first | exact pure_move (.inl rfl) rfl | exact pure_move (.inr rfl) rfl | exact pure_nilCheck rfl rfl | exact pure_field rfl rfl (by rfl) rfl (by decide +kernel) | exact pure_int rfl rfl rfl rfl | exact pure_not rfl rfl | exact pure_pickT rfl rfl rfl | exact pure_pickF rfl rfl rfl | exact pure_shift rfl rfl rfl rfl | exact pure_eqlNil rfl rfl rfl (by rfl) | exact pure_conv rfl rfl (by rfl) (by rfl)) ?_ | refine Tk.seq (WkP.wk (Wl own2)) ?_ | refine Tk.reg (Wl own2) ?_ | refine Tk.skip (WkP.wk (Wl own2)) ?_ | refine Tk.block (WkP.wk (Wl own2)) ?_ | refine Tk.condT (WkP.wk (Wl own2)) rfl ?_ | refine Tk.condF (WkP.wk (Wl own2)) rfl ?_ | refine Tk.exit (WkP.wk (Wl own2)) rfl ?_ | refine Tk.label (WkP.wk (Wl own2)) ?_))
  refine TkO.call (Wl _) (by rfl) (by rfl) (by rfl) (by rfl) b7 rfl fun fr2 hk2 => ?_
  refine add7M (r := 15) hf hP c2 (bdW fun r => by unfold v1W; split <;> decide) fun own3 w3 FP3 k3 c3 => hk2 _ _ _ (TkO.lay (rfl : Nv.put _ _ _ = (_, _) :: _) ?_)
  rw [e2W] at c3
  obtain ⟨o3, f3⟩ := o2.kf k3 f2
  (repeat (first | refine TkO.done (Wl own3) (by rfl) ?_ | refine TkO.unwantedS (Wl own3) (by rfl) (by rfl) (by rfl) (by rfl) ?_ | refine TkO.pureS (Wl own3) (by rfl) (by rfl) (by rfl) (by rfl) (by first | exact pure_move (.inl rfl) rfl | exact pure_move (.inr rfl) rfl | exact pure_nilCheck rfl rfl | exact pure_field rfl rfl (by rfl) rfl (by decide +kernel) | exact pure_int rfl rfl rfl rfl | exact pure_not rfl rfl | exact pure_pickT rfl rfl rfl | exact pure_pickF rfl rfl rfl | exact pure_shift rfl rfl rfl rfl | exact pure_eqlNil rfl rfl rfl (by rfl) | exact pure_conv rfl rfl (by rfl) (by rfl)) ?_ | refine Tk.seq (WkP.wk (Wl own3)) ?_ | refine Tk.reg (Wl own3) ?_ | refine Tk.skip (WkP.wk (Wl own3)) ?_ | refine Tk.block (WkP.wk (Wl own3)) ?_ | refine Tk.condT (WkP.wk (Wl own3)) rfl ?_ | refine Tk.condF (WkP.wk (Wl own3)) rfl ?_ | refine Tk.exit (WkP.wk (Wl own3)) rfl ?_ | refine Tk.label (WkP.wk (Wl own3)) ?_))
  refine TkO.call (Wl _) (by rfl) (by rfl) (by rfl) (by rfl) b7 rfl fun fr3 hk3 => ?_
  refine add7M (r := 5) hf hP c3 (bdW v2_bd) fun own4 w4 FP4 k4 c4 => hk3 _ _ _ (TkO.lay (rfl : Nv.put _ _ _ = (_, _) :: _) ?_)
  rw [e3W] at c4
  obtain ⟨o4, f4⟩ := o3.kf k4 f3
  (repeat (first | refine TkO.done (Wl own4) (by rfl) ?_ | refine TkO.unwantedS (Wl own4) (by rfl) (by rfl) (by rfl) (by rfl) ?_ | refine TkO.pureS (Wl own4) (by rfl) (by rfl) (by rfl) (by rfl) (by first | exact pure_move (.inl rfl) rfl | exact pure_move (.inr rfl) rfl | exact pure_nilCheck rfl rfl | exact pure_field rfl rfl (by rfl) rfl (by decide +kernel) | exact pure_int rfl rfl rfl rfl | exact pure_not rfl rfl | exact pure_pickT rfl rfl rfl | exact pure_pickF rfl rfl rfl | exact pure_shift rfl rfl rfl rfl | exact pure_eqlNil rfl rfl rfl (by rfl) | exact pure_conv rfl rfl (by rfl) (by rfl)) ?_ | refine Tk.seq (WkP.wk (Wl own4)) ?_ | refine Tk.reg (Wl own4) ?_ | refine Tk.skip (WkP.wk (Wl own4)) ?_ | refine Tk.block (WkP.wk (Wl own4)) ?_ | refine Tk.condT (WkP.wk (Wl own4)) rfl ?_ | refine Tk.condF (WkP.wk (Wl own4)) rfl ?_ | refine Tk.exit (WkP.wk (Wl own4)) rfl ?_ | refine Tk.label (WkP.wk (Wl own4)) ?_))
  refine TkO.call (Wl _) (by rfl) (by rfl) (by rfl) (by rfl) b7 rfl fun fr4 hk4 => ?_
  refine add7M (r := 0) hf hP c4 vW_bd fun own5 w5 FP5 k5 c5 => hk4 _ _ _ (TkO.lay (rfl : Nv.put _ _ _ = (_, _) :: _) ?_)
  rw [e4W] at c5
  obtain ⟨o5, f5⟩ := o4.kf k5 f4
  (repeat (first | refine TkO.done (Wl own5) (by rfl) ?_ | refine TkO.unwantedS (Wl own5) (by rfl) (by rfl) (by rfl) (by rfl) ?_ | refine TkO.pureS (Wl own5) (by rfl) (by rfl) (by rfl) (by rfl) (by first | exact pure_move (.inl rfl) rfl | exact pure_move (.inr rfl) rfl | exact pure_nilCheck rfl rfl | exact pure_field rfl rfl (by rfl) rfl (by decide +kernel) | exact pure_int rfl rfl rfl rfl | exact pure_not rfl rfl | exact pure_pickT rfl rfl rfl | exact pure_pickF rfl rfl rfl | exact pure_shift rfl rfl rfl rfl | exact pure_eqlNil rfl rfl rfl (by rfl) | exact pure_conv rfl rfl (by rfl) (by rfl)) ?_ | refine Tk.seq (WkP.wk (Wl own5)) ?_ | refine Tk.reg (Wl own5) ?_ | refine Tk.skip (WkP.wk (Wl own5)) ?_ | refine Tk.block (WkP.wk (Wl own5)) ?_ | refine Tk.condT (WkP.wk (Wl own5)) rfl ?_ | refine Tk.condF (WkP.wk (Wl own5)) rfl ?_ | refine Tk.exit (WkP.wk (Wl own5)) rfl ?_ | refine Tk.label (WkP.wk (Wl own5)) ?_))
  refine TkO.newArr (Wl _) (d := 7) (by rfl) (by rfl) (by rfl) (by rfl) (by rfl) fun own6 w6 A k6 A1 A2 A3 => ?_
  have o6 := o5.kp k6
  have c6' := c5.frame2 k6
  have nA : ¬ FP5 A := fun e => by have := (c5.lt e).1; omega
  (repeat (first | refine TkO.done (Wl own6) (by rfl) ?_ | refine TkO.unwantedS (Wl own6) (by rfl) (by rfl) (by rfl) (by rfl) ?_ | refine TkO.pureS (Wl own6) (by rfl) (by rfl) (by rfl) (by rfl) (by first | exact pure_move (.inl rfl) rfl | exact pure_move (.inr rfl) rfl | exact pure_nilCheck rfl rfl | exact pure_field rfl rfl (by rfl) rfl (by decide +kernel) | exact pure_int rfl rfl rfl rfl | exact pure_not rfl rfl | exact pure_pickT rfl rfl rfl | exact pure_pickF rfl rfl rfl | exact pure_shift rfl rfl rfl rfl | exact pure_eqlNil rfl rfl rfl (by rfl) | exact pure_conv rfl rfl (by rfl) (by rfl)) ?_ | refine Tk.seq (WkP.wk (Wl own6)) ?_ | refine Tk.reg (Wl own6) ?_ | refine Tk.skip (WkP.wk (Wl own6)) ?_ | refine Tk.block (WkP.wk (Wl own6)) ?_ | refine Tk.condT (WkP.wk (Wl own6)) rfl ?_ | refine Tk.condF (WkP.wk (Wl own6)) rfl ?_ | refine Tk.exit (WkP.wk (Wl own6)) rfl ?_ | refine Tk.label (WkP.wk (Wl own6)) ?_))
  refine TkO.pureS (Wl _) (by rfl) (by rfl) (by rfl) (by rfl) (pure_indexA (m := 19) (e := 3) (b := A) (off := 0) (k := .u8) (j := 5) (by rfl) (by rfl) (by decide +kernel) (by rfl) (by rfl) (by decide)) ?_
  refine TkO.storeAt (Wl _) (A := A) (m := 5) (v := 2) (by decide) (by rfl) (by rfl) (by rfl) (by rfl) (by rfl) (by rfl) A2 A3 fun w7 s7 h7 A7 => ?_
  refine TkO.pureS (Wl _) (by rfl) (by rfl) (by rfl) (by rfl) (pure_indexA (m := 19) (e := 3) (b := A) (off := 0) (k := .u8) (j := 15) (by rfl) (by rfl) (by decide +kernel) (by rfl) (by rfl) (by decide)) ?_
  refine TkO.storeAt (Wl _) (A := A) (m := 15) (v := 1) (by decide) (by rfl) (by rfl) (by rfl) (by rfl) (by rfl) (by rfl) A2 A7 fun w8 s8 h8 A8 => ?_
  have hA0 : W.heap.size ≤ A := Nat.le_trans o5.size A1
  have sz8 : S0 ≤ w8.heap.size := by
    have z1 := k1.size; have z2 := k2.size; have z3 := k3.size; have z4 := k4.size; have z5 := k5.size; have z6 := k6.size
    omega
  have M : Wm W S0 K A own6 w8 FP5 := by
    refine ⟨⟨Nat.le_trans o6.size (Nat.le_trans s7 s8), fun b hb => ⟨(o6.heap b hb).1, ?_⟩⟩, sz8, c6'.frame (fun _ x => x) fun b hb => ?_, f5, ⟨A2, ?_⟩, nA⟩
    · have hne : b ≠ A := by omega
      rw [h8 b (o6.heap b hb).1 hne, h7 b (o6.heap b hb).1 hne]
      exact (o6.heap b hb).2
    · have hne : b ≠ A := fun e => nA (e ▸ hb)
      rw [h8 b (c6'.lt hb).2 hne, h7 b (c6'.lt hb).2 hne]
    · have e : arrV 19 (upd (upd (fun _ => (0 : Int)) 5 2) 15 1) = arrV 19 vW := arrV_ext fun j _ => by
        unfold upd vW
        by_cases e15 : j = 15
        · subst e15; rfl
        · by_cases e5 : j = 5
          · subst e5; rfl
          · rw [if_neg e15, if_neg e5, if_neg e5, if_neg e15]
      rw [A8, e]
  refine TkO.done (Wl _) (by rfl) ?_
  refine Tk.seq (Wl _).wk ?_
  refine Tk.freeE (Wl _) mixed (I := Iw W F2 K A) (by decide +kernel) ?_ ?_ ?_ ?_
  · refine ⟨own6, S0, 0, FP5, rfl, hf, hP, fun _ => hfin, fun x => absurd x (not_up0 _ _), ⟨by simp, fun x hx => ?_, fun m o' d _ _ hu => absurd hu (not_up0 _ _)⟩, M, fun x => absurd x (not_up0 _ _)⟩
    have : x = 1 ∨ x = 2 ∨ x = 3 ∨ x = 4 ∨ x = 5 ∨ x = 6 ∨ x = 7 := by simpa [bsW] using hx
    rcases this with rfl | rfl | rfl | rfl | rfl | rfl | rfl <;> rfl
  · intro E L l w env ⟨own, S0, S, FP, hl, hf, hP, _, _, F, _⟩
    subst hl
    exact ⟨F.size, wk_main hf hP (by decide)⟩
  · exact wakesR rfl
  · intro E N L l w env ⟨own, S1, S, FP, hl, hf, hP, _, h38, F, M, _⟩ hall
    subst hl
    have W' : WkP Try.prog E (mainLo own) (base 6) := wk_main hf hP (by decide)
    have g0 := F.get (j := 63) (d := 0) (by rfl) rfl (hall 63 (by decide))
    exact Tk.ret W'.wk (TkR.leave1 W'.wk (hP ▸ b6) g0 (h _ _ _ _ _ hf hP (h38 (hall 38 (by decide))) M.sz M.old))
end Go.Co.F1

namespace Go.Co.F1
open Go Go.Conc Go.Proofs
open Go.Co
open Go.ConcN (upd upd_ne upd_same)
variable {E : Geo} {N i : Nat} {l : Lo} {w : World} {own own' : Nat → Prop} {w' : World} {FP FP' : Nat → Prop}
set_option maxRecDepth 10000
section
variable {W : World} {C D A : Nat} {v v' f : Nat → Int}
end
section
variable {b : Frame} {n : Nat} {env : Nv} {ds : List Deferred} {k : List Item} {cs : List Frame} {ops : Array Oper} {j : Nat} {o : Oper}
theorem TkO.storeAll (W : WkP Try.prog E (mainLo own) b) {A : Nat} {f f0 : Nat → Int} {x y : Operand} (ho : ops[j]? = some o) (hw : wantE ops env o = some true) (hd : o.dst = none) (hop : o.op = .store 40 x y)
    (hx : env.ev x = some (ptr A 0)) (hy : env.ev y = some (.agg (arrV 19 f))) (hown : own A) (hh : w.heap[A]? = some (.cells (arrV 19 f0) 40 (0, 0)))
    (h : ∀ w', w.heap.size ≤ w'.heap.size → (∀ b, own b → b ≠ A → w'.heap[b]? = w.heap[b]?) → w'.heap[A]? = some (.cells (arrV 19 f) 40 (0, 0)) → TkO E N i (mainLo own) w' b n env ds ops (j + 1) k cs) : TkO E N i (mainLo own) w b n env ds ops j k cs := by
  refine TkO.open ho (Tk.ostoreA W.wk rfl (x := x) (y := y) (g := A) (c := arrV 19 f) (old := arrV 19 f0) ho hw hd hop (by rw [W.hP, arrV_size]; rfl) (by rw [arrV_size, arrV_size]) arrV_one hx hy hown hh fun w₁ w₂ hv e2 => ?_)
  refine h w₂ ?_ (fun b hb hn => ?_) ?_
  · have : w₂.heap.size = w₁.heap.size := by rw [e2]; simp [World.setRow]
    rw [this]; exact hv.1
  · rw [e2, setRow_other _ _ _ _ hn]; exact hv.2 b hb
  · rw [e2]; exact setRow_heap _ _ _ _ _ _ (by rw [hv.2 A hown]; exact hh)
theorem TkO.loadAt (W : WkP Try.prog E (mainLo own) b) {A m d : Nat} {f : Nat → Int} {x : Operand} (hm : m < 19) (ho : ops[j]? = some o) (hw : wantE ops env o = some true) (hdd : o.dst = some d) (hd : Nat.blt d n = true) (hop : o.op = .load 3 x)
    (hx : env.ev x = some (ptr A m)) (hown : own A) (hh : w.heap[A]? = some (.cells (arrV 19 f) 40 (0, 0)))
    (h : TkO E N i (mainLo own) w b n ((d, .int .i64 (f m)) :: env) ds ops (j + 1) k cs) : TkO E N i (mainLo own) w b n env ds ops j k cs := by
  have hc : w.cell? (adr A m) = some (.int .i64 (f m)) := by
    rw [cell_at hh, arrV_get, if_pos hm]
  refine TkO.open ho (Tk.oload W.wk rfl (x := x) (ad := adr A m) (v := .int .i64 (f m)) ho hw (by rw [hdd]; exact hd) hop (by rw [W.hP]; rfl) hx hown hc ?_)
  rw [hdd]
  exact h
end
end Go.Co.F1

namespace Go.Co.F1
open Go Go.Conc Go.Proofs
open Go.Co
open Go.ConcN (upd upd_ne upd_same)
variable {E : Geo} {N i : Nat} {l : Lo} {w : World} {own own' : Nat → Prop} {w' : World} {FP FP' : Nat → Prop}
set_option maxRecDepth 10000
structure Arg (W : World) (bs : Option Addr) (nj : Nat) (rr : Nat → Nat) (x : Nat) : Prop where
  at_ : ∀ q, q < nj → ∃ b o, bs = some ⟨b, o, none⟩ ∧ b < W.heap.size ∧ W.cell? ⟨b, o + q, none⟩ = some (.int .u8 (rr q))
  rr : ∀ q, rr q < 256
  x : x < 256
def cN (rr : Nat → Nat) (n r : Nat) : Int := (sentTo (rsn rr) r n : Int)
theorem sent_le {rs : Nat → Option Nat} {r : Nat} : ∀ n, sentTo rs r n ≤ n
  | 0 => Nat.le_refl _
  | n + 1 => by
    have := sent_le (rs := rs) (r := r) n
    unfold sentTo at this ⊢
    simp only [Go.ConcN.sumTo]
    split <;> omega
theorem cN_bd {rr : Nat → Nat} {n : Nat} (h : n ≤ 300) : ∀ r, 0 ≤ cN rr n r ∧ cN rr n r ≤ 300 := fun r => by
  have := sent_le (rs := rsn rr) (r := r) n
  unfold cN
  omega
theorem cN_step (rr : Nat → Nat) (n : Nat) : (if isR (rr n) = true then upd (cN rr n) (rr n) (cN rr n (rr n) + 1) else cN rr n) = cN rr (n + 1) := by
  have e : ∀ r, cN rr (n + 1) r = cN rr n r + (if rsn rr n = some r then 1 else 0) := fun r => by
    unfold cN sentTo
    simp only [Go.ConcN.sumTo]
    split <;> simp
  funext r
  rw [e]
  by_cases hR : 0 < rr n ∧ rr n < 19
  · rw [if_pos (show isR (rr n) = true by unfold isR; exact decide_eq_true hR)]
    unfold rsn upd
    rw [if_pos hR]
    by_cases er : r = rr n
    · subst er; rw [if_pos rfl, if_pos rfl]
    · rw [if_neg er, if_neg (fun e => er (by cases e; rfl))]; simp
  · rw [if_neg (show ¬ isR (rr n) = true by unfold isR; simp only [decide_eq_true_eq]; exact hR)]
    unfold rsn
    rw [if_neg hR, if_neg (fun e => by cases e)]; simp
theorem pure_eqArrT {P : Program} {t e : TypeId} {m : Nat} {f g : Nat → Int} {env : Nv} {o : Oper} {yt : TypeId} {x y : Operand} (ho : o.op = .binOp .eql t x y yt) (hx : env.ev x = some (.agg (arrV m f))) (hy : env.ev y = some (.agg (arrV m g))) (hu : P.underlying t = some (.array m e)) (he : P.underlying e = some (.int .i64)) (hz : P.cellsOf e = 1) (hG : P.eqGuardType P.depth t = false)
    (h : ∀ i, i < m → f i = g i) : PureOp P env o (.bool true) := by
  have := pure_eqArr (P := P) ho hx hy hu he hz hG
  rwa [arrEq_true h] at this
end Go.Co.F1

namespace Go.Co.F1
open Go Go.Conc Go.Proofs
open Go.Co
open Go.ConcN (upd upd_ne upd_same)
variable {E : Geo} {N i : Nat} {l : Lo} {w : World} {own own' : Nat → Prop} {w' : World} {FP FP' : Nat → Prop}
set_option maxRecDepth 10000
end Go.Co.F1

namespace Go.Co.F1
open Go Go.Conc Go.Proofs
open Go.Co
open Go.ConcN (upd upd_ne upd_same)
variable {E : Geo} {N i : Nat} {l : Lo} {w : World} {own own' : Nat → Prop} {w' : World} {FP FP' : Nat → Prop}
set_option maxRecDepth 10000
def SlAt (own : Nat → Prop) (w : World) (bs : Option Addr) (nj : Nat) (rr : Nat → Nat) : Prop :=
  ∀ q, q < nj → ∃ b o, bs = some ⟨b, o, none⟩ ∧ own b ∧ b < w.heap.size ∧ w.cell? ⟨b, o + q, none⟩ = some (.int .u8 (rr q))
theorem Arg.sl {W : World} {bs : Option Addr} {nj x : Nat} {rr : Nat → Nat} (a : Arg W bs nj rr x) (h : Old W own w) : SlAt own w bs nj rr := fun q hq => by
  obtain ⟨b, o, e, h1, h2⟩ := a.at_ q hq
  exact ⟨b, o, e, (h.heap b h1).1, Nat.lt_of_lt_of_le h1 h.size, by rw [(cell_same (a := ⟨b, o + q, none⟩) (h.heap b h1).2).1]; exact h2⟩
set_option maxHeartbeats 1000000 in
/-- TALLY. -/
theorem tallyM {W : World} {S0 : Nat} {F2 : Nat → Lo → Goroutine → World → Prop} {wk : Int} {bs : Option Addr} {nj cap : Nat} {rr : Nat → Nat} {fr : Frame} {cs : List Frame} (hf : E.FinV) (hP : E.P = Try.prog) (hfin : E.fin = AtTally W S0 F2) (hsz : S0 ≤ w.heap.size) (ho : Old W own w) (hs : SlAt own w bs nj rr) (hn : nj < 4611686018427387904)
    (hk : ∀ E2 N2 own2 w2 S2, E2.FinV → E2.P = Try.prog → E2.fin = F2 S2 → S2 ≤ w2.heap.size → Kp own w own2 w2 → Tr E2 N2 0 (mainLo own2) (Conc.G (fr.finish (.agg (arrV 19 (cnt (cN rr nj))))) cs) w2) :
    Tr E N 0 (mainLo own) (Conc.G (Frame.enter Try.prog 14 #[.int .i64 wk, .slice bs nj cap] .normal) (fr :: cs)) w := by
  refine tally14pre hf hP fun own' w' A' C H B c kp st hx hA' hne => ?_
  intro a ha hds
  have hlow : ∀ b, own b → b < w.heap.size → less own' C H B c b ∧ b ≠ A' := fun b hb hlt => by
    have h1 := (hx C (by simp)).1; have h2 := (hx H (by simp)).1; have h3 := (hx B (by simp)).1; have h4 := (hx c (by simp)).1; have h5 := (hx A' (by simp)).1
    exact ⟨⟨kp.ow b hb hlt, by omega, by omega, by omega, by omega⟩, by omega⟩
  have hlA : less own' C H B c A' := ⟨(hx A' (by simp)).2, hne⟩
  refine Pro.Lv.fold ⟨runs_G _ _, .inl ⟨rfl, rfl, ?_⟩⟩
  show E.fin _ _ _
  rw [hfin]
  refine ⟨own', A', C, H, B, c, nj, cap, fr :: cs, a, wk, bs, rr, rfl, rfl, ha, hds, ho.kp kp, st, fun x hx' => ⟨Nat.le_trans hsz (hx x (by rcases hx' with h | h | h | h <;> simp [h])).1, (hx x (by rcases hx' with h | h | h | h <;> simp [h])).2⟩, hn, fun q hq => ?_, fun E2 N2 own2 w2 FP2 f2 P2 fin2 hb hsz2 hc hfp => ?_⟩
  · obtain ⟨b, o, e, h1, h2, h3⟩ := hs q hq
    exact ⟨b, o, e, (hlow b h1 h2).1, by rw [(cell_same (a := ⟨b, o + q, none⟩) (kp.heap b h1 h2)).1]; exact h3⟩
  · refine tally14post f2 P2 (hb A' hlA).1 (by rw [(hb A' hlA).2]; exact hA') hc (fun e => hfp A' e hlA) fun own3 w3 o3 s3 h3 => hk E2 N2 own3 w3 w2.heap.size f2 P2 fin2 s3 ⟨fun b hb' hlt => ?_, ?_, fun b hb' hlt => ?_⟩
    · exact o3 b (hb b (hlow b hb' hlt).1).1
    · exact Nat.le_trans kp.size (Nat.le_trans hsz2 s3)
    · obtain ⟨q1, q2⟩ := hlow b hb' hlt
      have hb2 : b < w2.heap.size := Nat.lt_of_lt_of_le hlt (Nat.le_trans kp.size hsz2)
      rw [h3 b (hb b q1).1 hb2 (fun e => hfp b e q1) q2, (hb b q1).2]
      exact kp.heap b hb' hlt
end Go.Co.F1

namespace Go.Co.F1
open Go Go.Conc Go.Proofs
open Go.Co
open Go.ConcN (upd upd_ne upd_same)
variable {E : Geo} {N i : Nat} {l : Lo} {w : World} {own own' : Nat → Prop} {w' : World} {FP FP' : Nat → Prop}
set_option maxRecDepth 10000
section
variable {b : Frame} {n : Nat} {env : Nv} {ds : List Deferred} {k : List Item} {cs : List Frame} {ops : Array Oper} {j : Nat} {o : Oper}
theorem TkO.loadR (W : WkP Try.prog E (mainLo own) b) {m d p nj : Nat} {bs : Option Addr} {rr : Nat → Nat} {x : Operand} (sl : SlAt own w bs nj rr) (hm : m < nj) (ho : ops[j]? = some o) (hw : wantE ops env o = some true) (hdd : o.dst = some d) (hd : Nat.blt d n = true) (hop : o.op = .load 5 x)
    (hx : env.ev x = some (.pointer (some ⟨p, (bs.getD ⟨0, 0, none⟩).off + m, none⟩))) (hp : ∀ a, bs = some a → p = a.block)
    (h : TkO E N i (mainLo own) w b n ((d, .int .u8 (rr m)) :: env) ds ops (j + 1) k cs) : TkO E N i (mainLo own) w b n env ds ops j k cs := by
  obtain ⟨rb, ro, hbs, h1, _, h3⟩ := sl m hm
  have hp' : p = rb := hp _ hbs
  rw [hp'] at hx
  subst hbs
  refine TkO.open ho (Tk.oload W.wk rfl (x := x) (ad := adr rb (ro + m)) (v := .int .u8 (rr m)) ho hw (by rw [hdd]; exact hd) hop (by rw [W.hP]; rfl) hx h1 h3 ?_)
  rw [hdd]
  exact h
theorem pure_indexS {P : Program} {env : Nv} {o : Oper} {t e : TypeId} {x y : Operand} {bs : Option Addr} {len cap : Nat} {k : IntKind} {m : Nat} {own : Nat → Prop} {w : World} {rr : Nat → Nat} (sl : SlAt own w bs len rr) (hm : m < len) (ho : o.op = .indexAddr t x y) (hu : P.underlying t = some (.slice e)) (hz : P.cellsOf e = 1) (hx : env.ev x = some (.slice bs len cap)) (hy : env.ev y = some (.int k (m : Int))) :
    PureOp P env o (.pointer (some ⟨(bs.getD ⟨0, 0, none⟩).block, (bs.getD ⟨0, 0, none⟩).off + m, none⟩)) := by
  obtain ⟨rb, ro, rfl, _⟩ := sl m hm
  have := pure_index (P := P) ho hu hz hx hy ⟨by omega, by omega⟩
  rwa [show ((m : Int)).toNat = m by omega] at this
end
end Go.Co.F1

namespace Go.Co.F1
open Go Go.Conc Go.Proofs
open Go.Co
open Go.ConcN (upd upd_ne upd_same)
variable {E : Geo} {N i : Nat} {l : Lo} {w : World} {own own' : Nat → Prop} {w' : World} {FP FP' : Nat → Prop}
set_option maxRecDepth 10000
def upB (L : Array Bool) (j : Nat) : Bool := L[j]? == some true
theorem upB_iff {L : Array Bool} {j : Nat} : upB L j = true ↔ Up L j := by unfold upB Up; simp
theorem upB_yes {L : Array Bool} {j : Nat} (h : Up L j) : upB L j = true := upB_iff.2 h
theorem upB_no {L : Array Bool} {j : Nat} (h : ¬ Up L j) : upB L j = false := by
  cases e : upB L j with
  | false => rfl
  | true => exact absurd (upB_iff.1 e) h
theorem upB_ne {L : Array Bool} {j m : Nat} (h : m ≠ j) : upB (L.setIfInBounds j true) m = upB L m := by
  unfold upB
  rw [Array.getElem?_setIfInBounds_ne (Ne.symm h)]
theorem upB_eq {L : Array Bool} {j : Nat} (h : j < L.size) : upB (L.setIfInBounds j true) j = true := upB_iff.2 (up_eq h)
def lft : List Nat → Array Bool → Nat
  | [], _ => 0
  | j :: js, L => (if upB L j = true then 0 else 1) + lft js L
theorem lft_ne {j : Nat} {L : Array Bool} : ∀ {js : List Nat}, js.contains j = false → lft js (L.setIfInBounds j true) = lft js L
  | [], _ => rfl
  | m :: js, h => by
    have h1 : m ≠ j := fun e => by subst e; simp at h
    have h2 : js.contains j = false := by
      rw [← Bool.not_eq_true] at h ⊢
      exact fun e => h (by simp at e; simp [e])
    simp only [lft]
    rw [upB_ne h1, lft_ne h2]
theorem lft_eq {j : Nat} {L : Array Bool} (hj : j < L.size) (hu : ¬ Up L j) : ∀ {js : List Nat}, js.Nodup → js.contains j = true → lft js L = lft js (L.setIfInBounds j true) + 1
  | [], _, h => by simp at h
  | m :: js, hn, h => by
    obtain ⟨h1, h2⟩ := List.nodup_cons.1 hn
    simp only [lft]
    by_cases e : m = j
    · subst e
      rw [upB_eq hj, upB_no hu, lft_ne (by rw [← Bool.not_eq_true]; simpa using h1)]
      simp; omega
    · rw [upB_ne e, lft_eq hj hu h2 (by simp at h; simpa using h.resolve_left fun x => e x.symm)]
      omega
def It (W : World) (k0 : Nat) (js : List Nat) (val : (Nat → Nat) → Nat → Value) (bs : List Nat) (M : (Nat → Nat) → Array Bool → (Nat → Prop) → World → (Nat → Prop) → Prop) (ops : Array Oper) (E : Geo) (L : Array Bool) (l : Lo) (w : World) (env : Nv) : Prop :=
  ∃ p own S0 FP, l = mainLo own ∧ E.FinV ∧ E.P = Try.prog ∧ E.fin = Fins W (k0 + lft js L) S0 ∧ S0 ≤ w.heap.size ∧ Facts ops (val p) bs L env ∧ Old W own w ∧ M p L own w FP
section
variable {W : World} {k0 : Nat} {js : List Nat} {val : (Nat → Nat) → Nat → Value} {bs : List Nat} {M : (Nat → Nat) → Array Bool → (Nat → Prop) → World → (Nat → Prop) → Prop} {ops : Array Oper} {L : Array Bool} {env env' : Nv} {S0 j d : Nat} {p : Nat → Nat}
theorem It.kp (hj : js.contains j = false) (hf : E.FinV) (hP : E.P = Try.prog) (hfin : E.fin = Fins W (k0 + lft js L) S0) (hsz : S0 ≤ w.heap.size) (ho : Old W own w) (k : Kp own w own' w') (F : Facts ops (val p) bs (L.setIfInBounds j true) env') (hM : M p (L.setIfInBounds j true) own' w' FP') :
    It W k0 js val bs M ops E (L.setIfInBounds j true) (mainLo own') w' env' :=
  ⟨p, own', S0, FP', rfl, hf, hP, by rw [lft_ne hj]; exact hfin, Nat.le_trans hsz k.size, F, ho.kp k, hM⟩
theorem It.next {E2 : Geo} {S2 : Nat} {own2 : Nat → Prop} {w2 : World} (_hlen : j < L.size) (_hu : ¬ Up L j) (_hn : js.Nodup) (_hj : js.contains j = true) (hf : E2.FinV) (hP : E2.P = Try.prog) (hfin : E2.fin = Fins W (k0 + lft js (L.setIfInBounds j true)) S2) (hsz : S2 ≤ w2.heap.size) (ho : Old W own2 w2) (F : Facts ops (val p) bs (L.setIfInBounds j true) env') (hM : M p (L.setIfInBounds j true) own2 w2 FP') :
    It W k0 js val bs M ops E2 (L.setIfInBounds j true) (mainLo own2) w2 env' :=
  ⟨p, own2, S2, FP', rfl, hf, hP, hfin, hsz, F, ho, hM⟩
theorem It.at (hlen : j < L.size) (hu : ¬ Up L j) (hn : js.Nodup) (hj : js.contains j = true) (hfin : E.fin = Fins W (k0 + lft js L) S0) : E.fin = AtTally W S0 (Fins W (k0 + lft js (L.setIfInBounds j true))) := by
  rw [hfin, lft_eq hlen hu hn hj]; rfl
end
end Go.Co.F1

namespace Go.Co.F1
open Go Go.Conc Go.Proofs
open Go.Co
open Go.ConcN (upd upd_ne upd_same)
variable {E : Geo} {N i : Nat} {l : Lo} {w : World} {own own' : Nat → Prop} {w' : World} {FP FP' : Nat → Prop}
set_option maxRecDepth 10000
section
variable {b : Frame} {n : Nat} {env : Nv} {ds : List Deferred} {k : List Item} {cs : List Frame} {ops : Array Oper} {j : Nat} {o : Oper} {rest : List Nat}
end
theorem cnt_cN (rr : Nat → Nat) (n r : Nat) : cnt (cN rr n) r = cN rr n r := by
  unfold cnt
  split
  · rfl
  · rename_i h
    have e : ∀ q, rsn rr q ≠ some r := fun q e => by
      unfold rsn at e
      split at e
      · rename_i h2; cases e; exact h (by unfold isR; exact decide_eq_true h2)
      · cases e
    unfold cN sentTo
    have : ∀ m, (Go.ConcN.sumTo m fun j => if rsn rr j = some r then 1 else 0) = 0 := fun m => by
      induction m with
      | zero => rfl
      | succ m ih => simp only [Go.ConcN.sumTo]; rw [ih, if_neg (e m)]
    rw [this]; rfl
theorem sum_cN (rr : Nat → Nat) (n : Nat) : ∀ m, sumF (cnt (cN rr n)) m = sumF (cN rr n) m
  | 0 => rfl
  | m + 1 => by simp only [sumF]; rw [sum_cN rr n m, cnt_cN]
end Go.Co.F1

namespace Go.Co
open Go Go.Conc
def loA (bs : Option Addr) (m cap : Nat) : Option Addr := if cap = m then bs else bs.map (·.add (m * 1))
section
variable {P : Program} {env : Nv} {o : Oper} {t e : TypeId} {x y : Operand} {bs : Option Addr} {len cap m : Nat}
theorem pure_sliceHi (ho : o.op = .slice t x none (some y) none) (hu : P.underlying t = some (.slice e)) (hz : P.cellsOf e = 1) (hx : env.ev x = some (.slice bs len cap)) (hy : env.ev y = some (.int .i64 (m : Int))) (hm : m ≤ cap) : PureOp P env o (.slice bs m cap) := fun n a ha w => by
  have hi : ∃ i, P.info? e = some i := by
    unfold Program.cellsOf at hz
    cases hi : P.info? e with
    | none => simp [hi] at hz
    | some i => exact ⟨i, rfl⟩
  obtain ⟨inf, hi⟩ := hi
  have h1 := sizeOf_run hi w
  have h2 := run_underlying hu w
  have hb : (if cap = 0 then bs else bs.map fun a => a.add 0) = bs := by
    split
    · rfl
    · cases bs <;> rfl
  constructor
  · simp [execOp, ho, ha.ev hx, ha.ev hy, Instr.sliceAt, Instr.slice, Instr.sliceBounds, Instr.sliceBound, asIntOf, h1, h2, hm, hb]
  · simp [execOp, ho, ha.ev hx, ha.ev hy, Instr.sliceAt, Instr.slice, Instr.sliceBounds, Instr.sliceBound, asIntOf, h2, hm, events_underlying, events_sizeOf]
theorem pure_sliceLo (ho : o.op = .slice t x (some y) none none) (hu : P.underlying t = some (.slice e)) (hz : P.cellsOf e = 1) (hx : env.ev x = some (.slice bs len cap)) (hy : env.ev y = some (.int .i64 (m : Int))) (hm : m ≤ len) : PureOp P env o (.slice (loA bs m cap) (len - m) (cap - m)) := fun n a ha w => by
  have hi : ∃ i, P.info? e = some i := by
    unfold Program.cellsOf at hz
    cases hi : P.info? e with
    | none => simp [hi] at hz
    | some i => exact ⟨i, rfl⟩
  obtain ⟨inf, hi⟩ := hi
  have h1 := sizeOf_run hi w
  rw [hz] at h1
  have h2 := run_underlying hu w
  constructor
  · simp [execOp, ho, ha.ev hx, ha.ev hy, Instr.sliceAt, Instr.slice, Instr.sliceBounds, Instr.sliceBound, asIntOf, h1, h2, hm, loA]
  · simp [execOp, ho, ha.ev hx, ha.ev hy, Instr.sliceAt, Instr.slice, Instr.sliceBounds, Instr.sliceBound, asIntOf, h2, hm, events_underlying, events_sizeOf]
theorem append_none {v : Value} {n : Nat} {xs : List Value} {w : World} {inf : TypeInfo} {ty : TypeId} (hu : P.underlying t = some (.slice e)) (hi : P.info? e = some inf) (hv : w.ownsRow 0 e inf.size v n xs) :
    (Builtin.append_ #[t, t] ty #[v, .slice none 0 0]).run P w = .ok v w ∧ (Builtin.append_ #[t, t] ty #[v, .slice none 0 0]).events P w #[] = #[] := by
  have h1 := sizeOf_run hi w
  have h2 := run_underlying hu w
  rcases hv.2 with ⟨rfl, rfl⟩ | ⟨g, cap, cur, rfl, _, _, hnc, _⟩
  · constructor
    · simp [Builtin.append_, h1, h2, Builtin.lenOf, Builtin.firstCells]
    · simp [Builtin.append_, h1, h2, Builtin.lenOf, Builtin.firstCells, events_underlying, events_sizeOf]
  · constructor
    · simp [Builtin.append_, h1, h2, Builtin.lenOf, Builtin.firstCells, hnc, storeCells]
    · simp [Builtin.append_, h1, h2, Builtin.lenOf, Builtin.firstCells, hnc, storeCells, events_underlying, events_sizeOf]
end
end Go.Co
namespace Go.Co.F1
open Go Go.Conc Go.Proofs
open Go.Co
open Go.ConcN (upd upd_ne upd_same)
variable {E : Geo} {N i : Nat} {l : Lo} {w : World} {own own' : Nat → Prop} {w' : World} {FP FP' : Nat → Prop}
set_option maxRecDepth 10000
theorem SlAt.hi {bs : Option Addr} {nj m : Nat} {rr : Nat → Nat} (h : SlAt own w bs nj rr) (hm : m ≤ nj) : SlAt own w bs m rr := fun q hq => h q (by omega)
theorem SlAt.lo {bs : Option Addr} {nj m cap : Nat} {rr : Nat → Nat} (h : SlAt own w bs nj rr) (hc : nj ≤ cap) : SlAt own w (loA bs m cap) (nj - m) (fun q => rr (m + q)) := fun q hq => by
  obtain ⟨b, o, rfl, h1, h2, h3⟩ := h (m + q) (by omega)
  refine ⟨b, o + m, ?_, h1, h2, by rw [Nat.add_assoc]; exact h3⟩
  unfold loA
  rw [if_neg (by omega)]
  show some (Addr.add _ _) = _
  unfold Addr.add
  split
  · rename_i h
    have : m = 0 := by omega
    subst this; rfl
  · rw [Nat.mul_one]
def rowV (n : Nat) (rr : Nat → Nat) : List Value := (List.range n).map fun q => .int .u8 (rr q)
theorem rowV_get {n q : Nat} {rr : Nat → Nat} : (rowV n rr)[q]? = if q < n then some (.int .u8 (rr q)) else none := by
  unfold rowV
  rw [List.getElem?_map]
  by_cases h : q < n
  · rw [List.getElem?_range h, if_pos h]; rfl
  · rw [List.getElem?_eq_none (by simpa using h), if_neg h]; rfl
structure RowS (W : World) (own : Nat → Prop) (w : World) (v : Value) (n : Nat) (xs : List Value) : Prop where
  row : w.ownsRow 0 5 1 v n xs
  own : ∀ g, v.ownBlock = some g → own g ∧ W.heap.size ≤ g
theorem RowS.frame {W : World} {v : Value} {n : Nat} {xs : List Value} (h : RowS W own w v n xs) (ho : ∀ b, own b → own' b) (hh : ∀ g, v.ownBlock = some g → w'.heap[g]? = w.heap[g]?) : RowS W own' w' v n xs := by
  refine ⟨⟨h.row.1, ?_⟩, fun g hg => ⟨ho g (h.own g hg).1, (h.own g hg).2⟩⟩
  rcases h.row.2 with hn | ⟨g, cap, cur, rfl, hb, hgg, rest⟩
  · exact .inl hn
  · exact .inr ⟨g, cap, cur, rfl, hb, by rw [hh g rfl]; exact hgg, rest⟩
theorem RowS.lt {W : World} {v : Value} {n : Nat} {xs : List Value} (h : RowS W own w v n xs) : ∀ g, v.ownBlock = some g → g < w.heap.size := fun g hg => (h.row.lt g hg).2
theorem RowS.kp {W : World} {v : Value} {n : Nat} {xs : List Value} (h : RowS W own w v n xs) (k : Kp own w own' w') : RowS W own' w' v n xs := by
  refine ⟨⟨h.row.1, ?_⟩, fun g hg => ⟨k.ow g (h.own g hg).1 (h.lt g hg), (h.own g hg).2⟩⟩
  rcases h.row.2 with hn | ⟨g, cap, cur, rfl, hb, hgg, rest⟩
  · exact .inl hn
  · exact .inr ⟨g, cap, cur, rfl, hb, by rw [k.heap g (h.own g rfl).1 (h.lt g rfl)]; exact hgg, rest⟩
theorem RowS.sl {W : World} {g n cap : Nat} {xs : List Value} {rr : Nat → Nat} (h : RowS W own w (.slice (some (adr g 0)) n cap) n xs) (hx : ∀ q, q < n → xs[q]? = some (.int .u8 (rr q))) : SlAt own w (some (adr g 0)) n rr := fun q hq => by
  refine ⟨g, 0, rfl, (h.own g rfl).1, h.lt g rfl, ?_⟩
  have := h.row.cells (g := g) rfl q _ (hx q hq)
  have e : (⟨g, 0, none⟩ : Addr).add q = ⟨g, 0 + q, none⟩ := by
    unfold Addr.add; split
    · rename_i h; subst h; rfl
    · rfl
  rwa [e] at this
def Arrs (W : World) (own : Nat → Prop) (w : World) (S : Nat → Option (Nat → Int)) : Prop := ∀ b f, S b = some f → own b ∧ W.heap.size ≤ b ∧ w.heap[b]? = some (.cells (arrV 19 f) 40 (0, 0))
section
variable {W : World} {S : Nat → Option (Nat → Int)}
theorem Arrs.lt (h : Arrs W own w S) {b : Nat} {f : Nat → Int} (hb : S b = some f) : b < w.heap.size := lt_of_heap (h b f hb).2.2
theorem Arrs.kp (h : Arrs W own w S) (k : Kp own w own' w') : Arrs W own' w' S := fun b f hb => by
  obtain ⟨h1, h2, h3⟩ := h b f hb
  obtain ⟨h4, h5⟩ := k.get h1 h3
  exact ⟨h4, h2, h5⟩
theorem Arrs.new (h : Arrs W own w S) {r : Nat} {f : Nat → Int} (k : Kp own w own' w') (hr : W.heap.size ≤ r) (ho : own' r) (hh : w'.heap[r]? = some (.cells (arrV 19 f) 40 (0, 0))) : Arrs W own' w' (fun x => if x = r then some f else S x) := fun b g hb => by
  simp only at hb
  split at hb
  · rename_i e; cases hb; subst e; exact ⟨ho, hr, hh⟩
  · exact h.kp k b g hb
theorem Arrs.set (h : Arrs W own w S) {r : Nat} {f0 f : Nat → Int} (hS : S r = some f0) (hh : w'.heap[r]? = some (.cells (arrV 19 f) 40 (0, 0))) (hk : ∀ b, own b → b ≠ r → w'.heap[b]? = w.heap[b]?) : Arrs W own w' (fun x => if x = r then some f else S x) := fun b g hb => by
  simp only at hb
  split at hb
  · rename_i e; cases hb; subst e
    exact ⟨(h b f0 hS).1, (h b f0 hS).2.1, hh⟩
  · rename_i e
    obtain ⟨h1, h2, h3⟩ := h b g hb
    exact ⟨h1, h2, by rw [hk b h1 e]; exact h3⟩
theorem Old.set {r : Nat} (h : Old W own w) (hr : W.heap.size ≤ r) (hs : w.heap.size ≤ w'.heap.size) (hk : ∀ b, own b → b ≠ r → w'.heap[b]? = w.heap[b]?) : Old W own w' :=
  ⟨Nat.le_trans h.size hs, fun b hb => ⟨(h.heap b hb).1, by rw [hk b (h.heap b hb).1 (by omega)]; exact (h.heap b hb).2⟩⟩
end
section
variable {b : Frame} {n : Nat} {env : Nv} {ds : List Deferred} {k : List Item} {cs : List Frame} {ops : Array Oper} {j : Nat} {o : Oper} {rest : List Nat}
theorem Tk.newArr (W : WkP Try.prog E (mainLo own) b) {d : Nat} (ho : ops[j]? = some o) (hw : wantE ops env o = some true) (hdd : o.dst = some d) (hd : Nat.blt d n = true) (hop : o.op = .alloc 40)
    (h : ∀ own' w' r, Kp own w own' w' → w.heap.size ≤ r → own' r → w'.heap[r]? = some (.cells (arrV 19 fun _ => 0) 40 (0, 0)) → Tk E N i (mainLo own') w' b n ((d, ptr r 0) :: env) ds (.inRegion ops rest :: k) cs) : Tk E N i (mainLo own) w b n env ds (.inRegion ops (j :: rest) :: k) cs := by
  refine Tk.newM W (d := d) ho hw hdd hd (fun r => ptr r 0) (.cells (arrV 19 fun _ => 0) 40 (0, 0)) (fun a ha w₁ => ?_) h
  have := exec_allocC (P := Try.prog) (a := a) (o := o) (t := 40) (c := Array.replicate 19 (.int .i64 0)) hop (by rfl) w₁
  rw [show Array.replicate 19 (Value.int .i64 0) = arrV 19 fun _ => 0 from arrV_zero] at this
  exact this
theorem Tk.storeAll (W : WkP Try.prog E (mainLo own) b) {A : Nat} {f f0 : Nat → Int} {x y : Operand} (ho : ops[j]? = some o) (hw : wantE ops env o = some true) (hd : o.dst = none) (hop : o.op = .store 40 x y)
    (hx : env.ev x = some (ptr A 0)) (hy : env.ev y = some (.agg (arrV 19 f))) (hown : own A) (hh : w.heap[A]? = some (.cells (arrV 19 f0) 40 (0, 0)))
    (h : ∀ w', w.heap.size ≤ w'.heap.size → (∀ b, own b → b ≠ A → w'.heap[b]? = w.heap[b]?) → w'.heap[A]? = some (.cells (arrV 19 f) 40 (0, 0)) → Tk E N i (mainLo own) w' b n env ds (.inRegion ops rest :: k) cs) : Tk E N i (mainLo own) w b n env ds (.inRegion ops (j :: rest) :: k) cs := by
  refine Tk.ostoreA W.wk rfl (x := x) (y := y) (g := A) (c := arrV 19 f) (old := arrV 19 f0) ho hw hd hop (by rw [W.hP, arrV_size]; rfl) (by rw [arrV_size, arrV_size]) arrV_one hx hy hown hh fun w₁ w₂ hv e2 => ?_
  refine h w₂ ?_ (fun b hb hn => ?_) ?_
  · have : w₂.heap.size = w₁.heap.size := by rw [e2]; simp [World.setRow]
    rw [this]; exact hv.1
  · rw [e2, setRow_other _ _ _ _ hn]; exact hv.2 b hb
  · rw [e2]; exact setRow_heap _ _ _ _ _ _ (by rw [hv.2 A hown]; exact hh)
theorem Tk.loadAt (W : WkP Try.prog E (mainLo own) b) {A m d : Nat} {f : Nat → Int} {x : Operand} (hm : m < 19) (ho : ops[j]? = some o) (hw : wantE ops env o = some true) (hdd : o.dst = some d) (hd : Nat.blt d n = true) (hop : o.op = .load 3 x)
    (hx : env.ev x = some (ptr A m)) (hown : own A) (hh : w.heap[A]? = some (.cells (arrV 19 f) 40 (0, 0)))
    (h : Tk E N i (mainLo own) w b n ((d, .int .i64 (f m)) :: env) ds (.inRegion ops rest :: k) cs) : Tk E N i (mainLo own) w b n env ds (.inRegion ops (j :: rest) :: k) cs := by
  have hc : w.cell? (adr A m) = some (.int .i64 (f m)) := by
    rw [cell_at hh, arrV_get, if_pos hm]
  refine Tk.oload W.wk rfl (x := x) (ad := adr A m) (v := .int .i64 (f m)) ho hw (by rw [hdd]; exact hd) hop (by rw [W.hP]; rfl) hx hown hc ?_
  rw [hdd]
  exact h
set_option maxHeartbeats 4000000 in
/-- A SLICE OF REASONS IS APPENDED. -/
theorem Tk.appendS {W : World} (Wk : WkP Try.prog E (mainLo own) b) {d g m n0 cp sc : Nat} {xs : List Value} {sb : Option Addr} {rr : Nat → Nat} {x y : Operand} (r : RowS W own w (.slice (some (adr g 0)) n0 cp) n0 xs) (sl : SlAt own w sb m rr) (hsb : sb = none → sc = 0) (hsb2 : ∀ a, sb = some a → own a.block ∧ a.spot = none) (hsm : n0 + m ≤ 300) (ho : ops[j]? = some o) (hw : wantE ops env o = some true) (hdd : o.dst = some d) (hd : Nat.blt d n = true)
    (hop : o.op = .call { callee := .builtin .append, args := #[x, y], argTypes := #[22, 22] }) (hx : env.ev x = some (.slice (some (adr g 0)) n0 cp)) (hy : env.ev y = some (.slice sb m sc))
    (hWs : W.heap.size ≤ w.heap.size)
    (h : ∀ own' w' g' cp', (∀ b, own b → own' b) → w.heap.size ≤ w'.heap.size → (∀ b, own b → b < w.heap.size → b ≠ g → w'.heap[b]? = w.heap[b]?) → (g' = g ∨ w.heap.size ≤ g') → RowS W own' w' (.slice (some (adr g' 0)) (n0 + m) cp') (n0 + m) (xs ++ rowV m rr) →
      Tk E N i (mainLo own') w' b n ((d, .slice (some (adr g' 0)) (n0 + m) cp') :: env) ds (.inRegion ops rest :: k) cs) : Tk E N i (mainLo own) w b n env ds (.inRegion ops (j :: rest) :: k) cs := by
  have hP := Wk.hP
  refine Tk.privO Wk.wk rfl ho hw (by rw [hdd]; exact hd) fun w₁ hv => ?_
  have r1 : RowS W own w₁ (.slice (some (adr g 0)) n0 cp) n0 xs := r.frame (fun _ x => x) fun g' hg => by cases hg; exact hv.2 g (r.own g rfl).1
  have gl := r.lt g rfl
  cases sb with
  | none =>
    have hm : m = 0 := Nat.eq_zero_of_not_pos fun hp => by
      obtain ⟨_, _, e, _⟩ := sl 0 hp
      cases e
    subst hm
    have hsc := hsb rfl
    subst hsc
    obtain ⟨e1, e2⟩ := append_none (P := Try.prog) (t := 22) (e := 5) (ty := o.type) (w := w₁) (v := .slice (some (adr g 0)) n0 cp) (n := n0) (xs := xs) (by rfl) (by rfl) r1.row
    refine ⟨.slice (some (adr g 0)) n0 cp, w₁, fun a ha => ⟨by rw [hP]; exact exec_append x y 22 hop (ha.ev hx) (ha.ev hy) e1, fun ev hev => ?_⟩, Nat.le_refl _, fun _ _ _ => rfl, rfl, rfl, rfl, ?_⟩
    · rw [hP, events_append_op x y 22 hop (ha.ev hx) (ha.ev hy), e2] at hev
      simp at hev
    · rw [hdd]
      have e3 : (mainLo own).grow w₁.heap.size w₁.heap.size = mainLo own := Lo.grow_self _ _
      rw [e3]
      refine h own w₁ g cp (fun _ x => x) hv.1 (fun b hb _ _ => hv.2 b hb) (.inl rfl) ?_
      show RowS W own w₁ (.slice (some (adr g 0)) n0 cp) n0 (xs ++ [])
      rw [List.append_nil]; exact r1
  | some a0 =>
    obtain ⟨ao, asp⟩ := hsb2 a0 rfl
    obtain ⟨ab, aof, aspot⟩ := a0
    simp only at asp; subst asp
    have hnews : ∀ (q : Nat) (u : Value), (rowV m rr)[q]? = some u → w₁.cell? ((⟨ab, aof, none⟩ : Addr).add q) = some u := fun q u hq => by
      rw [rowV_get] at hq
      split at hq
      · rename_i hlt
        cases hq
        obtain ⟨b', o', e, h1, h2, h3⟩ := sl q hlt
        cases e
        have e2 : (⟨ab, aof, none⟩ : Addr).add q = ⟨ab, aof + q, none⟩ := by
          unfold Addr.add; split
          · rename_i h; subst h; rfl
          · rfl
        rw [e2, (cell_same (a := ⟨ab, aof + q, none⟩) (hv.2 ab h1)).1]; exact h3
      · cases hq
    have h1 : ∀ u ∈ rowV m rr, u.oneCell' = true := fun u hu => by
      unfold rowV at hu
      obtain ⟨q, _, rfl⟩ := List.mem_map.1 hu
      rfl
    have hlen : (rowV m rr).length = m * 1 := by simp [rowV]
    have hmax : n0 + m ≤ maxLen := by unfold maxLen; omega
    have hby : (n0 + m) * 1 ≤ 140737488355328 := by omega
    obtain ⟨v', w', q1, q2, q3, q4, q5⟩ := run_append_own_at (P := Try.prog) (w := w₁) 0 22 o.type 5 _ (.int .u8 0) 1 1 (by rfl) (by rfl) (by rfl) (by rfl) (by rfl) (by rfl) (by decide) (.slice (some (adr g 0)) n0 cp) n0 xs r1.row ⟨ab, aof, none⟩ m sc (rowV m rr) hlen hnews h1 hmax hby (Nat.zero_le _)
    have re := events_append_where (P := Try.prog) w₁ 0 22 o.type 5 _ (.int .u8 0) 1 1 (by rfl) (by rfl) (by rfl) (by rfl) (by rfl) (.slice (some (adr g 0)) n0 cp) n0 xs r1.row ⟨ab, aof, none⟩ m sc (rowV m rr) hlen hnews h1 hmax hby
    refine ⟨v', w', fun a ha => ⟨by rw [hP]; exact exec_append x y 22 hop (ha.ev hx) (ha.ev hy) q1, fun ev hev => ?_⟩, q3.size, fun b hb hlt => q3.block b hlt (fun e => hb (by cases e; exact (r.own g rfl).1)), q3.tape, q3.os, q3.output, ?_⟩
    · rw [hP, events_append_op x y 22 hop (ha.ev hx) (ha.ev hy)] at hev
      rcases re ev hev with ⟨ad, e1, e2⟩ | ⟨mk, rfl, hm⟩
      · refine .inl ⟨ad, ev.write, ev.sync, ?_, .inl ?_⟩
        · cases ev; simp only at e1; subst e1; rfl
        · rcases e2 with ⟨_, e2⟩ | e2
          · rw [e2]; exact ao
          · have e3 : ad.block = g := Option.some.inj e2
            rw [e3]; exact (r.own g rfl).1
      · exact .inr (.inr ⟨mk, false, true, rfl, .inl hm⟩)
    · rw [hdd]
      rcases q2.2 with ⟨e, _⟩ | ⟨g', cap', cur, rfl, _, hgg, _⟩
      · obtain ⟨e2, _⟩ := q4.1 e
        cases e2
      · have hg' : g' = g ∨ g' = w₁.heap.size := by
          rcases q5 with e | e
          · left; cases e; rfl
          · right; cases e; rfl
        refine h _ w' g' cap' (fun b x => .inl x) (Nat.le_trans hv.1 q3.size) (fun b hb hlt hne => (q3.block b (Nat.lt_of_lt_of_le hlt hv.1) (fun e => hne (by cases e; rfl))).trans (hv.2 b hb)) (hg'.imp id fun e => by rw [e]; exact hv.1) ⟨q2, fun g2 hg2 => ?_⟩
        cases hg2
        rcases hg' with e | e
        · rw [e]; exact ⟨.inl (r.own _ rfl).1, (r.own _ rfl).2⟩
        · exact ⟨.inr ⟨Nat.le_of_eq e.symm, lt_of_heap hgg⟩, by rw [e]; exact Nat.le_trans hWs hv.1⟩
end
end Go.Co.F1

namespace Go.Co.F1
open Go Go.Conc Go.Proofs
open Go.Co
open Go.ConcN (upd upd_ne upd_same sumTo)
variable {E : Geo} {N i : Nat} {l : Lo} {w : World} {own own' : Nat → Prop} {w' : World} {FP FP' : Nat → Prop}
set_option maxRecDepth 10000
noncomputable def c4 : Code := (Try.f4.body).getD .skip
theorem b4 : Bod Try.prog 4 106 c4 #[.tmp 8] := ⟨Try.f4, Try.func4, by decide +kernel, rfl, rfl, rfl⟩
theorem sent_add {rs : Nat → Option Nat} {r m : Nat} : ∀ k, sentTo rs r (m + k) = sentTo rs r m + sentTo (fun q => rs (m + q)) r k
  | 0 => rfl
  | k + 1 => by
    have h1 : sentTo rs r (m + (k + 1)) = sentTo rs r (m + k) + (if rs (m + k) = some r then 1 else 0) := rfl
    have h2 : sentTo (fun q => rs (m + q)) r (k + 1) = sentTo (fun q => rs (m + q)) r k + (if rs (m + k) = some r then 1 else 0) := rfl
    rw [h1, h2, sent_add k, Nat.add_assoc]
theorem sent_congr {rs rs' : Nat → Option Nat} {r : Nat} : ∀ k, (∀ q, q < k → rs q = rs' q) → sentTo rs r k = sentTo rs' r k
  | 0, _ => rfl
  | k + 1, h => by
    have := sent_congr (rs := rs) (rs' := rs') (r := r) k fun q hq => h q (by omega)
    unfold sentTo at this ⊢
    simp only [sumTo]
    rw [this, h k (Nat.lt_succ_self k)]
theorem cN_split {rr : Nat → Nat} {m nj r : Nat} (h : m ≤ nj) : cN rr nj r = cN rr m r + cN (fun q => rr (m + q)) (nj - m) r := by
  obtain ⟨k, rfl⟩ : ∃ k, nj = m + k := ⟨nj - m, by omega⟩
  rw [show m + k - m = k by omega]
  unfold cN
  rw [sent_add]
  show ((_ + _ : Nat) : Int) = _
  rw [Int.natCast_add]
  rfl
def rr2 (rr : Nat → Nat) (m nj q : Nat) : Nat := if q < nj - m then rr (m + q) else rr (q - (nj - m))
theorem cN_turn {rr : Nat → Nat} {m nj r : Nat} (h : m ≤ nj) : cN (rr2 rr m nj) nj r = cN rr nj r := by
  obtain ⟨k, rfl⟩ : ∃ k, nj = m + k := ⟨nj - m, by omega⟩
  unfold cN
  rw [show m + k = k + m by omega]
  rw [sent_add (rs := rsn (rr2 rr m (k + m))), show k + m = m + k by omega, sent_add (rs := rsn rr)]
  have e1 : sentTo (rsn (rr2 rr m (m + k))) r k = sentTo (fun q => rsn rr (m + q)) r k := sent_congr k fun q hq => by
    have e : rr2 rr m (m + k) q = rr (m + q) := if_pos (by omega)
    unfold rsn
    rw [e]
  have e2 : sentTo (fun q => rsn (rr2 rr m (m + k)) (k + q)) r m = sentTo (rsn rr) r m := sent_congr m fun q hq => by
    have e : rr2 rr m (m + k) (k + q) = rr q := by
      unfold rr2
      rw [if_neg (by omega), show k + q - (m + k - m) = q by omega]
    unfold rsn
    rw [e]
  rw [e1, e2]
  omega
def cR (rr : Nat → Nat) : Nat → Nat
  | 0 => 0
  | n + 1 => cR rr n + (if isR (rr n) = true then 1 else 0)
theorem cR_le (rr : Nat → Nat) : ∀ n, cR rr n ≤ n
  | 0 => Nat.le_refl _
  | n + 1 => by
    have := cR_le rr n
    simp only [cR]
    split <;> omega
theorem sumF_upd (f : Nat → Int) (r : Nat) (v : Int) : ∀ m, sumF (upd f r v) m = sumF f m + (if r < m then v - f r else 0)
  | 0 => by simp [sumF]
  | m + 1 => by
    simp only [sumF]
    rw [sumF_upd f r v m]
    by_cases e : m = r
    · subst e
      rw [upd_same, if_neg (Nat.lt_irrefl _), if_pos (Nat.lt_succ_self _)]
      omega
    · rw [upd_ne _ _ e]
      by_cases h : r < m
      · rw [if_pos h, if_pos (by omega)]; omega
      · rw [if_neg h, if_neg (by omega)]; omega
theorem sum_cR (rr : Nat → Nat) : ∀ n, sumF (cN rr n) 19 = (cR rr n : Int)
  | 0 => by
    have e : cN rr 0 = fun _ => 0 := by funext r; rfl
    rw [e]; rfl
  | n + 1 => by
    rw [← cN_step]
    simp only [cR]
    by_cases h : isR (rr n) = true
    · rw [if_pos h, if_pos h, sumF_upd, sum_cR rr n]
      have : rr n < 19 := by unfold isR at h; exact (of_decide_eq_true h).2
      rw [if_pos this]
      omega
    · rw [if_neg h, if_neg h, sum_cR rr n]; rfl
structure Ar4 (W : World) (bs : Option Addr) (nj cap m : Nat) (rr : Nat → Nat) : Prop where
  a : Arg W bs nj rr 0
  hc : nj ≤ cap
  hs : ∀ a, bs = some a → a.block < W.heap.size ∧ a.spot = none
  hn : bs = none → cap = 0
  hnj : nj ≤ 300
  hm : m ≤ nj
theorem Ar4.sl {W : World} {bs : Option Addr} {nj cap m : Nat} {rr : Nat → Nat} (h : Ar4 W bs nj cap m rr) (o : Old W own w) : SlAt own w bs nj rr := h.a.sl o
theorem Ar4.src {W : World} {bs : Option Addr} {nj cap m : Nat} {rr : Nat → Nat} (h : Ar4 W bs nj cap m rr) (o : Old W own w) : ∀ a, bs = some a → own a.block ∧ a.spot = none := fun a e => ⟨(o.heap _ (h.hs a e).1).1, (h.hs a e).2⟩
theorem Ar4.srcLo {W : World} {bs : Option Addr} {nj cap m : Nat} {rr : Nat → Nat} (h : Ar4 W bs nj cap m rr) (o : Old W own w) : ∀ a, loA bs m cap = some a → own a.block ∧ a.spot = none := fun a e => by
  unfold loA at e
  split at e
  · exact h.src o a e
  · obtain ⟨a0, e0, rfl⟩ := Option.map_eq_some_iff.1 e
    obtain ⟨h1, h2⟩ := h.src o a0 e0
    have : (a0.add (m * 1)).block = a0.block ∧ (a0.add (m * 1)).spot = none := by
      unfold Addr.add
      split
      · exact ⟨rfl, h2⟩
      · exact ⟨rfl, rfl⟩
    rw [this.1]; exact ⟨h1, this.2⟩
theorem Ar4.noneLo {W : World} {bs : Option Addr} {nj cap m : Nat} {rr : Nat → Nat} (h : Ar4 W bs nj cap m rr) : loA bs m cap = none → cap - m = 0 := fun e => by
  unfold loA at e
  split at e
  · have := h.hn e; omega
  · have := h.hn (by cases bs with | none => rfl | some a => cases e); omega
def v5 (bs : Option Addr) (nj cap m : Nat) (bw : Int) (rr : Nat → Nat) (A9 : Nat) (p : Nat → Nat) (x : Nat) : Value := match x with
  | 0 | 30 | 35 => .slice bs nj cap
  | 2 | 29 | 34 => .int .i64 bw
  | 3 | 31 | 36 => .int .i64 m
  | 9 => ptr A9 0
  | 32 => .slice bs m cap
  | 37 => .slice (loA bs m cap) (nj - m) (cap - m)
  | 33 => .agg (arrV 19 (cnt (cN rr m)))
  | 38 => .agg (arrV 19 (cnt (cN (fun q => rr (m + q)) (nj - m))))
  | 10 => ptr (p 10) 0
  | 11 => ptr (p 11) 0
  | _ => .bool true
abbrev bs5 : List Nat := [0, 2, 3, 9]
structure M5 (W : World) (A9 : Nat) (f0 f1 f2 : Nat → Int) (p : Nat → Nat) (L : Array Bool) (own : Nat → Prop) (w : World) (_FP : Nat → Prop) : Prop where
  ex : ∃ S, Arrs W own w S ∧ S A9 = some f0 ∧ (Up L 10 → S (p 10) = some (if upB L 12 = true then f1 else fun _ => 0) ∧ p 10 ≠ A9) ∧ (Up L 11 → S (p 11) = some (if upB L 13 = true then f2 else fun _ => 0) ∧ p 11 ≠ A9) ∧ (Up L 10 → Up L 11 → p 10 ≠ p 11)
theorem M5.kp {W : World} {A9 : Nat} {f0 f1 f2 : Nat → Int} {p : Nat → Nat} {L : Array Bool} (m : M5 W A9 f0 f1 f2 p L own w FP) (k : Kp own w own' w') : M5 W A9 f0 f1 f2 p L own' w' FP := by
  obtain ⟨S, h1, h2⟩ := m.ex
  exact ⟨S, h1.kp k, h2⟩
theorem M5.same {W : World} {A9 : Nat} {f0 f1 f2 : Nat → Int} {p : Nat → Nat} {L : Array Bool} (j : Nat) (h10 : 10 ≠ j) (h11 : 11 ≠ j) (h12 : 12 ≠ j) (h13 : 13 ≠ j) (m : M5 W A9 f0 f1 f2 p L own w FP) : M5 W A9 f0 f1 f2 p (L.setIfInBounds j true) own w FP := by
  obtain ⟨S, h1, h2, h3, h4, h5⟩ := m.ex
  exact ⟨S, h1, h2, fun u => by rw [upB_ne h12]; exact h3 ((up_ne h10).1 u), fun u => by rw [upB_ne h13]; exact h4 ((up_ne h11).1 u), fun u v => h5 ((up_ne h10).1 u) ((up_ne h11).1 v)⟩
set_option maxHeartbeats 16000000 in
theorem reg5 {W : World} {bs : Option Addr} {nj cap m A9 : Nat} {bw : Int} {rr : Nat → Nat} {f0 : Nat → Int} {k0 : Nat} {cs : List Frame} {k : List Item} {ops : Array Oper} (hops : c4.regOps 5 = some ops) (ar : Ar4 W bs nj cap m rr) :
    ∀ E N L l w env j, It W k0 [4, 9] (v5 bs nj cap m bw rr A9) bs5 (M5 W A9 f0 (cnt (cN rr m)) (cnt (cN (fun q => rr (m + q)) (nj - m)))) ops E L l w env → j < ops.size → Closed ops L → ¬ Up L j → (∀ o, ops[j]? = some o → ∀ e ∈ o.after, Region.binds .any e = true → Up L e.on) → ∀ rest, (∀ E2 N2 l' w' env', It W k0 [4, 9] (v5 bs nj cap m bw rr A9) bs5 (M5 W A9 f0 (cnt (cN rr m)) (cnt (cN (fun q => rr (m + q)) (nj - m)))) ops E2 (L.setIfInBounds j true) l' w' env' → Tk E2 N2 0 l' w' (base 4) 106 env' [] (.inRegion ops rest :: k) cs) → Tk E N 0 l w (base 4) 106 env [] (.inRegion ops (j :: rest) :: k) cs := by
  intro E N L l w env j ⟨p, own, S0, FP, hl, hf, hP, hfin, hsz, F, ho, m5⟩ hj hcl hu hb rest hk'
  subst hl
  cases hops
  have hjn : j < 14 := hj
  have hLs : L.size = 14 := F.size
  have Wk : WkP Try.prog E (mainLo own) (base 4) := wk_main hf hP (by decide)
  have hnj := ar.hnj
  have hm := ar.hm
  have hc := ar.hc
  have hcases : j = 0 ∨ j = 1 ∨ j = 2 ∨ j = 3 ∨ j = 4 ∨ j = 5 ∨ j = 6 ∨ j = 7 ∨ j = 8 ∨ j = 9 ∨ j = 10 ∨ j = 11 ∨ j = 12 ∨ j = 13 := by omega
  rcases hcases with rfl | rfl | rfl | rfl | rfl | rfl | rfl | rfl | rfl | rfl | rfl | rfl | rfl | rfl
  · refine Tk.pure Wk.wk (by rfl) (by rfl) (by rfl) (pure_move (x := .tmp 2) (.inl rfl) (F.base 2 rfl)) ?_
    exact hk' _ _ _ _ _ (It.kp (FP' := FP) (j := 0) (by rfl) hf hP hfin hsz ho (Kp.refl _ _) (F.step (j := 0) (d := 29) (by rfl) rfl rfl) (M5.same 0 (by decide) (by decide) (by decide) (by decide) m5))
  · refine Tk.pure Wk.wk (by rfl) (by rfl) (by rfl) (pure_move (x := .tmp 0) (.inl rfl) (F.base 0 rfl)) ?_
    exact hk' _ _ _ _ _ (It.kp (FP' := FP) (j := 1) (by rfl) hf hP hfin hsz ho (Kp.refl _ _) (F.step (j := 1) (d := 30) (by rfl) rfl rfl) (M5.same 1 (by decide) (by decide) (by decide) (by decide) m5))
  · refine Tk.pure Wk.wk (by rfl) (by rfl) (by rfl) (pure_move (x := .tmp 3) (.inl rfl) (F.base 3 rfl)) ?_
    exact hk' _ _ _ _ _ (It.kp (FP' := FP) (j := 2) (by rfl) hf hP hfin hsz ho (Kp.refl _ _) (F.step (j := 2) (d := 31) (by rfl) rfl rfl) (M5.same 2 (by decide) (by decide) (by decide) (by decide) m5))
  · refine Tk.pure Wk.wk (by rfl) (by rfl) (by rfl) (by rw [hP]; exact pure_sliceHi (x := .tmp 30) (y := .tmp 31) (m := m) (by rfl) (by rfl) (by decide +kernel) (F.get (j := 1) (d := 30) (by rfl) rfl (up_of hb (by rfl) 1 (by rfl))) (F.get (j := 2) (d := 31) (by rfl) rfl (up_of hb (by rfl) 2 (by rfl))) (by omega)) ?_
    exact hk' _ _ _ _ _ (It.kp (FP' := FP) (j := 3) (by rfl) hf hP hfin hsz ho (Kp.refl _ _) (F.step (j := 3) (d := 32) (by rfl) rfl rfl) (M5.same 3 (by decide) (by decide) (by decide) (by decide) m5))
  · refine Tk.callE Wk (by rfl) (by rfl) (by rfl) (by rfl) (by rfl) b14c (ev2 (x := .tmp 29) (y := .tmp 32) (F.get (j := 0) (d := 29) (by rfl) rfl (up_of hb (by rfl) 0 (by rfl))) (F.get (j := 3) (d := 32) (by rfl) rfl (up_of hb (by rfl) 3 (by rfl)))) fun fr1 hk1 => ?_
    exact tallyM hf hP (It.at (by rw [hLs]; decide) hu (by decide) (by rfl) hfin) hsz ho ((ar.sl ho).hi ar.hm) (by omega) fun E2 N2 own2 w2 S2 f2 P2 fin2 sz2 k => hk1 _ _ _ _ _ (hk' _ _ _ _ _ (It.next (by rw [hLs]; decide) hu (by decide) (by rfl) f2 P2 fin2 sz2 (ho.kp k) (F.put (j := 4) (d := 33) (by rfl) rfl) (M5.kp (M5.same 4 (by decide) (by decide) (by decide) (by decide) m5) k)))
  · refine Tk.pure Wk.wk (by rfl) (by rfl) (by rfl) (pure_move (x := .tmp 2) (.inl rfl) (F.base 2 rfl)) ?_
    exact hk' _ _ _ _ _ (It.kp (FP' := FP) (j := 5) (by rfl) hf hP hfin hsz ho (Kp.refl _ _) (F.step (j := 5) (d := 34) (by rfl) rfl rfl) (M5.same 5 (by decide) (by decide) (by decide) (by decide) m5))
  · refine Tk.pure Wk.wk (by rfl) (by rfl) (by rfl) (pure_move (x := .tmp 0) (.inl rfl) (F.base 0 rfl)) ?_
    exact hk' _ _ _ _ _ (It.kp (FP' := FP) (j := 6) (by rfl) hf hP hfin hsz ho (Kp.refl _ _) (F.step (j := 6) (d := 35) (by rfl) rfl rfl) (M5.same 6 (by decide) (by decide) (by decide) (by decide) m5))
  · refine Tk.pure Wk.wk (by rfl) (by rfl) (by rfl) (pure_move (x := .tmp 3) (.inl rfl) (F.base 3 rfl)) ?_
    exact hk' _ _ _ _ _ (It.kp (FP' := FP) (j := 7) (by rfl) hf hP hfin hsz ho (Kp.refl _ _) (F.step (j := 7) (d := 36) (by rfl) rfl rfl) (M5.same 7 (by decide) (by decide) (by decide) (by decide) m5))
  · refine Tk.pure Wk.wk (by rfl) (by rfl) (by rfl) (by rw [hP]; exact pure_sliceLo (x := .tmp 35) (y := .tmp 36) (m := m) (by rfl) (by rfl) (by decide +kernel) (F.get (j := 6) (d := 35) (by rfl) rfl (up_of hb (by rfl) 6 (by rfl))) (F.get (j := 7) (d := 36) (by rfl) rfl (up_of hb (by rfl) 7 (by rfl))) (by omega)) ?_
    exact hk' _ _ _ _ _ (It.kp (FP' := FP) (j := 8) (by rfl) hf hP hfin hsz ho (Kp.refl _ _) (F.step (j := 8) (d := 37) (by rfl) rfl rfl) (M5.same 8 (by decide) (by decide) (by decide) (by decide) m5))
  · refine Tk.callE Wk (by rfl) (by rfl) (by rfl) (by rfl) (by rfl) b14c (ev2 (x := .tmp 34) (y := .tmp 37) (F.get (j := 5) (d := 34) (by rfl) rfl (up_of hb (by rfl) 5 (by rfl))) (F.get (j := 8) (d := 37) (by rfl) rfl (up_of hb (by rfl) 8 (by rfl)))) fun fr1 hk1 => ?_
    exact tallyM hf hP (It.at (by rw [hLs]; decide) hu (by decide) (by rfl) hfin) hsz ho ((ar.sl ho).lo ar.hc) (by omega) fun E2 N2 own2 w2 S2 f2 P2 fin2 sz2 k => hk1 _ _ _ _ _ (hk' _ _ _ _ _ (It.next (by rw [hLs]; decide) hu (by decide) (by rfl) f2 P2 fin2 sz2 (ho.kp k) (F.put (j := 9) (d := 38) (by rfl) rfl) (M5.kp (M5.same 9 (by decide) (by decide) (by decide) (by decide) m5) k)))
  · refine Tk.newArr Wk (d := 10) (by rfl) (by rfl) (by rfl) (by rfl) (by rfl) fun own' w' r kp hr hown hheap => hk' _ _ _ _ _ ?_
    obtain ⟨S, h1, h2, h3, h4, h5⟩ := m5.ex
    have lt9 : A9 ≠ r := fun e => by have := h1.lt h2; omega
    have hF := (F.chg1 (val' := v5 bs nj cap m bw rr A9 (upd p 10 r)) (j := 10) (d := 10) (fun x hx => by unfold v5; split <;> first | rfl | (rw [if_neg (by decide)]) | exact absurd rfl hx) (by rfl) (by decide +kernel) hu).put (j := 10) (d := 10) (by rfl) rfl
    refine ⟨upd p 10 r, own', S0, FP, rfl, hf, hP, by rw [lft_ne (by rfl)]; exact hfin, Nat.le_trans hsz kp.size, hF, ho.kp kp, ⟨_, h1.new kp (Nat.le_trans ho.size hr) hown hheap, by rw [if_neg lt9]; exact h2, ?_, ?_, ?_⟩⟩
    · intro _; rw [upd_same, if_pos rfl, upB_ne (by decide), upB_no fun x => hu (Closed.up hcl x (by rfl) 10 (by rfl))]; exact ⟨rfl, Ne.symm lt9⟩
    · intro u; rw [upB_ne (by decide), upd_ne _ _ (by decide)]; obtain ⟨q1, q2⟩ := h4 ((up_ne (by decide)).1 u); rw [if_neg fun e => by have := h1.lt q1; omega]; exact ⟨q1, q2⟩
    · intro _ u; rw [upd_same, upd_ne _ _ (by decide)]; obtain ⟨q1, q2⟩ := h4 ((up_ne (by decide)).1 u); exact fun e => by have := h1.lt q1; omega
  · refine Tk.newArr Wk (d := 11) (by rfl) (by rfl) (by rfl) (by rfl) (by rfl) fun own' w' r kp hr hown hheap => hk' _ _ _ _ _ ?_
    obtain ⟨S, h1, h2, h3, h4, h5⟩ := m5.ex
    have lt9 : A9 ≠ r := fun e => by have := h1.lt h2; omega
    have hF := (F.chg1 (val' := v5 bs nj cap m bw rr A9 (upd p 11 r)) (j := 11) (d := 11) (fun x hx => by unfold v5; split <;> first | rfl | (rw [if_neg (by decide)]) | exact absurd rfl hx) (by rfl) (by decide +kernel) hu).put (j := 11) (d := 11) (by rfl) rfl
    refine ⟨upd p 11 r, own', S0, FP, rfl, hf, hP, by rw [lft_ne (by rfl)]; exact hfin, Nat.le_trans hsz kp.size, hF, ho.kp kp, ⟨_, h1.new kp (Nat.le_trans ho.size hr) hown hheap, by rw [if_neg lt9]; exact h2, ?_, ?_, ?_⟩⟩
    · intro u; rw [upB_ne (by decide), upd_ne _ _ (by decide)]; obtain ⟨q1, q2⟩ := h3 ((up_ne (by decide)).1 u); rw [if_neg fun e => by have := h1.lt q1; omega]; exact ⟨q1, q2⟩
    · intro _; rw [upd_same, if_pos rfl, upB_ne (by decide), upB_no fun x => hu (Closed.up hcl x (by rfl) 11 (by rfl))]; exact ⟨rfl, Ne.symm lt9⟩
    · intro u _; rw [upd_same, upd_ne _ _ (by decide)]; obtain ⟨q1, q2⟩ := h3 ((up_ne (by decide)).1 u); exact fun e => by have := h1.lt q1; omega
  · obtain ⟨S, h1, h2, h3, h4, h5⟩ := m5.ex
    have u10 := up_of hb (by rfl) 10 (by rfl)
    have u11 := up_of hb (by rfl) 11 (by rfl)
    obtain ⟨q1, q2⟩ := h3 u10
    obtain ⟨r1, r2, r3⟩ := h1 _ _ q1
    refine Tk.storeAll Wk (A := p 10) (x := .tmp 10) (y := .tmp 33) (by rfl) (by rfl) (by rfl) (by rfl) (F.get (j := 10) (d := 10) (by rfl) rfl (up_of hb (by rfl) 10 (by rfl))) (F.get (j := 4) (d := 33) (by rfl) rfl (up_of hb (by rfl) 4 (by rfl))) r1 r3 fun w' s3 h3' A4 => hk' _ _ _ _ _ ?_
    refine ⟨p, own, S0, FP, rfl, hf, hP, by rw [lft_ne (by rfl)]; exact hfin, Nat.le_trans hsz s3, F.none (j := 12) (by rfl) rfl, ho.set r2 s3 h3', ⟨_, h1.set q1 A4 h3', by rw [if_neg (Ne.symm q2)]; exact h2, ?_, ?_, ?_⟩⟩
    · intro _; rw [if_pos rfl, upB_eq (by rw [hLs]; decide)]; exact ⟨rfl, q2⟩
    · intro _; rw [upB_ne (by decide), if_neg (Ne.symm (h5 u10 u11))]; exact h4 u11
    · intro _ _; exact h5 u10 u11
  · obtain ⟨S, h1, h2, h3, h4, h5⟩ := m5.ex
    have u10 := up_of hb (by rfl) 10 (by rfl)
    have u11 := up_of hb (by rfl) 11 (by rfl)
    obtain ⟨q1, q2⟩ := h4 u11
    obtain ⟨r1, r2, r3⟩ := h1 _ _ q1
    refine Tk.storeAll Wk (A := p 11) (x := .tmp 11) (y := .tmp 38) (by rfl) (by rfl) (by rfl) (by rfl) (F.get (j := 11) (d := 11) (by rfl) rfl (up_of hb (by rfl) 11 (by rfl))) (F.get (j := 9) (d := 38) (by rfl) rfl (up_of hb (by rfl) 9 (by rfl))) r1 r3 fun w' s3 h3' A4 => hk' _ _ _ _ _ ?_
    refine ⟨p, own, S0, FP, rfl, hf, hP, by rw [lft_ne (by rfl)]; exact hfin, Nat.le_trans hsz s3, F.none (j := 13) (by rfl) rfl, ho.set r2 s3 h3', ⟨_, h1.set q1 A4 h3', by rw [if_neg (Ne.symm q2)]; exact h2, ?_, ?_, ?_⟩⟩
    · intro _; rw [upB_ne (by decide), if_neg (h5 u10 u11)]; exact h3 u10
    · intro _; rw [if_pos rfl, upB_eq (by rw [hLs]; decide)]; exact ⟨rfl, q2⟩
    · intro _ _; exact h5 u10 u11
def v6 (bs : Option Addr) (nj cap m : Nat) (bw : Int) (rr : Nat → Nat) (A9 A10 A11 : Nat) (p : Nat → Nat) (x : Nat) : Value := match x with
  | 0 | 41 | 45 => .slice bs nj cap
  | 2 | 39 => .int .i64 bw
  | 3 | 42 | 46 => .int .i64 m
  | 9 => ptr A9 0
  | 10 => ptr A10 0
  | 11 => ptr A11 0
  | 40 => .slice (some (adr (p 40) 0)) 0 (p 140)
  | 43 => .slice (loA bs m cap) (nj - m) (cap - m)
  | 44 => .slice (some (adr (p 44) 0)) (0 + (nj - m)) (p 144)
  | 47 => .slice bs m cap
  | 48 => .slice (some (adr (p 48) 0)) (0 + (nj - m) + m) (p 148)
  | 49 => .agg (arrV 19 (cnt (cN (rr2 rr m nj) nj)))
  | 12 => ptr (p 12) 0
  | _ => .bool true
abbrev bs6 : List Nat := [0, 2, 3, 9, 10, 11]
structure M6 (W : World) (A9 A10 A11 : Nat) (f0 f1 f2 : Nat → Int) (nj m : Nat) (rr : Nat → Nat) (p : Nat → Nat) (L : Array Bool) (own : Nat → Prop) (w : World) (_FP : Nat → Prop) : Prop where
  ex : ∃ S, Arrs W own w S ∧ S A9 = some f0 ∧ S A10 = some f1 ∧ S A11 = some f2 ∧ (Up L 11 → S (p 12) = some (if upB L 12 = true then cnt (cN (rr2 rr m nj) nj) else fun _ => 0) ∧ p 12 ≠ A9 ∧ p 12 ≠ A10 ∧ p 12 ≠ A11) ∧
    (Up L 1 → ¬ Up L 5 → RowS W own w (.slice (some (adr (p 40) 0)) 0 (p 140)) 0 [] ∧ S (p 40) = none) ∧
    (Up L 5 → ¬ Up L 9 → RowS W own w (.slice (some (adr (p 44) 0)) (0 + (nj - m)) (p 144)) (0 + (nj - m)) ([] ++ rowV (nj - m) fun q => rr (m + q)) ∧ S (p 44) = none) ∧
    (Up L 9 → RowS W own w (.slice (some (adr (p 48) 0)) (0 + (nj - m) + m) (p 148)) (0 + (nj - m) + m) ([] ++ (rowV (nj - m) fun q => rr (m + q)) ++ rowV m rr) ∧ S (p 48) = none)
section
variable {W : World} {A9 A10 A11 : Nat} {f0 f1 f2 : Nat → Int} {nj m : Nat} {rr : Nat → Nat} {p : Nat → Nat} {L : Array Bool}
theorem M6.kp (h : M6 W A9 A10 A11 f0 f1 f2 nj m rr p L own w FP) (k : Kp own w own' w') : M6 W A9 A10 A11 f0 f1 f2 nj m rr p L own' w' FP := by
  obtain ⟨S, h1, h2, h3, h4, h5, h6, h7, h8⟩ := h.ex
  exact ⟨S, h1.kp k, h2, h3, h4, h5, fun a b => ⟨(h6 a b).1.kp k, (h6 a b).2⟩, fun a b => ⟨(h7 a b).1.kp k, (h7 a b).2⟩, fun a => ⟨(h8 a).1.kp k, (h8 a).2⟩⟩
theorem M6.same (j : Nat) (h1 : 1 ≠ j) (h5 : 5 ≠ j) (h9 : 9 ≠ j) (h11 : 11 ≠ j) (h12 : 12 ≠ j) (h : M6 W A9 A10 A11 f0 f1 f2 nj m rr p L own w FP) : M6 W A9 A10 A11 f0 f1 f2 nj m rr p (L.setIfInBounds j true) own w FP := by
  obtain ⟨S, q1, q2, q3, q4, q5, q6, q7, q8⟩ := h.ex
  exact ⟨S, q1, q2, q3, q4, fun u => by rw [upB_ne h12]; exact q5 ((up_ne h11).1 u), fun a b => q6 ((up_ne h1).1 a) fun x => b ((up_ne h5).2 x), fun a b => q7 ((up_ne h5).1 a) fun x => b ((up_ne h9).2 x), fun a => q8 ((up_ne h9).1 a)⟩
end
theorem rr2_row {rr : Nat → Nat} {m nj q : Nat} (h : m ≤ nj) (hq : q < nj) : ([] ++ (rowV (nj - m) fun q => rr (m + q)) ++ rowV m rr)[q]? = some (.int .u8 (rr2 rr m nj q)) := by
  rw [List.nil_append]
  unfold rr2
  by_cases hlt : q < nj - m
  · rw [List.getElem?_append_left (by simp [rowV]; omega), rowV_get, if_pos hlt, if_pos hlt]
  · rw [List.getElem?_append_right (by simp [rowV]; omega), if_neg hlt]
    have : (rowV (nj - m) fun q => rr (m + q)).length = nj - m := by simp [rowV]
    rw [this, rowV_get, if_pos (by omega)]
theorem exec_slice0 {P : Program} {a : Act} {o : Oper} {t elem : TypeId} {i : TypeInfo} (ho : o.op = .buildSlice t 0 #[]) (hu : P.underlying t = some (.slice elem)) (hi : P.info? elem = some i) (w : World) :
    (execOp a.eval o).run P w = .ok (.value (.slice (some ⟨w.heap.size, 0, none⟩) 0 0)) { w with heap := w.heap.push (.cells #[] elem (0, 0)) } ∧ (execOp a.eval o).events P w #[] = #[] := by
  have h2 : (underlying t).run P w = .ok (.slice elem) w := run_underlying hu w
  have h3 := sizeOf_run hi w
  constructor
  · simp [execOp, ho, Instr.buildSlice, newRow, h2, h3, Instr.fill]
    rw [show Array.range 0 = #[] from Array.eq_empty_of_size_eq_zero Array.size_range, Array.map_empty]
  · simp [execOp, ho, Instr.buildSlice, newRow, h2, h3, Instr.fill, events_underlying, events_sizeOf]
set_option maxHeartbeats 16000000 in
theorem reg6 {W : World} {bs : Option Addr} {nj cap m A9 A10 A11 : Nat} {bw : Int} {rr : Nat → Nat} {f0 f1 f2 : Nat → Int} {k0 : Nat} {cs : List Frame} {k : List Item} {ops : Array Oper} (hops : c4.regOps 6 = some ops) (ar : Ar4 W bs nj cap m rr) :
    ∀ E N L l w env j, It W k0 [10] (v6 bs nj cap m bw rr A9 A10 A11) bs6 (M6 W A9 A10 A11 f0 f1 f2 nj m rr) ops E L l w env → j < ops.size → Closed ops L → ¬ Up L j → (∀ o, ops[j]? = some o → ∀ e ∈ o.after, Region.binds .any e = true → Up L e.on) → ∀ rest, (∀ E2 N2 l' w' env', It W k0 [10] (v6 bs nj cap m bw rr A9 A10 A11) bs6 (M6 W A9 A10 A11 f0 f1 f2 nj m rr) ops E2 (L.setIfInBounds j true) l' w' env' → Tk E2 N2 0 l' w' (base 4) 106 env' [] (.inRegion ops rest :: k) cs) → Tk E N 0 l w (base 4) 106 env [] (.inRegion ops (j :: rest) :: k) cs := by
  intro E N L l w env j ⟨p, own, S0, FP, hl, hf, hP, hfin, hsz, F, ho, m6⟩ hj hcl hu hb rest hk'
  subst hl
  cases hops
  have hjn : j < 13 := hj
  have hLs : L.size = 13 := F.size
  have Wk : WkP Try.prog E (mainLo own) (base 4) := wk_main hf hP (by decide)
  have hnj := ar.hnj
  have hm := ar.hm
  have hc := ar.hc
  have hcases : j = 0 ∨ j = 1 ∨ j = 2 ∨ j = 3 ∨ j = 4 ∨ j = 5 ∨ j = 6 ∨ j = 7 ∨ j = 8 ∨ j = 9 ∨ j = 10 ∨ j = 11 ∨ j = 12 := by omega
  rcases hcases with rfl | rfl | rfl | rfl | rfl | rfl | rfl | rfl | rfl | rfl | rfl | rfl | rfl
  · refine Tk.pure Wk.wk (by rfl) (by rfl) (by rfl) (pure_move (x := .tmp 2) (.inl rfl) (F.base 2 rfl)) ?_
    exact hk' _ _ _ _ _ (It.kp (FP' := FP) (j := 0) (by rfl) hf hP hfin hsz ho (Kp.refl _ _) (F.step (j := 0) (d := 39) (by rfl) rfl rfl) (M6.same 0 (by decide) (by decide) (by decide) (by decide) (by decide) m6))
  · obtain ⟨S, q1, q2, q3, q4, q5, q6, q7, q8⟩ := m6.ex
    refine Tk.newM Wk (d := 40) (by rfl) (by rfl) (by rfl) (by rfl) (fun r => .slice (some (adr r 0)) 0 0) (.cells #[] 5 (0, 0)) (fun a ha w₁ => exec_slice0 (t := 22) (elem := 5) (by rfl) (by rfl) (by rfl) w₁) fun own' w' r kp hr hown hheap => hk' _ _ _ _ _ ?_
    refine ⟨upd (upd p 40 r) 140 0, own', S0, FP, rfl, hf, hP, by rw [lft_ne (by rfl)]; exact hfin, Nat.le_trans hsz kp.size, (F.chg1 (val' := v6 bs nj cap m bw rr A9 A10 A11 (upd (upd p 40 r) 140 0)) (j := 1) (d := 40) (fun x hx => by unfold v6; split <;> first | rfl | exact absurd rfl hx) (by rfl) (by decide +kernel) hu).put (j := 1) (d := 40) (by rfl) rfl, ho.kp kp, ⟨S, q1.kp kp, q2, q3, q4, fun u => ?_, fun _ _ => ?_, fun u => ?_, fun u => ?_⟩⟩
    · rw [upB_ne (by decide)]; exact q5 ((up_ne (by decide)).1 u)
    · refine ⟨⟨⟨rfl, .inr ⟨r, 0, #[], rfl, Nat.zero_le _, hheap, Nat.le_refl _, Nat.zero_le _, rfl, rfl⟩⟩, fun g hg => ?_⟩, ?_⟩
      · cases hg; exact ⟨hown, Nat.le_trans ho.size hr⟩
      · show S r = none
        cases e : S r with
        | none => rfl
        | some f => have := q1.lt e; omega
    · exact absurd ((up_ne (by decide)).1 u) (fun x => hu (Closed.up hcl x (by rfl) 1 (by rfl)))
    · exact absurd ((up_ne (by decide)).1 u) (fun x => hu (Closed.up hcl (Closed.up hcl x (by rfl) 5 (by rfl)) (by rfl) 1 (by rfl)))
  · refine Tk.pure Wk.wk (by rfl) (by rfl) (by rfl) (pure_move (x := .tmp 0) (.inl rfl) (F.base 0 rfl)) ?_
    exact hk' _ _ _ _ _ (It.kp (FP' := FP) (j := 2) (by rfl) hf hP hfin hsz ho (Kp.refl _ _) (F.step (j := 2) (d := 41) (by rfl) rfl rfl) (M6.same 2 (by decide) (by decide) (by decide) (by decide) (by decide) m6))
  · refine Tk.pure Wk.wk (by rfl) (by rfl) (by rfl) (pure_move (x := .tmp 3) (.inl rfl) (F.base 3 rfl)) ?_
    exact hk' _ _ _ _ _ (It.kp (FP' := FP) (j := 3) (by rfl) hf hP hfin hsz ho (Kp.refl _ _) (F.step (j := 3) (d := 42) (by rfl) rfl rfl) (M6.same 3 (by decide) (by decide) (by decide) (by decide) (by decide) m6))
  · refine Tk.pure Wk.wk (by rfl) (by rfl) (by rfl) (by rw [hP]; exact pure_sliceLo (x := .tmp 41) (y := .tmp 42) (m := m) (by rfl) (by rfl) (by decide +kernel) (F.get (j := 2) (d := 41) (by rfl) rfl (up_of hb (by rfl) 2 (by rfl))) (F.get (j := 3) (d := 42) (by rfl) rfl (up_of hb (by rfl) 3 (by rfl))) (by omega)) ?_
    exact hk' _ _ _ _ _ (It.kp (FP' := FP) (j := 4) (by rfl) hf hP hfin hsz ho (Kp.refl _ _) (F.step (j := 4) (d := 43) (by rfl) rfl rfl) (M6.same 4 (by decide) (by decide) (by decide) (by decide) (by decide) m6))
  · obtain ⟨S, q1, q2, q3, q4, q5, q6, q7, q8⟩ := m6.ex
    obtain ⟨r1, r2⟩ := q6 (up_of hb (by rfl) 1 (by rfl)) hu
    refine Tk.appendS Wk (d := 44) (x := .tmp 40) (y := .tmp 43) r1 ((ar.sl ho).lo ar.hc) ar.noneLo (ar.srcLo ho) (by omega) (by rfl) (by rfl) (by rfl) (by rfl) (by rfl) (F.get (j := 1) (d := 40) (by rfl) rfl (up_of hb (by rfl) 1 (by rfl))) (F.get (j := 4) (d := 43) (by rfl) rfl (up_of hb (by rfl) 4 (by rfl))) ho.size fun own' w' g' cp' o1 o2 o3 o4 o5 => hk' _ _ _ _ _ ?_
    have gW : W.heap.size ≤ p 40 := (r1.own _ rfl).2
    have hA : Arrs W own' w' S := fun b f hbf => by
      obtain ⟨a1, a2, a3⟩ := q1 b f hbf
      exact ⟨o1 b a1, a2, by rw [o3 b a1 (lt_of_heap a3) fun e => by rw [e, r2] at hbf; cases hbf]; exact a3⟩
    have hO : Old W own' w' := ⟨Nat.le_trans ho.size o2, fun b hlt => ⟨o1 b (ho.heap b hlt).1, by rw [o3 b (ho.heap b hlt).1 (Nat.lt_of_lt_of_le hlt ho.size) (by omega)]; exact (ho.heap b hlt).2⟩⟩
    have hg' : S g' = none := by
      rcases o4 with e | e
      · rw [e]; exact r2
      · cases e2 : S g' with
        | none => rfl
        | some f => have := q1.lt e2; omega
    refine ⟨(upd (upd p 44 g') 144 cp'), own', S0, FP, rfl, hf, hP, by rw [lft_ne (by rfl)]; exact hfin, Nat.le_trans hsz o2, (F.chg1 (val' := v6 bs nj cap m bw rr A9 A10 A11 (upd (upd p 44 g') 144 cp')) (j := 5) (d := 44) (fun x hx => by unfold v6; split <;> first | rfl | exact absurd rfl hx) (by rfl) (by decide +kernel) hu).put (j := 5) (d := 44) (by rfl) rfl, hO, ⟨S, hA, q2, q3, q4, fun u => ?_, fun u v => ?_, fun u v => ?_, fun u => ?_⟩⟩
    · rw [upB_ne (by decide)]; exact q5 ((up_ne (by decide)).1 u)
    · exact absurd (up_eq (by rw [hLs]; decide)) v
    · exact ⟨o5, hg'⟩
    · exact absurd ((up_ne (by decide)).1 u) (fun x => hu (Closed.up hcl x (by rfl) 5 (by rfl)))
  · refine Tk.pure Wk.wk (by rfl) (by rfl) (by rfl) (pure_move (x := .tmp 0) (.inl rfl) (F.base 0 rfl)) ?_
    exact hk' _ _ _ _ _ (It.kp (FP' := FP) (j := 6) (by rfl) hf hP hfin hsz ho (Kp.refl _ _) (F.step (j := 6) (d := 45) (by rfl) rfl rfl) (M6.same 6 (by decide) (by decide) (by decide) (by decide) (by decide) m6))
  · refine Tk.pure Wk.wk (by rfl) (by rfl) (by rfl) (pure_move (x := .tmp 3) (.inl rfl) (F.base 3 rfl)) ?_
    exact hk' _ _ _ _ _ (It.kp (FP' := FP) (j := 7) (by rfl) hf hP hfin hsz ho (Kp.refl _ _) (F.step (j := 7) (d := 46) (by rfl) rfl rfl) (M6.same 7 (by decide) (by decide) (by decide) (by decide) (by decide) m6))
  · refine Tk.pure Wk.wk (by rfl) (by rfl) (by rfl) (by rw [hP]; exact pure_sliceHi (x := .tmp 45) (y := .tmp 46) (m := m) (by rfl) (by rfl) (by decide +kernel) (F.get (j := 6) (d := 45) (by rfl) rfl (up_of hb (by rfl) 6 (by rfl))) (F.get (j := 7) (d := 46) (by rfl) rfl (up_of hb (by rfl) 7 (by rfl))) (by omega)) ?_
    exact hk' _ _ _ _ _ (It.kp (FP' := FP) (j := 8) (by rfl) hf hP hfin hsz ho (Kp.refl _ _) (F.step (j := 8) (d := 47) (by rfl) rfl rfl) (M6.same 8 (by decide) (by decide) (by decide) (by decide) (by decide) m6))
  · obtain ⟨S, q1, q2, q3, q4, q5, q6, q7, q8⟩ := m6.ex
    obtain ⟨r1, r2⟩ := q7 (up_of hb (by rfl) 5 (by rfl)) hu
    refine Tk.appendS Wk (d := 48) (x := .tmp 44) (y := .tmp 47) r1 ((ar.sl ho).hi ar.hm) ar.hn (ar.src ho) (by omega) (by rfl) (by rfl) (by rfl) (by rfl) (by rfl) (F.get (j := 5) (d := 44) (by rfl) rfl (up_of hb (by rfl) 5 (by rfl))) (F.get (j := 8) (d := 47) (by rfl) rfl (up_of hb (by rfl) 8 (by rfl))) ho.size fun own' w' g' cp' o1 o2 o3 o4 o5 => hk' _ _ _ _ _ ?_
    have gW : W.heap.size ≤ p 44 := (r1.own _ rfl).2
    have hA : Arrs W own' w' S := fun b f hbf => by
      obtain ⟨a1, a2, a3⟩ := q1 b f hbf
      exact ⟨o1 b a1, a2, by rw [o3 b a1 (lt_of_heap a3) fun e => by rw [e, r2] at hbf; cases hbf]; exact a3⟩
    have hO : Old W own' w' := ⟨Nat.le_trans ho.size o2, fun b hlt => ⟨o1 b (ho.heap b hlt).1, by rw [o3 b (ho.heap b hlt).1 (Nat.lt_of_lt_of_le hlt ho.size) (by omega)]; exact (ho.heap b hlt).2⟩⟩
    have hg' : S g' = none := by
      rcases o4 with e | e
      · rw [e]; exact r2
      · cases e2 : S g' with
        | none => rfl
        | some f => have := q1.lt e2; omega
    refine ⟨(upd (upd p 48 g') 148 cp'), own', S0, FP, rfl, hf, hP, by rw [lft_ne (by rfl)]; exact hfin, Nat.le_trans hsz o2, (F.chg1 (val' := v6 bs nj cap m bw rr A9 A10 A11 (upd (upd p 48 g') 148 cp')) (j := 9) (d := 48) (fun x hx => by unfold v6; split <;> first | rfl | exact absurd rfl hx) (by rfl) (by decide +kernel) hu).put (j := 9) (d := 48) (by rfl) rfl, hO, ⟨S, hA, q2, q3, q4, fun u => ?_, fun u v => ?_, fun u v => ?_, fun u => ?_⟩⟩
    · rw [upB_ne (by decide)]; exact q5 ((up_ne (by decide)).1 u)
    · exact absurd ((up_ne (by decide)).2 (up_of hb (by rfl) 5 (by rfl))) v
    · exact absurd (up_eq (by rw [hLs]; decide)) v
    · exact ⟨o5, hg'⟩
  · obtain ⟨S, q1, q2, q3, q4, q5, q6, q7, q8⟩ := m6.ex
    obtain ⟨r1, _⟩ := q8 (up_of hb (by rfl) 9 (by rfl))
    have en : 0 + (nj - m) + m = nj := by omega
    have g48 := (F.get (j := 9) (d := 48) (by rfl) rfl (up_of hb (by rfl) 9 (by rfl)))
    have hsl : SlAt own w (some (adr (p 48) 0)) nj (rr2 rr m nj) := (by rw [en] at r1; exact r1.sl fun q hq => rr2_row hm hq)
    have g48' : env.ev (.tmp 48) = some (.slice (some (adr (p 48) 0)) nj (p 148)) := by rw [show env.ev (.tmp 48) = _ from g48]; show some (Value.slice _ (0 + (nj - m) + m) _) = _; rw [en]
    refine Tk.callE Wk (by rfl) (by rfl) (by rfl) (by rfl) (by rfl) b14c (ev2 (x := .tmp 39) (y := .tmp 48) (F.get (j := 0) (d := 39) (by rfl) rfl (up_of hb (by rfl) 0 (by rfl))) g48') fun fr1 hk1 => ?_
    exact tallyM hf hP (It.at (by rw [hLs]; decide) hu (by decide) (by rfl) hfin) hsz ho hsl (by omega) fun E2 N2 own2 w2 S2 f2 P2 fin2 sz2 k => hk1 _ _ _ _ _ (hk' _ _ _ _ _ (It.next (by rw [hLs]; decide) hu (by decide) (by rfl) f2 P2 fin2 sz2 (ho.kp k) (F.put (j := 10) (d := 49) (by rfl) rfl) (M6.kp (M6.same 10 (by decide) (by decide) (by decide) (by decide) (by decide) m6) k)))
  · obtain ⟨S, q1, q2, q3, q4, q5, q6, q7, q8⟩ := m6.ex
    refine Tk.newArr Wk (d := 12) (by rfl) (by rfl) (by rfl) (by rfl) (by rfl) fun own' w' r kp hr hown hheap => hk' _ _ _ _ _ ?_
    have ne : ∀ {b f}, S b = some f → b ≠ r := fun h e => by have := q1.lt h; omega
    have nr : ∀ {g : Nat} {v : Value} {n : Nat} {xs : List Value}, RowS W own w v n xs → v.ownBlock = some g → S g = none → (if g = r then some (fun _ => (0 : Int)) else S g) = none := fun h e hs => by rw [if_neg fun e2 => by have := h.lt _ e; omega]; exact hs
    refine ⟨upd p 12 r, own', S0, FP, rfl, hf, hP, by rw [lft_ne (by rfl)]; exact hfin, Nat.le_trans hsz kp.size, (F.chg1 (val' := v6 bs nj cap m bw rr A9 A10 A11 (upd p 12 r)) (j := 11) (d := 12) (fun x hx => by unfold v6; split <;> first | rfl | exact absurd rfl hx) (by rfl) (by decide +kernel) hu).put (j := 11) (d := 12) (by rfl) rfl, ho.kp kp, ⟨_, q1.new kp (Nat.le_trans ho.size hr) hown hheap, by rw [if_neg (ne q2)]; exact q2, by rw [if_neg (ne q3)]; exact q3, by rw [if_neg (ne q4)]; exact q4, fun _ => ?_, fun u v => ?_, fun u v => ?_, fun u => ?_⟩⟩
    · rw [upB_ne (by decide), upB_no fun x => hu (Closed.up hcl x (by rfl) 11 (by rfl)), upd_same, if_pos rfl]; exact ⟨rfl, Ne.symm (ne q2), Ne.symm (ne q3), Ne.symm (ne q4)⟩
    · obtain ⟨a, b⟩ := q6 ((up_ne (by decide)).1 u) fun x => v ((up_ne (by decide)).2 x); exact ⟨a.kp kp, nr a rfl b⟩
    · obtain ⟨a, b⟩ := q7 ((up_ne (by decide)).1 u) fun x => v ((up_ne (by decide)).2 x); exact ⟨a.kp kp, nr a rfl b⟩
    · obtain ⟨a, b⟩ := q8 ((up_ne (by decide)).1 u); exact ⟨a.kp kp, nr a rfl b⟩
  · obtain ⟨S, q1, q2, q3, q4, q5, q6, q7, q8⟩ := m6.ex
    obtain ⟨t1, t2, t3, t4⟩ := q5 (up_of hb (by rfl) 11 (by rfl))
    obtain ⟨r1, r2, r3⟩ := q1 _ _ t1
    refine Tk.storeAll Wk (A := p 12) (x := .tmp 12) (y := .tmp 49) (by rfl) (by rfl) (by rfl) (by rfl) (F.get (j := 11) (d := 12) (by rfl) rfl (up_of hb (by rfl) 11 (by rfl))) (F.get (j := 10) (d := 49) (by rfl) rfl (up_of hb (by rfl) 10 (by rfl))) r1 r3 fun w' s3 h3' A4 => hk' _ _ _ _ _ ?_
    have nr : ∀ {g : Nat} {v : Value} {n : Nat} {xs : List Value} {f : Nat → Int}, RowS W own w v n xs → v.ownBlock = some g → S g = none → RowS W own w' v n xs ∧ (if g = p 12 then some f else S g) = none := fun {g v n xs f} h e hs => by
      have hne : g ≠ p 12 := fun e2 => by rw [e2, t1] at hs; cases hs
      exact ⟨h.frame (fun _ x => x) fun g' hg' => h3' g' (h.own g' hg').1 (by rw [e] at hg'; cases hg'; exact hne), by rw [if_neg hne]; exact hs⟩
    refine ⟨p, own, S0, FP, rfl, hf, hP, by rw [lft_ne (by rfl)]; exact hfin, Nat.le_trans hsz s3, F.none (j := 12) (by rfl) rfl, ho.set r2 s3 h3', ⟨_, q1.set t1 A4 h3', by rw [if_neg (Ne.symm t2)]; exact q2, by rw [if_neg (Ne.symm t3)]; exact q3, by rw [if_neg (Ne.symm t4)]; exact q4, fun _ => ?_, fun u v => ?_, fun u v => ?_, fun u => ?_⟩⟩
    · rw [upB_eq (by rw [hLs]; decide), if_pos rfl]; exact ⟨rfl, t2, t3, t4⟩
    · obtain ⟨a, b⟩ := q6 ((up_ne (by decide)).1 u) fun x => v ((up_ne (by decide)).2 x); exact nr a rfl b
    · obtain ⟨a, b⟩ := q7 ((up_ne (by decide)).1 u) fun x => v ((up_ne (by decide)).2 x); exact nr a rfl b
    · obtain ⟨a, b⟩ := q8 ((up_ne (by decide)).1 u); exact nr a rfl b
def v11 (bs : Option Addr) (nj cap A12 : Nat) (sm : Int) (A9 A10 A11 n : Nat) (f0 f1 f2 : Nat → Int) (_p : Nat → Nat) (x : Nat) : Value := match x with
  | 0 => .slice bs nj cap
  | 9 => ptr A9 0
  | 10 => ptr A10 0
  | 11 => ptr A11 0
  | 12 => ptr A12 0
  | 13 => .int .i64 sm
  | 14 | 54 | 57 | 60 => .int .i64 n
  | 55 => ptr A9 n
  | 58 => ptr A10 n
  | 61 => ptr A11 n
  | 56 => .int .i64 (f0 n)
  | 59 => .int .i64 (f1 n)
  | 62 => .int .i64 (f2 n)
  | 63 => .int .i64 (f1 n + f2 n)
  | _ => .bool false
abbrev bs11 : List Nat := [0, 9, 10, 11, 12, 13, 14]
def M11 (W : World) (A9 A10 A11 : Nat) (f0 f1 f2 : Nat → Int) (A12 : Nat) (f3 : Nat → Int) (_p : Nat → Nat) (_L : Array Bool) (own : Nat → Prop) (w : World) (_FP : Nat → Prop) : Prop := ∃ S, Arrs W own w S ∧ S A9 = some f0 ∧ S A10 = some f1 ∧ S A11 = some f2 ∧ S A12 = some f3
set_option maxHeartbeats 16000000 in
theorem reg11 {W : World} {bs : Option Addr} {nj cap : Nat} {sm : Int} {A9 A10 A11 A12 n : Nat} {f0 f1 f2 f3 : Nat → Int} {k0 : Nat} {cs : List Frame} {k : List Item} {ops : Array Oper} (hops : c4.regOps 11 = some ops) (hn : n < 19) (hv : 0 ≤ f1 n ∧ f1 n ≤ 300 ∧ 0 ≤ f2 n ∧ f2 n ≤ 300) (hs : f0 n = f1 n + f2 n) :
    ∀ E N L l w env j, It W k0 [] (v11 bs nj cap A12 sm A9 A10 A11 n f0 f1 f2) bs11 (M11 W A9 A10 A11 f0 f1 f2 A12 f3) ops E L l w env → j < ops.size → Closed ops L → ¬ Up L j → (∀ o, ops[j]? = some o → ∀ e ∈ o.after, Region.binds .any e = true → Up L e.on) → ∀ rest, (∀ E2 N2 l' w' env', It W k0 [] (v11 bs nj cap A12 sm A9 A10 A11 n f0 f1 f2) bs11 (M11 W A9 A10 A11 f0 f1 f2 A12 f3) ops E2 (L.setIfInBounds j true) l' w' env' → Tk E2 N2 0 l' w' (base 4) 106 env' [] (.inRegion ops rest :: k) cs) → Tk E N 0 l w (base 4) 106 env [] (.inRegion ops (j :: rest) :: k) cs := by
  intro E N L l w env j ⟨p, own, S0, FP, hl, hf, hP, hfin, hsz, F, ho, m⟩ hj hcl hu hb rest hk'
  subst hl
  cases hops
  have hjn : j < 11 := hj
  have Wk : WkP Try.prog E (mainLo own) (base 4) := wk_main hf hP (by decide)
  obtain ⟨S, q1, q2, q3, q4, _⟩ := m
  have h0n : (0 + ((n : Int)).toNat) = n := by omega
  have hcases : j = 0 ∨ j = 1 ∨ j = 2 ∨ j = 3 ∨ j = 4 ∨ j = 5 ∨ j = 6 ∨ j = 7 ∨ j = 8 ∨ j = 9 ∨ j = 10 := by omega
  rcases hcases with rfl | rfl | rfl | rfl | rfl | rfl | rfl | rfl | rfl | rfl | rfl
  · refine Tk.pure Wk.wk (by rfl) (by rfl) (by rfl) (pure_move (x := .tmp 14) (.inl rfl) (F.base 14 rfl)) ?_
    exact hk' _ _ _ _ _ (It.kp (FP' := FP) (j := 0) (by rfl) hf hP hfin hsz ho (Kp.refl _ _) (F.step (j := 0) (d := 54) (by rfl) rfl rfl) ⟨S, q1, q2, q3, q4, ‹_›⟩)
  · refine Tk.pure Wk.wk (by rfl) (by rfl) (by rfl) (by rw [hP]; exact h0n ▸ pure_indexA (x := .tmp 9) (y := .tmp 54) (m := 19) (e := 3) (off := 0) (k := .i64) (j := (n : Int)) (by rfl) (by rfl) (by decide +kernel) (F.base 9 rfl) (F.get (j := 0) (d := 54) (by rfl) rfl (up_of hb (by rfl) 0 (by rfl))) (by omega)) ?_
    exact hk' _ _ _ _ _ (It.kp (FP' := FP) (j := 1) (by rfl) hf hP hfin hsz ho (Kp.refl _ _) (F.step (j := 1) (d := 55) (by rfl) rfl rfl) ⟨S, q1, q2, q3, q4, ‹_›⟩)
  · refine Tk.loadAt Wk (x := .tmp 55) (d := 56) hn (by rfl) (by rfl) (by rfl) (by rfl) (by rfl) (F.get (j := 1) (d := 55) (by rfl) rfl (up_of hb (by rfl) 1 (by rfl))) (q1 _ _ q2).1 (q1 _ _ q2).2.2 ?_
    exact hk' _ _ _ _ _ (It.kp (FP' := FP) (j := 2) (by rfl) hf hP hfin hsz ho (Kp.refl _ _) (F.put (j := 2) (d := 56) (by rfl) rfl) ⟨S, q1, q2, q3, q4, ‹_›⟩)
  · refine Tk.pure Wk.wk (by rfl) (by rfl) (by rfl) (pure_move (x := .tmp 14) (.inl rfl) (F.base 14 rfl)) ?_
    exact hk' _ _ _ _ _ (It.kp (FP' := FP) (j := 3) (by rfl) hf hP hfin hsz ho (Kp.refl _ _) (F.step (j := 3) (d := 57) (by rfl) rfl rfl) ⟨S, q1, q2, q3, q4, ‹_›⟩)
  · refine Tk.pure Wk.wk (by rfl) (by rfl) (by rfl) (by rw [hP]; exact h0n ▸ pure_indexA (x := .tmp 10) (y := .tmp 57) (m := 19) (e := 3) (off := 0) (k := .i64) (j := (n : Int)) (by rfl) (by rfl) (by decide +kernel) (F.base 10 rfl) (F.get (j := 3) (d := 57) (by rfl) rfl (up_of hb (by rfl) 3 (by rfl))) (by omega)) ?_
    exact hk' _ _ _ _ _ (It.kp (FP' := FP) (j := 4) (by rfl) hf hP hfin hsz ho (Kp.refl _ _) (F.step (j := 4) (d := 58) (by rfl) rfl rfl) ⟨S, q1, q2, q3, q4, ‹_›⟩)
  · refine Tk.loadAt Wk (x := .tmp 58) (d := 59) hn (by rfl) (by rfl) (by rfl) (by rfl) (by rfl) (F.get (j := 4) (d := 58) (by rfl) rfl (up_of hb (by rfl) 4 (by rfl))) (q1 _ _ q3).1 (q1 _ _ q3).2.2 ?_
    exact hk' _ _ _ _ _ (It.kp (FP' := FP) (j := 5) (by rfl) hf hP hfin hsz ho (Kp.refl _ _) (F.put (j := 5) (d := 59) (by rfl) rfl) ⟨S, q1, q2, q3, q4, ‹_›⟩)
  · refine Tk.pure Wk.wk (by rfl) (by rfl) (by rfl) (pure_move (x := .tmp 14) (.inl rfl) (F.base 14 rfl)) ?_
    exact hk' _ _ _ _ _ (It.kp (FP' := FP) (j := 6) (by rfl) hf hP hfin hsz ho (Kp.refl _ _) (F.step (j := 6) (d := 60) (by rfl) rfl rfl) ⟨S, q1, q2, q3, q4, ‹_›⟩)
  · refine Tk.pure Wk.wk (by rfl) (by rfl) (by rfl) (by rw [hP]; exact h0n ▸ pure_indexA (x := .tmp 11) (y := .tmp 60) (m := 19) (e := 3) (off := 0) (k := .i64) (j := (n : Int)) (by rfl) (by rfl) (by decide +kernel) (F.base 11 rfl) (F.get (j := 6) (d := 60) (by rfl) rfl (up_of hb (by rfl) 6 (by rfl))) (by omega)) ?_
    exact hk' _ _ _ _ _ (It.kp (FP' := FP) (j := 7) (by rfl) hf hP hfin hsz ho (Kp.refl _ _) (F.step (j := 7) (d := 61) (by rfl) rfl rfl) ⟨S, q1, q2, q3, q4, ‹_›⟩)
  · refine Tk.loadAt Wk (x := .tmp 61) (d := 62) hn (by rfl) (by rfl) (by rfl) (by rfl) (by rfl) (F.get (j := 7) (d := 61) (by rfl) rfl (up_of hb (by rfl) 7 (by rfl))) (q1 _ _ q4).1 (q1 _ _ q4).2.2 ?_
    exact hk' _ _ _ _ _ (It.kp (FP' := FP) (j := 8) (by rfl) hf hP hfin hsz ho (Kp.refl _ _) (F.put (j := 8) (d := 62) (by rfl) rfl) ⟨S, q1, q2, q3, q4, ‹_›⟩)
  · refine Tk.pure Wk.wk (by rfl) (by rfl) (by rfl) (pure_addE (x := .tmp 59) (y := .tmp 62) (r := f1 n + f2 n) rfl (F.get (j := 5) (d := 59) (by rfl) rfl (up_of hb (by rfl) 5 (by rfl))) (F.get (j := 8) (d := 62) (by rfl) rfl (up_of hb (by rfl) 8 (by rfl))) (by rw [IntKind.wrap_i64]; omega)) ?_
    exact hk' _ _ _ _ _ (It.kp (FP' := FP) (j := 9) (by rfl) hf hP hfin hsz ho (Kp.refl _ _) (F.step (j := 9) (d := 63) (by rfl) rfl rfl) ⟨S, q1, q2, q3, q4, ‹_›⟩)
  · refine Tk.pure Wk.wk (by rfl) (by rfl) (by rfl) (pure_int (op := .neq) (x := .tmp 56) (y := .tmp 63) rfl (F.get (j := 2) (d := 56) (by rfl) rfl (up_of hb (by rfl) 2 (by rfl))) (F.get (j := 9) (d := 63) (by rfl) rfl (up_of hb (by rfl) 9 (by rfl))) rfl) ?_
    exact hk' _ _ _ _ _ (It.kp (FP' := FP) (j := 10) (by rfl) hf hP hfin hsz ho (Kp.refl _ _) (F.step (j := 10) (d := 64) (by rfl) rfl (congrArg Value.bool (by rw [hs]; exact bne_self_eq_false _))) ⟨S, q1, q2, q3, q4, ‹_›⟩)
end Go.Co.F1

namespace Go.Co.F1
open Go Go.Conc Go.Proofs
open Go.Co
open Go.ConcN (upd upd_ne upd_same)
variable {E : Geo} {N i : Nat} {l : Lo} {w : World} {own own' : Nat → Prop} {w' : World} {FP FP' : Nat → Prop}
set_option maxRecDepth 10000
theorem end4 {W : World} {env : Nv} (hfin : E.fin = EndAt W) (ho : Old W own w) (g8 : env.get 8 = some (.bool true)) : TkR E N 0 (mainLo own) w (base 4) 106 env [] [] := by
  intro a todo ha hds
  obtain ⟨fn, f1, _, _, _, f5⟩ := b4.out
  refine Pro.Lv.fold ⟨⟨rfl, rfl, rfl⟩, .inl ⟨rfl, rfl, ?_⟩⟩
  show E.fin _ _ _
  rw [hfin]
  refine ⟨⟨own, rfl, ho⟩, fun w1 => ?_⟩
  have e : a.tmps.getD 8 undef = .bool true := by rw [Array.getD_eq_getD_getElem?, ha.2 8 _ g8]; rfl
  have hr : (results fn a.tmps).run Try.prog w1 = .ok (.bool true) w1 := by rw [results_tmp f5, e]
  have he := events_results_tmp (P := Try.prog) (w := w1) f5 a.tmps #[]
  simp [Conc.G, stepG, unwind, doReturn, Frame.at, base, hds, f1, hr, he, seen, GStep.after]
structure Fs (rr : Nat → Nat) (nj : Nat) (f0 f1 f2 f3 : Nat → Int) : Prop where
  b0 : ∀ r, 0 ≤ f0 r ∧ f0 r ≤ 300
  b1 : ∀ r, 0 ≤ f1 r ∧ f1 r ≤ 300
  b2 : ∀ r, 0 ≤ f2 r ∧ f2 r ≤ 300
  s : ∀ r, f0 r = f1 r + f2 r
  t : ∀ r, f3 r = f0 r
  z : f0 0 = 0
  sum : sumF f0 19 = (cR rr nj : Int)
theorem fs_mk {rr : Nat → Nat} {nj m : Nat} (hn : nj ≤ 300) (hm : m ≤ nj) : Fs rr nj (cnt (cN rr nj)) (cnt (cN rr m)) (cnt (cN (fun q => rr (m + q)) (nj - m))) (cnt (cN (rr2 rr m nj) nj)) := by
  refine ⟨fun r => ?_, fun r => ?_, fun r => ?_, fun r => ?_, fun r => ?_, ?_, ?_⟩
  · rw [cnt_cN]; exact cN_bd hn r
  · rw [cnt_cN]; exact cN_bd (by omega) r
  · rw [cnt_cN]; exact cN_bd (by omega) r
  · rw [cnt_cN, cnt_cN, cnt_cN]; exact cN_split hm
  · rw [cnt_cN, cnt_cN]; exact cN_turn hm
  · unfold cnt
    rw [if_neg (by decide)]
  · rw [sum_cN, sum_cR]
structure Q4 (W : World) (S0 A9 A10 A11 A12 : Nat) (f0 f1 f2 f3 : Nat → Int) (own : Nat → Prop) (w : World) : Prop where
  sz : S0 ≤ w.heap.size
  old : Old W own w
  ex : ∃ S, Arrs W own w S ∧ S A9 = some f0 ∧ S A10 = some f1 ∧ S A11 = some f2 ∧ S A12 = some f3
set_option maxHeartbeats 16000000 in
/-- CountsSame: its last region. -/
theorem same4e {W : World} {A9 A10 A11 A12 c : Nat} {f0 f1 f2 f3 : Nat → Int} {S0 : Nat} (hf : E.FinV) (hP : E.P = Try.prog) (hfin : E.fin = Fins W 1 S0) (q : Q4 W S0 A9 A10 A11 A12 f0 f1 f2 f3 own w) (ht : ∀ r, f3 r = f0 r) (hz : f0 0 = 0) :
    Tk E N 0 (mainLo own) w (base 4) 106 [(9, ptr A9 0), (12, ptr A12 0), (13, .int .i64 c), (15, .int .i64 c)] [] [.code (skipSeq 10 c4)] [] := by
  have Wl : ∀ own', WkP Try.prog E (mainLo own') (base 4) := fun own' => wk_main hf hP (by decide)
  obtain ⟨S, h1, h2, _, _, h5⟩ := q.ex
  obtain ⟨a1, _, a3⟩ := h1 _ _ h2
  obtain ⟨b1, _, b3⟩ := h1 _ _ h5
  have e1 : intV .eql .i64 (c : Int) (c : Int) = some (.bool true) := by simp only [intV, beq_self_eq_true]
  have e2 : intV .eql .i64 (f0 0) 0 = some (.bool true) := by rw [hz]; rfl
  refine Tk.seq (Wl own).wk ?_
  refine Tk.reg (Wl own) ?_
  refine TkO.pureS (Wl own) (by rfl) (by rfl) (by rfl) (by rfl) (by (first | exact pure_move (.inl rfl) rfl | exact pure_move (.inr rfl) rfl | exact pure_nilCheck rfl rfl | exact pure_field rfl rfl (by rfl) rfl (by decide +kernel) | exact pure_int rfl rfl rfl rfl | exact pure_not rfl rfl | exact pure_pickT rfl rfl rfl | exact pure_pickF rfl rfl rfl | exact pure_shift rfl rfl rfl rfl | exact pure_eqlNil rfl rfl rfl (by rfl) | exact pure_conv rfl rfl (by rfl) (by rfl))) ?_
  refine TkO.pureS (Wl own) (by rfl) (by rfl) (by rfl) (by rfl) (by (first | exact pure_move (.inl rfl) rfl | exact pure_move (.inr rfl) rfl | exact pure_nilCheck rfl rfl | exact pure_field rfl rfl (by rfl) rfl (by decide +kernel) | exact pure_int rfl rfl rfl rfl | exact pure_not rfl rfl | exact pure_pickT rfl rfl rfl | exact pure_pickF rfl rfl rfl | exact pure_shift rfl rfl rfl rfl | exact pure_eqlNil rfl rfl rfl (by rfl) | exact pure_conv rfl rfl (by rfl) (by rfl))) ?_
  refine TkO.pureS (Wl own) (by rfl) (by rfl) (by rfl) (by rfl) (by exact pure_int rfl rfl rfl e1) ?_
  refine TkO.pureS (Wl own) (by rfl) (by rfl) (by rfl) (by rfl) (by (first | exact pure_move (.inl rfl) rfl | exact pure_move (.inr rfl) rfl | exact pure_nilCheck rfl rfl | exact pure_field rfl rfl (by rfl) rfl (by decide +kernel) | exact pure_int rfl rfl rfl rfl | exact pure_not rfl rfl | exact pure_pickT rfl rfl rfl | exact pure_pickF rfl rfl rfl | exact pure_shift rfl rfl rfl rfl | exact pure_eqlNil rfl rfl rfl (by rfl) | exact pure_conv rfl rfl (by rfl) (by rfl))) ?_
  refine TkO.open (by rfl) (Tk.oloadA (Wl own).wk rfl (x := .tmp 12) (g := A12) (d := 94) (by rfl) (by rfl) (by rfl) (by rfl) (by rfl) (by rw [hP]; rfl) (by rw [hP, arrV_size]; rfl) (by rfl) b1 b3 ?_)
  show TkO _ _ _ _ _ _ _ _ _ _ 5 _ _
  refine TkO.open (by rfl) (Tk.oloadA (Wl own).wk rfl (x := .tmp 9) (g := A9) (d := 95) (by rfl) (by rfl) (by rfl) (by rfl) (by rfl) (by rw [hP]; rfl) (by rw [hP, arrV_size]; rfl) (by rfl) a1 a3 ?_)
  show TkO _ _ _ _ _ _ _ _ _ _ 6 _ _
  refine TkO.pureS (Wl own) (by rfl) (by rfl) (by rfl) (by rfl) (pure_eqArrT (m := 19) (e := 3) (f := f3) (g := f0) (by rfl) (by rfl) (by rfl) (by rfl) (by rfl) (by decide +kernel) (by decide +kernel) fun r _ => ht r) ?_
  refine TkO.pureS (Wl own) (by rfl) (by rfl) (by rfl) (by rfl) (by (first | exact pure_move (.inl rfl) rfl | exact pure_move (.inr rfl) rfl | exact pure_nilCheck rfl rfl | exact pure_field rfl rfl (by rfl) rfl (by decide +kernel) | exact pure_int rfl rfl rfl rfl | exact pure_not rfl rfl | exact pure_pickT rfl rfl rfl | exact pure_pickF rfl rfl rfl | exact pure_shift rfl rfl rfl rfl | exact pure_eqlNil rfl rfl rfl (by rfl) | exact pure_conv rfl rfl (by rfl) (by rfl))) ?_
  refine TkO.pureS (Wl own) (by rfl) (by rfl) (by rfl) (by rfl) (by (first | exact pure_move (.inl rfl) rfl | exact pure_move (.inr rfl) rfl | exact pure_nilCheck rfl rfl | exact pure_field rfl rfl (by rfl) rfl (by decide +kernel) | exact pure_int rfl rfl rfl rfl | exact pure_not rfl rfl | exact pure_pickT rfl rfl rfl | exact pure_pickF rfl rfl rfl | exact pure_shift rfl rfl rfl rfl | exact pure_eqlNil rfl rfl rfl (by rfl) | exact pure_conv rfl rfl (by rfl) (by rfl))) ?_
  refine TkO.pureS (Wl own) (by rfl) (by rfl) (by rfl) (by rfl) (pure_indexA (m := 19) (e := 3) (b := A9) (off := 0) (k := .i64) (j := 0) (by rfl) (by rfl) (by decide +kernel) (by rfl) (by rfl) (by decide)) ?_
  refine TkO.loadAt (Wl own) (A := A9) (m := 0) (by decide) (by rfl) (by rfl) (by rfl) (by rfl) (by rfl) (by rfl) a1 a3 ?_
  refine TkO.pureS (Wl own) (by rfl) (by rfl) (by rfl) (by rfl) (by exact pure_int rfl rfl rfl e2) ?_
  refine TkO.pureS (Wl own) (by rfl) (by rfl) (by rfl) (by rfl) (by (first | exact pure_move (.inl rfl) rfl | exact pure_move (.inr rfl) rfl | exact pure_nilCheck rfl rfl | exact pure_field rfl rfl (by rfl) rfl (by decide +kernel) | exact pure_int rfl rfl rfl rfl | exact pure_not rfl rfl | exact pure_pickT rfl rfl rfl | exact pure_pickF rfl rfl rfl | exact pure_shift rfl rfl rfl rfl | exact pure_eqlNil rfl rfl rfl (by rfl) | exact pure_conv rfl rfl (by rfl) (by rfl))) ?_
  refine TkO.pureS (Wl own) (by rfl) (by rfl) (by rfl) (by rfl) (by (first | exact pure_move (.inl rfl) rfl | exact pure_move (.inr rfl) rfl | exact pure_nilCheck rfl rfl | exact pure_field rfl rfl (by rfl) rfl (by decide +kernel) | exact pure_int rfl rfl rfl rfl | exact pure_not rfl rfl | exact pure_pickT rfl rfl rfl | exact pure_pickF rfl rfl rfl | exact pure_shift rfl rfl rfl rfl | exact pure_eqlNil rfl rfl rfl (by rfl) | exact pure_conv rfl rfl (by rfl) (by rfl))) ?_
  refine TkO.callE (Wl _) (by rfl) (by rfl) (by rfl) (by rfl) (by rfl) b6 rfl fun fr7 hk7 => ?_
  refine wakes6 hf hP hfin q.sz q.old fun E2 N2 own4 w4 _ f4 P4 fin4 _ o4 => hk7 E2 N2 _ _ _ ?_
  have W4 : WkP Try.prog E2 (mainLo own4) (base 4) := wk_main f4 P4 (by decide)
  (repeat (first | refine TkO.done W4 (by rfl) ?_ | refine TkO.unwantedS W4 (by rfl) (by rfl) (by rfl) (by rfl) ?_ | refine TkO.pureS W4 (by rfl) (by rfl) (by rfl) (by rfl) (by first | exact pure_move (.inl rfl) rfl | exact pure_move (.inr rfl) rfl | exact pure_nilCheck rfl rfl | exact pure_field rfl rfl (by rfl) rfl (by decide +kernel) | exact pure_int rfl rfl rfl rfl | exact pure_not rfl rfl | exact pure_pickT rfl rfl rfl | exact pure_pickF rfl rfl rfl | exact pure_shift rfl rfl rfl rfl | exact pure_eqlNil rfl rfl rfl (by rfl) | exact pure_conv rfl rfl (by rfl) (by rfl)) ?_ | refine Tk.seq (WkP.wk W4) ?_ | refine Tk.reg W4 ?_ | refine Tk.skip (WkP.wk W4) ?_ | refine Tk.block (WkP.wk W4) ?_ | refine Tk.condT (WkP.wk W4) rfl ?_ | refine Tk.condF (WkP.wk W4) rfl ?_ | refine Tk.exit (WkP.wk W4) rfl ?_ | refine Tk.label (WkP.wk W4) ?_))
  exact Tk.ret W4.wk (end4 fin4 o4 rfl)
set_option maxHeartbeats 16000000 in
/-- CountsSame: the reasons are counted. -/
theorem same4d {W : World} {bs : Option Addr} {nj cap m A9 A10 A11 A12 : Nat} {rr : Nat → Nat} {f0 f1 f2 f3 : Nat → Int} {S0 : Nat} (hf : E.FinV) (hP : E.P = Try.prog) (hfin : E.fin = Fins W 1 S0) (q : Q4 W S0 A9 A10 A11 A12 f0 f1 f2 f3 own w) (ar : Ar4 W bs nj cap m rr) (ht : ∀ r, f3 r = f0 r) (hz : f0 0 = 0) :
    Tk E N 0 (mainLo own) w (base 4) 106 [(0, .slice bs nj cap), (9, ptr A9 0), (12, ptr A12 0), (13, .int .i64 (cR rr nj : Int))] [] [.code (skipSeq 8 c4)] [] := by
  have W1 : WkP Try.prog E (mainLo own) (base 4) := wk_main hf hP (by decide)
  have sl := ar.sl q.old
  have hnj := ar.hnj
  obtain ⟨c, hc⟩ : ∃ c, c = cR rr nj := ⟨_, rfl⟩
  rw [← hc]
  (repeat (first | refine TkO.done W1 (by rfl) ?_ | refine TkO.unwantedS W1 (by rfl) (by rfl) (by rfl) (by rfl) ?_ | refine TkO.pureS W1 (by rfl) (by rfl) (by rfl) (by rfl) (by first | exact pure_move (.inl rfl) rfl | exact pure_move (.inr rfl) rfl | exact pure_nilCheck rfl rfl | exact pure_field rfl rfl (by rfl) rfl (by decide +kernel) | exact pure_int rfl rfl rfl rfl | exact pure_not rfl rfl | exact pure_pickT rfl rfl rfl | exact pure_pickF rfl rfl rfl | exact pure_shift rfl rfl rfl rfl | exact pure_eqlNil rfl rfl rfl (by rfl) | exact pure_conv rfl rfl (by rfl) (by rfl)) ?_ | refine Tk.seq (WkP.wk W1) ?_ | refine Tk.reg W1 ?_ | refine Tk.skip (WkP.wk W1) ?_ | refine Tk.block (WkP.wk W1) ?_ | refine Tk.condT (WkP.wk W1) rfl ?_ | refine Tk.condF (WkP.wk W1) rfl ?_ | refine Tk.exit (WkP.wk W1) rfl ?_ | refine Tk.label (WkP.wk W1) ?_))
  refine Tk.loop W1.wk ?_
  refine Tk.cut fun KK hKK => ?_
  have HH : ∀ (k n : Nat), n + k = nj → Tk E N 0 (mainLo own) w (base 4) 106 [(0, .slice bs nj cap), (9, ptr A9 0), (12, ptr A12 0), (13, .int .i64 c), (15, .int .i64 (cR rr n : Int)), (16, .int .i64 n)] [] KK [] := by
    intro k
    induction k with
    | zero =>
      intro n hn
      have hn : n = nj := by omega
      subst hn
      rw [hKK]
      refine Tk.seq W1.wk ?_
      refine Tk.seq W1.wk ?_
      refine Tk.reg W1 ?_
      refine TkO.pureS W1 (by rfl) (by rfl) (by rfl) (by rfl) (by (first | exact pure_move (.inl rfl) rfl | exact pure_move (.inr rfl) rfl | exact pure_nilCheck rfl rfl | exact pure_field rfl rfl (by rfl) rfl (by decide +kernel) | exact pure_int rfl rfl rfl rfl | exact pure_not rfl rfl | exact pure_pickT rfl rfl rfl | exact pure_pickF rfl rfl rfl | exact pure_shift rfl rfl rfl rfl | exact pure_eqlNil rfl rfl rfl (by rfl) | exact pure_conv rfl rfl (by rfl) (by rfl))) ?_
      refine TkO.pureS W1 (by rfl) (by rfl) (by rfl) (by rfl) (by (first | exact pure_move (.inl rfl) rfl | exact pure_move (.inr rfl) rfl | exact pure_nilCheck rfl rfl | exact pure_field rfl rfl (by rfl) rfl (by decide +kernel) | exact pure_int rfl rfl rfl rfl | exact pure_not rfl rfl | exact pure_pickT rfl rfl rfl | exact pure_pickF rfl rfl rfl | exact pure_shift rfl rfl rfl rfl | exact pure_eqlNil rfl rfl rfl (by rfl) | exact pure_conv rfl rfl (by rfl) (by rfl))) ?_
      refine TkO.pureS W1 (by rfl) (by rfl) (by rfl) (by rfl) (pure_len rfl rfl (by rfl)) ?_
      refine TkO.pureS W1 (by rfl) (by rfl) (by rfl) (by rfl) (by (first | exact pure_move (.inl rfl) rfl | exact pure_move (.inr rfl) rfl | exact pure_nilCheck rfl rfl | exact pure_field rfl rfl (by rfl) rfl (by decide +kernel) | exact pure_int rfl rfl rfl rfl | exact pure_not rfl rfl | exact pure_pickT rfl rfl rfl | exact pure_pickF rfl rfl rfl | exact pure_shift rfl rfl rfl rfl | exact pure_eqlNil rfl rfl rfl (by rfl) | exact pure_conv rfl rfl (by rfl) (by rfl))) ?_
      refine TkO.done W1 (by rfl) ?_
      refine Tk.condF W1.wk (congrArg (fun b => some (Value.bool b)) (decide_eq_false (show ¬ (n : Int) < (n : Int) by omega))) ?_
      refine Tk.exit W1.wk rfl ?_
      rw [← hc]
      exact Tk.sub (same4e hf hP hfin q ht hz) (AllGet.sub ⟨rfl, rfl, rfl, rfl, trivial⟩)
    | succ k ihk =>
      intro n hn
      have hlt : n < nj := by omega
      have hle := cR_le rr n
      rw [hKK]
      refine Tk.seq W1.wk ?_
      refine Tk.seq W1.wk ?_
      refine Tk.reg W1 ?_
      refine TkO.pureS W1 (by rfl) (by rfl) (by rfl) (by rfl) (by (first | exact pure_move (.inl rfl) rfl | exact pure_move (.inr rfl) rfl | exact pure_nilCheck rfl rfl | exact pure_field rfl rfl (by rfl) rfl (by decide +kernel) | exact pure_int rfl rfl rfl rfl | exact pure_not rfl rfl | exact pure_pickT rfl rfl rfl | exact pure_pickF rfl rfl rfl | exact pure_shift rfl rfl rfl rfl | exact pure_eqlNil rfl rfl rfl (by rfl) | exact pure_conv rfl rfl (by rfl) (by rfl))) ?_
      refine TkO.pureS W1 (by rfl) (by rfl) (by rfl) (by rfl) (by (first | exact pure_move (.inl rfl) rfl | exact pure_move (.inr rfl) rfl | exact pure_nilCheck rfl rfl | exact pure_field rfl rfl (by rfl) rfl (by decide +kernel) | exact pure_int rfl rfl rfl rfl | exact pure_not rfl rfl | exact pure_pickT rfl rfl rfl | exact pure_pickF rfl rfl rfl | exact pure_shift rfl rfl rfl rfl | exact pure_eqlNil rfl rfl rfl (by rfl) | exact pure_conv rfl rfl (by rfl) (by rfl))) ?_
      refine TkO.pureS W1 (by rfl) (by rfl) (by rfl) (by rfl) (pure_len rfl rfl (by rfl)) ?_
      refine TkO.pureS W1 (by rfl) (by rfl) (by rfl) (by rfl) (by (first | exact pure_move (.inl rfl) rfl | exact pure_move (.inr rfl) rfl | exact pure_nilCheck rfl rfl | exact pure_field rfl rfl (by rfl) rfl (by decide +kernel) | exact pure_int rfl rfl rfl rfl | exact pure_not rfl rfl | exact pure_pickT rfl rfl rfl | exact pure_pickF rfl rfl rfl | exact pure_shift rfl rfl rfl rfl | exact pure_eqlNil rfl rfl rfl (by rfl) | exact pure_conv rfl rfl (by rfl) (by rfl))) ?_
      refine TkO.done W1 (by rfl) ?_
      refine Tk.condT W1.wk (congrArg (fun b => some (Value.bool b)) (decide_eq_true (show (n : Int) < (nj : Int) by omega))) ?_
      refine Tk.skip W1.wk ?_
      refine Tk.seq W1.wk ?_
      refine Tk.block W1.wk ?_
      refine Tk.seq W1.wk ?_
      refine Tk.reg W1 ?_
      refine TkO.pureS W1 (by rfl) (by rfl) (by rfl) (by rfl) (by (first | exact pure_move (.inl rfl) rfl | exact pure_move (.inr rfl) rfl | exact pure_nilCheck rfl rfl | exact pure_field rfl rfl (by rfl) rfl (by decide +kernel) | exact pure_int rfl rfl rfl rfl | exact pure_not rfl rfl | exact pure_pickT rfl rfl rfl | exact pure_pickF rfl rfl rfl | exact pure_shift rfl rfl rfl rfl | exact pure_eqlNil rfl rfl rfl (by rfl) | exact pure_conv rfl rfl (by rfl) (by rfl))) ?_
      refine TkO.pureS W1 (by rfl) (by rfl) (by rfl) (by rfl) (by (first | exact pure_move (.inl rfl) rfl | exact pure_move (.inr rfl) rfl | exact pure_nilCheck rfl rfl | exact pure_field rfl rfl (by rfl) rfl (by decide +kernel) | exact pure_int rfl rfl rfl rfl | exact pure_not rfl rfl | exact pure_pickT rfl rfl rfl | exact pure_pickF rfl rfl rfl | exact pure_shift rfl rfl rfl rfl | exact pure_eqlNil rfl rfl rfl (by rfl) | exact pure_conv rfl rfl (by rfl) (by rfl))) ?_
      refine TkO.pureS W1 (by rfl) (by rfl) (by rfl) (by rfl) (pure_indexS sl hlt rfl (by rfl) (by decide +kernel) rfl rfl) ?_
      refine TkO.loadR W1 sl hlt (by rfl) (by rfl) (by rfl) (by rfl) (by rfl) (by rfl) (fun a e => by rw [e]; rfl) ?_
      obtain ⟨c0, hc0⟩ : ∃ c0, c0 = cR rr n := ⟨_, rfl⟩
      have hc1 : cR rr (n + 1) = c0 + (if isR (rr n) = true then 1 else 0) := by rw [hc0]; rfl
      rw [← hc0] at hle ⊢
      obtain ⟨r, hr⟩ : ∃ r, r = rr n := ⟨_, rfl⟩
      rw [← hr] at hc1 ⊢
      have ih := ihk (n + 1) (by omega)
      rw [hc1] at ih
      rcases (show r = 0 ∨ (0 < r ∧ r < 19) ∨ 19 ≤ r by omega) with hx | hx | hx
      · have e1 : intV .gtr .u8 (r : Int) 0 = some (.bool false) := by simp only [intV]; rw [decide_eq_false (show ¬ (r : Int) > 0 by omega)]
        rw [if_neg (by unfold isR; simp only [decide_eq_true_eq]; omega), Nat.add_zero] at ih
        refine TkO.pureS W1 (by rfl) (by rfl) (by rfl) (by rfl) (by exact pure_int rfl rfl rfl e1) ?_
        (repeat (first | refine TkO.done W1 (by rfl) ?_ | refine TkO.unwantedS W1 (by rfl) (by rfl) (by rfl) (by rfl) ?_ | refine TkO.pureS W1 (by rfl) (by rfl) (by rfl) (by rfl) (by first | exact pure_move (.inl rfl) rfl | exact pure_move (.inr rfl) rfl | exact pure_nilCheck rfl rfl | exact pure_field rfl rfl (by rfl) rfl (by decide +kernel) | exact pure_int rfl rfl rfl rfl | exact pure_not rfl rfl | exact pure_pickT rfl rfl rfl | exact pure_pickF rfl rfl rfl | exact pure_shift rfl rfl rfl rfl | exact pure_eqlNil rfl rfl rfl (by rfl) | exact pure_conv rfl rfl (by rfl) (by rfl)) ?_ | refine Tk.seq (WkP.wk W1) ?_ | refine Tk.reg W1 ?_ | refine Tk.skip (WkP.wk W1) ?_ | refine Tk.block (WkP.wk W1) ?_ | refine Tk.condT (WkP.wk W1) rfl ?_ | refine Tk.condF (WkP.wk W1) rfl ?_ | refine Tk.exit (WkP.wk W1) rfl ?_ | refine Tk.label (WkP.wk W1) ?_))
        refine Tk.inBlock W1.wk ?_
        repeat (first
          | refine TkO.pureS W1 (by rfl) (by rfl) (by rfl) (by rfl) (by exact pure_addE rfl rfl rfl (wrap64 (n := n) (by omega))) ?_
          | refine TkO.done W1 (by rfl) ?_ | refine TkO.unwantedS W1 (by rfl) (by rfl) (by rfl) (by rfl) ?_ | refine TkO.pureS W1 (by rfl) (by rfl) (by rfl) (by rfl) (by first | exact pure_move (.inl rfl) rfl | exact pure_move (.inr rfl) rfl | exact pure_nilCheck rfl rfl | exact pure_field rfl rfl (by rfl) rfl (by decide +kernel) | exact pure_int rfl rfl rfl rfl | exact pure_not rfl rfl | exact pure_pickT rfl rfl rfl | exact pure_pickF rfl rfl rfl | exact pure_shift rfl rfl rfl rfl | exact pure_eqlNil rfl rfl rfl (by rfl) | exact pure_conv rfl rfl (by rfl) (by rfl)) ?_ | refine Tk.seq (WkP.wk W1) ?_ | refine Tk.reg W1 ?_ | refine Tk.skip (WkP.wk W1) ?_ | refine Tk.block (WkP.wk W1) ?_ | refine Tk.condT (WkP.wk W1) rfl ?_ | refine Tk.condF (WkP.wk W1) rfl ?_ | refine Tk.exit (WkP.wk W1) rfl ?_ | refine Tk.label (WkP.wk W1) ?_)
        refine Tk.inLoop W1.wk ?_
        rw [← hKK]
        exact Tk.sub ih (AllGet.sub ⟨rfl, rfl, rfl, rfl, rfl, rfl, trivial⟩)
      · have e1 : intV .gtr .u8 (r : Int) 0 = some (.bool true) := by simp only [intV]; rw [decide_eq_true (show (r : Int) > 0 by omega)]
        have e2 : intV .lss .u8 (r : Int) 19 = some (.bool true) := by simp only [intV]; rw [decide_eq_true (show (r : Int) < 19 by omega)]
        rw [if_pos (by unfold isR; exact decide_eq_true hx)] at ih
        refine TkO.pureS W1 (by rfl) (by rfl) (by rfl) (by rfl) (by exact pure_int rfl rfl rfl e1) ?_
        refine TkO.pureS W1 (by rfl) (by rfl) (by rfl) (by rfl) (by (first | exact pure_move (.inl rfl) rfl | exact pure_move (.inr rfl) rfl | exact pure_nilCheck rfl rfl | exact pure_field rfl rfl (by rfl) rfl (by decide +kernel) | exact pure_int rfl rfl rfl rfl | exact pure_not rfl rfl | exact pure_pickT rfl rfl rfl | exact pure_pickF rfl rfl rfl | exact pure_shift rfl rfl rfl rfl | exact pure_eqlNil rfl rfl rfl (by rfl) | exact pure_conv rfl rfl (by rfl) (by rfl))) ?_
        refine TkO.pureS W1 (by rfl) (by rfl) (by rfl) (by rfl) (by (first | exact pure_move (.inl rfl) rfl | exact pure_move (.inr rfl) rfl | exact pure_nilCheck rfl rfl | exact pure_field rfl rfl (by rfl) rfl (by decide +kernel) | exact pure_int rfl rfl rfl rfl | exact pure_not rfl rfl | exact pure_pickT rfl rfl rfl | exact pure_pickF rfl rfl rfl | exact pure_shift rfl rfl rfl rfl | exact pure_eqlNil rfl rfl rfl (by rfl) | exact pure_conv rfl rfl (by rfl) (by rfl))) ?_
        refine TkO.pureS W1 (by rfl) (by rfl) (by rfl) (by rfl) (by (first | exact pure_move (.inl rfl) rfl | exact pure_move (.inr rfl) rfl | exact pure_nilCheck rfl rfl | exact pure_field rfl rfl (by rfl) rfl (by decide +kernel) | exact pure_int rfl rfl rfl rfl | exact pure_not rfl rfl | exact pure_pickT rfl rfl rfl | exact pure_pickF rfl rfl rfl | exact pure_shift rfl rfl rfl rfl | exact pure_eqlNil rfl rfl rfl (by rfl) | exact pure_conv rfl rfl (by rfl) (by rfl))) ?_
        refine TkO.pureS W1 (by rfl) (by rfl) (by rfl) (by rfl) (pure_indexS sl hlt rfl (by rfl) (by decide +kernel) rfl rfl) ?_
        refine TkO.loadR W1 sl hlt (by rfl) (by rfl) (by rfl) (by rfl) (by rfl) (by rfl) (fun a e => by rw [e]; rfl) ?_
        rw [← hr]
        refine TkO.pureS W1 (by rfl) (by rfl) (by rfl) (by rfl) (by exact pure_int rfl rfl rfl e2) ?_
        refine TkO.pureS W1 (by rfl) (by rfl) (by rfl) (by rfl) (by (first | exact pure_move (.inl rfl) rfl | exact pure_move (.inr rfl) rfl | exact pure_nilCheck rfl rfl | exact pure_field rfl rfl (by rfl) rfl (by decide +kernel) | exact pure_int rfl rfl rfl rfl | exact pure_not rfl rfl | exact pure_pickT rfl rfl rfl | exact pure_pickF rfl rfl rfl | exact pure_shift rfl rfl rfl rfl | exact pure_eqlNil rfl rfl rfl (by rfl) | exact pure_conv rfl rfl (by rfl) (by rfl))) ?_
        refine TkO.done W1 (by rfl) ?_
        refine Tk.condT W1.wk rfl ?_
        refine Tk.reg W1 ?_
        refine TkO.pureS W1 (by rfl) (by rfl) (by rfl) (by rfl) (by (first | exact pure_move (.inl rfl) rfl | exact pure_move (.inr rfl) rfl | exact pure_nilCheck rfl rfl | exact pure_field rfl rfl (by rfl) rfl (by decide +kernel) | exact pure_int rfl rfl rfl rfl | exact pure_not rfl rfl | exact pure_pickT rfl rfl rfl | exact pure_pickF rfl rfl rfl | exact pure_shift rfl rfl rfl rfl | exact pure_eqlNil rfl rfl rfl (by rfl) | exact pure_conv rfl rfl (by rfl) (by rfl))) ?_
        refine TkO.pureS W1 (by rfl) (by rfl) (by rfl) (by rfl) (by exact pure_addE rfl rfl rfl (wrap64 (n := c0) (by omega))) ?_
        (repeat (first | refine TkO.done W1 (by rfl) ?_ | refine TkO.unwantedS W1 (by rfl) (by rfl) (by rfl) (by rfl) ?_ | refine TkO.pureS W1 (by rfl) (by rfl) (by rfl) (by rfl) (by first | exact pure_move (.inl rfl) rfl | exact pure_move (.inr rfl) rfl | exact pure_nilCheck rfl rfl | exact pure_field rfl rfl (by rfl) rfl (by decide +kernel) | exact pure_int rfl rfl rfl rfl | exact pure_not rfl rfl | exact pure_pickT rfl rfl rfl | exact pure_pickF rfl rfl rfl | exact pure_shift rfl rfl rfl rfl | exact pure_eqlNil rfl rfl rfl (by rfl) | exact pure_conv rfl rfl (by rfl) (by rfl)) ?_ | refine Tk.seq (WkP.wk W1) ?_ | refine Tk.reg W1 ?_ | refine Tk.skip (WkP.wk W1) ?_ | refine Tk.block (WkP.wk W1) ?_ | refine Tk.condT (WkP.wk W1) rfl ?_ | refine Tk.condF (WkP.wk W1) rfl ?_ | refine Tk.exit (WkP.wk W1) rfl ?_ | refine Tk.label (WkP.wk W1) ?_))
        refine Tk.inBlock W1.wk ?_
        repeat (first
          | refine TkO.pureS W1 (by rfl) (by rfl) (by rfl) (by rfl) (by exact pure_addE rfl rfl rfl (wrap64 (n := n) (by omega))) ?_
          | refine TkO.done W1 (by rfl) ?_ | refine TkO.unwantedS W1 (by rfl) (by rfl) (by rfl) (by rfl) ?_ | refine TkO.pureS W1 (by rfl) (by rfl) (by rfl) (by rfl) (by first | exact pure_move (.inl rfl) rfl | exact pure_move (.inr rfl) rfl | exact pure_nilCheck rfl rfl | exact pure_field rfl rfl (by rfl) rfl (by decide +kernel) | exact pure_int rfl rfl rfl rfl | exact pure_not rfl rfl | exact pure_pickT rfl rfl rfl | exact pure_pickF rfl rfl rfl | exact pure_shift rfl rfl rfl rfl | exact pure_eqlNil rfl rfl rfl (by rfl) | exact pure_conv rfl rfl (by rfl) (by rfl)) ?_ | refine Tk.seq (WkP.wk W1) ?_ | refine Tk.reg W1 ?_ | refine Tk.skip (WkP.wk W1) ?_ | refine Tk.block (WkP.wk W1) ?_ | refine Tk.condT (WkP.wk W1) rfl ?_ | refine Tk.condF (WkP.wk W1) rfl ?_ | refine Tk.exit (WkP.wk W1) rfl ?_ | refine Tk.label (WkP.wk W1) ?_)
        refine Tk.inLoop W1.wk ?_
        rw [← hKK]
        exact Tk.sub ih (AllGet.sub ⟨rfl, rfl, rfl, rfl, rfl, rfl, trivial⟩)
      · have e1 : intV .gtr .u8 (r : Int) 0 = some (.bool true) := by simp only [intV]; rw [decide_eq_true (show (r : Int) > 0 by omega)]
        have e2 : intV .lss .u8 (r : Int) 19 = some (.bool false) := by simp only [intV]; rw [decide_eq_false (show ¬ (r : Int) < 19 by omega)]
        rw [if_neg (by unfold isR; simp only [decide_eq_true_eq]; omega), Nat.add_zero] at ih
        refine TkO.pureS W1 (by rfl) (by rfl) (by rfl) (by rfl) (by exact pure_int rfl rfl rfl e1) ?_
        refine TkO.pureS W1 (by rfl) (by rfl) (by rfl) (by rfl) (by (first | exact pure_move (.inl rfl) rfl | exact pure_move (.inr rfl) rfl | exact pure_nilCheck rfl rfl | exact pure_field rfl rfl (by rfl) rfl (by decide +kernel) | exact pure_int rfl rfl rfl rfl | exact pure_not rfl rfl | exact pure_pickT rfl rfl rfl | exact pure_pickF rfl rfl rfl | exact pure_shift rfl rfl rfl rfl | exact pure_eqlNil rfl rfl rfl (by rfl) | exact pure_conv rfl rfl (by rfl) (by rfl))) ?_
        refine TkO.pureS W1 (by rfl) (by rfl) (by rfl) (by rfl) (by (first | exact pure_move (.inl rfl) rfl | exact pure_move (.inr rfl) rfl | exact pure_nilCheck rfl rfl | exact pure_field rfl rfl (by rfl) rfl (by decide +kernel) | exact pure_int rfl rfl rfl rfl | exact pure_not rfl rfl | exact pure_pickT rfl rfl rfl | exact pure_pickF rfl rfl rfl | exact pure_shift rfl rfl rfl rfl | exact pure_eqlNil rfl rfl rfl (by rfl) | exact pure_conv rfl rfl (by rfl) (by rfl))) ?_
        refine TkO.pureS W1 (by rfl) (by rfl) (by rfl) (by rfl) (by (first | exact pure_move (.inl rfl) rfl | exact pure_move (.inr rfl) rfl | exact pure_nilCheck rfl rfl | exact pure_field rfl rfl (by rfl) rfl (by decide +kernel) | exact pure_int rfl rfl rfl rfl | exact pure_not rfl rfl | exact pure_pickT rfl rfl rfl | exact pure_pickF rfl rfl rfl | exact pure_shift rfl rfl rfl rfl | exact pure_eqlNil rfl rfl rfl (by rfl) | exact pure_conv rfl rfl (by rfl) (by rfl))) ?_
        refine TkO.pureS W1 (by rfl) (by rfl) (by rfl) (by rfl) (pure_indexS sl hlt rfl (by rfl) (by decide +kernel) rfl rfl) ?_
        refine TkO.loadR W1 sl hlt (by rfl) (by rfl) (by rfl) (by rfl) (by rfl) (by rfl) (fun a e => by rw [e]; rfl) ?_
        rw [← hr]
        refine TkO.pureS W1 (by rfl) (by rfl) (by rfl) (by rfl) (by exact pure_int rfl rfl rfl e2) ?_
        refine TkO.pureS W1 (by rfl) (by rfl) (by rfl) (by rfl) (by (first | exact pure_move (.inl rfl) rfl | exact pure_move (.inr rfl) rfl | exact pure_nilCheck rfl rfl | exact pure_field rfl rfl (by rfl) rfl (by decide +kernel) | exact pure_int rfl rfl rfl rfl | exact pure_not rfl rfl | exact pure_pickT rfl rfl rfl | exact pure_pickF rfl rfl rfl | exact pure_shift rfl rfl rfl rfl | exact pure_eqlNil rfl rfl rfl (by rfl) | exact pure_conv rfl rfl (by rfl) (by rfl))) ?_
        refine TkO.done W1 (by rfl) ?_
        refine Tk.condF W1.wk rfl ?_
        refine Tk.skip W1.wk ?_
        refine Tk.inBlock W1.wk ?_
        repeat (first
          | refine TkO.pureS W1 (by rfl) (by rfl) (by rfl) (by rfl) (by exact pure_addE rfl rfl rfl (wrap64 (n := n) (by omega))) ?_
          | refine TkO.done W1 (by rfl) ?_ | refine TkO.unwantedS W1 (by rfl) (by rfl) (by rfl) (by rfl) ?_ | refine TkO.pureS W1 (by rfl) (by rfl) (by rfl) (by rfl) (by first | exact pure_move (.inl rfl) rfl | exact pure_move (.inr rfl) rfl | exact pure_nilCheck rfl rfl | exact pure_field rfl rfl (by rfl) rfl (by decide +kernel) | exact pure_int rfl rfl rfl rfl | exact pure_not rfl rfl | exact pure_pickT rfl rfl rfl | exact pure_pickF rfl rfl rfl | exact pure_shift rfl rfl rfl rfl | exact pure_eqlNil rfl rfl rfl (by rfl) | exact pure_conv rfl rfl (by rfl) (by rfl)) ?_ | refine Tk.seq (WkP.wk W1) ?_ | refine Tk.reg W1 ?_ | refine Tk.skip (WkP.wk W1) ?_ | refine Tk.block (WkP.wk W1) ?_ | refine Tk.condT (WkP.wk W1) rfl ?_ | refine Tk.condF (WkP.wk W1) rfl ?_ | refine Tk.exit (WkP.wk W1) rfl ?_ | refine Tk.label (WkP.wk W1) ?_)
        refine Tk.inLoop W1.wk ?_
        rw [← hKK]
        exact Tk.sub ih (AllGet.sub ⟨rfl, rfl, rfl, rfl, rfl, rfl, trivial⟩)
  exact Tk.sub (HH nj 0 (by omega)) (AllGet.sub ⟨rfl, rfl, rfl, rfl, rfl, rfl, trivial⟩)
end Go.Co.F1

namespace Go.Co.F1
open Go Go.Conc Go.Proofs
open Go.Co
open Go.ConcN (upd upd_ne upd_same)
variable {E : Geo} {N i : Nat} {l : Lo} {w : World} {own own' : Nat → Prop} {w' : World} {FP FP' : Nat → Prop}
set_option maxRecDepth 10000
set_option maxHeartbeats 16000000 in
/-- CountsSame: both together. -/
theorem same4c {W : World} {bs : Option Addr} {nj cap m A9 A10 A11 A12 : Nat} {rr : Nat → Nat} {f0 f1 f2 f3 : Nat → Int} {S0 : Nat} (hf : E.FinV) (hP : E.P = Try.prog) (hfin : E.fin = Fins W 1 S0) (q : Q4 W S0 A9 A10 A11 A12 f0 f1 f2 f3 own w) (ar : Ar4 W bs nj cap m rr) (fs : Fs rr nj f0 f1 f2 f3) :
    Tk E N 0 (mainLo own) w (base 4) 106 [(0, .slice bs nj cap), (9, ptr A9 0), (10, ptr A10 0), (11, ptr A11 0), (12, ptr A12 0)] [] [.code (skipSeq 6 c4)] [] := by
  have Wl : ∀ own', WkP Try.prog E (mainLo own') (base 4) := fun own' => wk_main hf hP (by decide)
  have W1 := Wl own
  (repeat (first | refine TkO.done W1 (by rfl) ?_ | refine TkO.unwantedS W1 (by rfl) (by rfl) (by rfl) (by rfl) ?_ | refine TkO.pureS W1 (by rfl) (by rfl) (by rfl) (by rfl) (by first | exact pure_move (.inl rfl) rfl | exact pure_move (.inr rfl) rfl | exact pure_nilCheck rfl rfl | exact pure_field rfl rfl (by rfl) rfl (by decide +kernel) | exact pure_int rfl rfl rfl rfl | exact pure_not rfl rfl | exact pure_pickT rfl rfl rfl | exact pure_pickF rfl rfl rfl | exact pure_shift rfl rfl rfl rfl | exact pure_eqlNil rfl rfl rfl (by rfl) | exact pure_conv rfl rfl (by rfl) (by rfl)) ?_ | refine Tk.seq (WkP.wk W1) ?_ | refine Tk.reg W1 ?_ | refine Tk.skip (WkP.wk W1) ?_ | refine Tk.block (WkP.wk W1) ?_ | refine Tk.condT (WkP.wk W1) rfl ?_ | refine Tk.condF (WkP.wk W1) rfl ?_ | refine Tk.exit (WkP.wk W1) rfl ?_ | refine Tk.label (WkP.wk W1) ?_))
  refine Tk.loop W1.wk ?_
  refine Tk.cut fun KK hKK => ?_
  have HH : ∀ (k n : Nat) (E : Geo) (N S0 : Nat) own w, n + k = 19 → E.FinV → E.P = Try.prog → E.fin = Fins W 1 S0 → Q4 W S0 A9 A10 A11 A12 f0 f1 f2 f3 own w →
      Tk E N 0 (mainLo own) w (base 4) 106 [(0, .slice bs nj cap), (9, ptr A9 0), (10, ptr A10 0), (11, ptr A11 0), (12, ptr A12 0), (13, .int .i64 (sumF f0 n)), (14, .int .i64 n)] [] KK [] := by
    intro k
    induction k with
    | zero =>
      intro n E N S0 own w hn hf hP hfin q
      have hn : n = 19 := by omega
      subst hn
      have W1 : WkP Try.prog E (mainLo own) (base 4) := wk_main hf hP (by decide)
      rw [hKK]
      refine Tk.seq W1.wk ?_
      refine Tk.seq W1.wk ?_
      refine Tk.reg W1 ?_
      refine TkO.pureS W1 (by rfl) (by rfl) (by rfl) (by rfl) (by (first | exact pure_move (.inl rfl) rfl | exact pure_move (.inr rfl) rfl | exact pure_nilCheck rfl rfl | exact pure_field rfl rfl (by rfl) rfl (by decide +kernel) | exact pure_int rfl rfl rfl rfl | exact pure_not rfl rfl | exact pure_pickT rfl rfl rfl | exact pure_pickF rfl rfl rfl | exact pure_shift rfl rfl rfl rfl | exact pure_eqlNil rfl rfl rfl (by rfl) | exact pure_conv rfl rfl (by rfl) (by rfl))) ?_
      refine TkO.pureS W1 (by rfl) (by rfl) (by rfl) (by rfl) (by (first | exact pure_move (.inl rfl) rfl | exact pure_move (.inr rfl) rfl | exact pure_nilCheck rfl rfl | exact pure_field rfl rfl (by rfl) rfl (by decide +kernel) | exact pure_int rfl rfl rfl rfl | exact pure_not rfl rfl | exact pure_pickT rfl rfl rfl | exact pure_pickF rfl rfl rfl | exact pure_shift rfl rfl rfl rfl | exact pure_eqlNil rfl rfl rfl (by rfl) | exact pure_conv rfl rfl (by rfl) (by rfl))) ?_
      refine TkO.done W1 (by rfl) ?_
      refine Tk.condF W1.wk rfl ?_
      refine Tk.exit W1.wk rfl ?_
      rw [fs.sum]
      exact Tk.sub (same4d hf hP hfin q ar fs.t fs.z) (AllGet.sub ⟨rfl, rfl, rfl, rfl, trivial⟩)
    | succ k ihk =>
      intro n E N S0 own w hn hf hP hfin q
      have hlt : n < 19 := by omega
      have W1 : WkP Try.prog E (mainLo own) (base 4) := wk_main hf hP (by decide)
      rw [hKK]
      refine Tk.seq W1.wk ?_
      refine Tk.seq W1.wk ?_
      refine Tk.reg W1 ?_
      refine TkO.pureS W1 (by rfl) (by rfl) (by rfl) (by rfl) (by (first | exact pure_move (.inl rfl) rfl | exact pure_move (.inr rfl) rfl | exact pure_nilCheck rfl rfl | exact pure_field rfl rfl (by rfl) rfl (by decide +kernel) | exact pure_int rfl rfl rfl rfl | exact pure_not rfl rfl | exact pure_pickT rfl rfl rfl | exact pure_pickF rfl rfl rfl | exact pure_shift rfl rfl rfl rfl | exact pure_eqlNil rfl rfl rfl (by rfl) | exact pure_conv rfl rfl (by rfl) (by rfl))) ?_
      refine TkO.pureS W1 (by rfl) (by rfl) (by rfl) (by rfl) (by (first | exact pure_move (.inl rfl) rfl | exact pure_move (.inr rfl) rfl | exact pure_nilCheck rfl rfl | exact pure_field rfl rfl (by rfl) rfl (by decide +kernel) | exact pure_int rfl rfl rfl rfl | exact pure_not rfl rfl | exact pure_pickT rfl rfl rfl | exact pure_pickF rfl rfl rfl | exact pure_shift rfl rfl rfl rfl | exact pure_eqlNil rfl rfl rfl (by rfl) | exact pure_conv rfl rfl (by rfl) (by rfl))) ?_
      refine TkO.done W1 (by rfl) ?_
      refine Tk.condT W1.wk (congrArg (fun b => some (Value.bool b)) (decide_eq_true (show (n : Int) < 19 by omega))) ?_
      refine Tk.skip W1.wk ?_
      refine Tk.seq W1.wk ?_
      refine Tk.block W1.wk ?_
      refine Tk.seq W1.wk ?_
      refine Tk.seq W1.wk ?_
      refine Tk.freeE W1 mixed (I := It W 1 [] (v11 bs nj cap A12 (sumF f0 n) A9 A10 A11 n f0 f1 f2) bs11 (M11 W A9 A10 A11 f0 f1 f2 A12 f3)) (by decide +kernel) ?_ ?_ ?_ ?_
      · refine ⟨fun _ => 0, own, S0, fun _ => False, rfl, hf, hP, hfin, q.sz, ⟨by simp, fun x hx => ?_, fun m o' d _ _ hu => absurd hu (not_up0 _ _)⟩, q.old, q.ex⟩
        have : x = 0 ∨ x = 9 ∨ x = 10 ∨ x = 11 ∨ x = 12 ∨ x = 13 ∨ x = 14 := by simpa [bs11] using hx
        rcases this with rfl | rfl | rfl | rfl | rfl | rfl | rfl <;> rfl
      · intro E L l w env ⟨_, own, S0, FP, hl, hf, hP, _, _, F, _⟩
        subst hl
        exact ⟨F.size, wk_main hf hP (by decide)⟩
      · exact reg11 rfl hlt ⟨(fs.b1 n).1, (fs.b1 n).2, (fs.b2 n).1, (fs.b2 n).2⟩ (fs.s n)
      · intro E' N' L l' w' env ⟨_, own', S', FP', hl, hf', hP', hfin', hsz', F, ho', mm⟩ hall
        subst hl
        have W' : WkP Try.prog E' (mainLo own') (base 4) := wk_main hf' hP' (by decide)
        obtain ⟨S, s1, s2, s3⟩ := mm
        obtain ⟨a1, _, a3⟩ := s1 _ _ s2
        have hb0 := sumF_bd (f := f0) (fun j => ⟨(fs.b0 j).1, by have := (fs.b0 j).2; omega⟩) n
        have hbn := fs.b0 n
        have hadd : IntKind.i64.wrap (sumF f0 n + f0 n) = sumF f0 (n + 1) := by
          simp only [sumF]
          rw [IntKind.wrap_i64]
          have : (n : Int) * 1125899906842624 ≤ 19 * 1125899906842624 := by
            have : (n : Int) ≤ 19 := by omega
            exact Int.mul_le_mul_of_nonneg_right this (by decide)
          omega
        refine Tk.sub (env' := [(0, .slice bs nj cap), (9, ptr A9 0), (10, ptr A10 0), (11, ptr A11 0), (12, ptr A12 0), (13, .int .i64 (sumF f0 n)), (14, .int .i64 n), (64, .bool false)]) ?_ (AllGet.sub ⟨F.base 0 rfl, F.base 9 rfl, F.base 10 rfl, F.base 11 rfl, F.base 12 rfl, F.base 13 rfl, F.base 14 rfl, F.get (j := 10) (d := 64) (by rfl) rfl (hall 10 (by decide)), trivial⟩)
        refine Tk.condF W'.wk rfl ?_
        refine Tk.skip W'.wk ?_
        refine Tk.reg W' ?_
        refine TkO.pureS W' (by rfl) (by rfl) (by rfl) (by rfl) (by (first | exact pure_move (.inl rfl) rfl | exact pure_move (.inr rfl) rfl | exact pure_nilCheck rfl rfl | exact pure_field rfl rfl (by rfl) rfl (by decide +kernel) | exact pure_int rfl rfl rfl rfl | exact pure_not rfl rfl | exact pure_pickT rfl rfl rfl | exact pure_pickF rfl rfl rfl | exact pure_shift rfl rfl rfl rfl | exact pure_eqlNil rfl rfl rfl (by rfl) | exact pure_conv rfl rfl (by rfl) (by rfl))) ?_
        refine TkO.pureS W' (by rfl) (by rfl) (by rfl) (by rfl) (by (first | exact pure_move (.inl rfl) rfl | exact pure_move (.inr rfl) rfl | exact pure_nilCheck rfl rfl | exact pure_field rfl rfl (by rfl) rfl (by decide +kernel) | exact pure_int rfl rfl rfl rfl | exact pure_not rfl rfl | exact pure_pickT rfl rfl rfl | exact pure_pickF rfl rfl rfl | exact pure_shift rfl rfl rfl rfl | exact pure_eqlNil rfl rfl rfl (by rfl) | exact pure_conv rfl rfl (by rfl) (by rfl))) ?_
        refine TkO.pureS W' (by rfl) (by rfl) (by rfl) (by rfl) (pure_indexA (m := 19) (e := 3) (b := A9) (off := 0) (k := .i64) (j := (n : Int)) (by rfl) (by rfl) (by decide +kernel) (by rfl) (by rfl) (by omega)) ?_
        rw [show (0 + ((n : Int)).toNat) = n by omega]
        refine TkO.loadAt W' (A := A9) (m := n) hlt (by rfl) (by rfl) (by rfl) (by rfl) (by rfl) (by rfl) a1 a3 ?_
        refine TkO.pureS W' (by rfl) (by rfl) (by rfl) (by rfl) (pure_addE rfl rfl rfl hadd) ?_
        refine TkO.pureS W' (by rfl) (by rfl) (by rfl) (by rfl) (by (first | exact pure_move (.inl rfl) rfl | exact pure_move (.inr rfl) rfl | exact pure_nilCheck rfl rfl | exact pure_field rfl rfl (by rfl) rfl (by decide +kernel) | exact pure_int rfl rfl rfl rfl | exact pure_not rfl rfl | exact pure_pickT rfl rfl rfl | exact pure_pickF rfl rfl rfl | exact pure_shift rfl rfl rfl rfl | exact pure_eqlNil rfl rfl rfl (by rfl) | exact pure_conv rfl rfl (by rfl) (by rfl))) ?_
        refine TkO.done W' (by rfl) ?_
        refine Tk.inBlock W'.wk ?_
        refine Tk.reg W' ?_
        refine TkO.pureS W' (by rfl) (by rfl) (by rfl) (by rfl) (by (first | exact pure_move (.inl rfl) rfl | exact pure_move (.inr rfl) rfl | exact pure_nilCheck rfl rfl | exact pure_field rfl rfl (by rfl) rfl (by decide +kernel) | exact pure_int rfl rfl rfl rfl | exact pure_not rfl rfl | exact pure_pickT rfl rfl rfl | exact pure_pickF rfl rfl rfl | exact pure_shift rfl rfl rfl rfl | exact pure_eqlNil rfl rfl rfl (by rfl) | exact pure_conv rfl rfl (by rfl) (by rfl))) ?_
        refine TkO.pureS W' (by rfl) (by rfl) (by rfl) (by rfl) (pure_addE rfl rfl rfl (wrap64 (by omega))) ?_
        refine TkO.pureS W' (by rfl) (by rfl) (by rfl) (by rfl) (by (first | exact pure_move (.inl rfl) rfl | exact pure_move (.inr rfl) rfl | exact pure_nilCheck rfl rfl | exact pure_field rfl rfl (by rfl) rfl (by decide +kernel) | exact pure_int rfl rfl rfl rfl | exact pure_not rfl rfl | exact pure_pickT rfl rfl rfl | exact pure_pickF rfl rfl rfl | exact pure_shift rfl rfl rfl rfl | exact pure_eqlNil rfl rfl rfl (by rfl) | exact pure_conv rfl rfl (by rfl) (by rfl))) ?_
        refine TkO.done W' (by rfl) ?_
        refine Tk.inLoop W'.wk ?_
        rw [← hKK]
        exact Tk.sub (ihk (n + 1) E' N' S' own' w' (by omega) hf' hP' hfin' ⟨hsz', ho', S, s1, s2, s3⟩) (AllGet.sub ⟨rfl, rfl, rfl, rfl, rfl, rfl, rfl, trivial⟩)
  exact Tk.sub (HH 19 0 E N S0 own w rfl hf hP hfin q) (AllGet.sub ⟨rfl, rfl, rfl, rfl, rfl, rfl, rfl, trivial⟩)
end Go.Co.F1

namespace Go.Co.F1
open Go Go.Conc Go.Proofs
open Go.Co
open Go.ConcN (upd upd_ne upd_same)
variable {E : Geo} {N i : Nat} {l : Lo} {w : World} {own own' : Nat → Prop} {w' : World} {FP FP' : Nat → Prop}
set_option maxRecDepth 10000
set_option maxHeartbeats 16000000 in
/-- CountsSame: turned. -/
theorem same4b {W : World} {bs : Option Addr} {nj cap m A9 A10 A11 : Nat} {bw : Int} {rr : Nat → Nat} {f0 f1 f2 : Nat → Int} {S0 : Nat} (hf : E.FinV) (hP : E.P = Try.prog) (hfin : E.fin = Fins W 2 S0) (hsz : S0 ≤ w.heap.size) (ho : Old W own w) (hS : ∃ S, Arrs W own w S ∧ S A9 = some f0 ∧ S A10 = some f1 ∧ S A11 = some f2) (ar : Ar4 W bs nj cap m rr) (fs : Fs rr nj f0 f1 f2 (cnt (cN (rr2 rr m nj) nj))) :
    Tk E N 0 (mainLo own) w (base 4) 106 [(0, .slice bs nj cap), (2, .int .i64 bw), (3, .int .i64 m), (9, ptr A9 0), (10, ptr A10 0), (11, ptr A11 0)] [] [.code (skipSeq 5 c4)] [] := by
  have W1 : WkP Try.prog E (mainLo own) (base 4) := wk_main hf hP (by decide)
  obtain ⟨S, s1, s2, s3, s4⟩ := hS
  refine Tk.seq W1.wk ?_
  refine Tk.freeE W1 mixed (I := It W 1 [10] (v6 bs nj cap m bw rr A9 A10 A11) bs6 (M6 W A9 A10 A11 f0 f1 f2 nj m rr)) (by decide +kernel) ?_ ?_ ?_ ?_
  · refine ⟨fun _ => 0, own, S0, fun _ => False, rfl, hf, hP, hfin, hsz, ⟨by simp, fun x hx => ?_, fun m o' d _ _ hu => absurd hu (not_up0 _ _)⟩, ho, ⟨S, s1, s2, s3, s4, fun u => absurd u (not_up0 _ _), fun u => absurd u (not_up0 _ _), fun u => absurd u (not_up0 _ _), fun u => absurd u (not_up0 _ _)⟩⟩
    have : x = 0 ∨ x = 2 ∨ x = 3 ∨ x = 9 ∨ x = 10 ∨ x = 11 := by simpa [bs6] using hx
    rcases this with rfl | rfl | rfl | rfl | rfl | rfl <;> rfl
  · intro E L l w env ⟨_, own, S0, FP, hl, hf, hP, _, _, F, _⟩
    subst hl
    exact ⟨F.size, wk_main hf hP (by decide)⟩
  · exact reg6 rfl ar
  · intro E' N' L l' w' env ⟨p, own', S', FP', hl, hf', hP', hfin', hsz', F, ho', m6⟩ hall
    subst hl
    obtain ⟨S, q1, q2, q3, q4, q5, _⟩ := m6.ex
    obtain ⟨t1, _⟩ := q5 (hall 11 (by decide))
    rw [if_pos (upB_yes (hall 12 (by decide)))] at t1
    have e0 : lft [10] L = 0 := by
      simp only [lft]
      rw [upB_yes (hall 10 (by decide))]; rfl
    rw [e0] at hfin'
    exact Tk.sub (same4c hf' hP' hfin' ⟨hsz', ho', S, q1, q2, q3, q4, t1⟩ ar fs) (AllGet.sub ⟨F.base 0 rfl, F.base 9 rfl, F.base 10 rfl, F.base 11 rfl, F.get (j := 11) (d := 12) (by rfl) rfl (hall 11 (by decide)), trivial⟩)
set_option maxHeartbeats 16000000 in
/-- CountsSame: in two parts. -/
theorem same4a {W : World} {bs : Option Addr} {nj cap m A9 : Nat} {bw : Int} {rr : Nat → Nat} {S0 : Nat} (hf : E.FinV) (hP : E.P = Try.prog) (hfin : E.fin = Fins W 4 S0) (hsz : S0 ≤ w.heap.size) (ho : Old W own w) (hS : ∃ S, Arrs W own w S ∧ S A9 = some (cnt (cN rr nj))) (ar : Ar4 W bs nj cap m rr) :
    Tk E N 0 (mainLo own) w (base 4) 106 [(0, .slice bs nj cap), (2, .int .i64 bw), (3, .int .i64 m), (9, ptr A9 0)] [] [.code (skipSeq 4 c4)] [] := by
  have W1 : WkP Try.prog E (mainLo own) (base 4) := wk_main hf hP (by decide)
  obtain ⟨S, s1, s2⟩ := hS
  have fs := fs_mk (rr := rr) ar.hnj ar.hm
  refine Tk.seq W1.wk ?_
  refine Tk.freeE W1 mixed (I := It W 2 [4, 9] (v5 bs nj cap m bw rr A9) bs5 (M5 W A9 (cnt (cN rr nj)) (cnt (cN rr m)) (cnt (cN (fun q => rr (m + q)) (nj - m))))) (by decide +kernel) ?_ ?_ ?_ ?_
  · refine ⟨fun _ => 0, own, S0, fun _ => False, rfl, hf, hP, hfin, hsz, ⟨by simp, fun x hx => ?_, fun m o' d _ _ hu => absurd hu (not_up0 _ _)⟩, ho, ⟨S, s1, s2, fun u => absurd u (not_up0 _ _), fun u => absurd u (not_up0 _ _), fun u => absurd u (not_up0 _ _)⟩⟩
    have : x = 0 ∨ x = 2 ∨ x = 3 ∨ x = 9 := by simpa [bs5] using hx
    rcases this with rfl | rfl | rfl | rfl <;> rfl
  · intro E L l w env ⟨_, own, S0, FP, hl, hf, hP, _, _, F, _⟩
    subst hl
    exact ⟨F.size, wk_main hf hP (by decide)⟩
  · exact reg5 rfl ar
  · intro E' N' L l' w' env ⟨p, own', S', FP', hl, hf', hP', hfin', hsz', F, ho', m5⟩ hall
    subst hl
    obtain ⟨S, q1, q2, q3, q4, q5⟩ := m5.ex
    obtain ⟨t1, _⟩ := q3 (hall 10 (by decide))
    obtain ⟨t2, _⟩ := q4 (hall 11 (by decide))
    rw [if_pos (upB_yes (hall 12 (by decide)))] at t1
    rw [if_pos (upB_yes (hall 13 (by decide)))] at t2
    have e0 : lft [4, 9] L = 0 := by
      simp only [lft]
      rw [upB_yes (hall 4 (by decide)), upB_yes (hall 9 (by decide))]; rfl
    rw [e0] at hfin'
    exact Tk.sub (same4b hf' hP' hfin' hsz' ho' ⟨S, q1, q2, t1, t2⟩ ar fs) (AllGet.sub ⟨F.base 0 rfl, F.base 2 rfl, F.base 3 rfl, F.base 9 rfl, F.get (j := 10) (d := 10) (by rfl) rfl (hall 10 (by decide)), F.get (j := 11) (d := 11) (by rfl) rfl (hall 11 (by decide)), trivial⟩)
def mAt (at_ : Int) (nj : Nat) : Nat := (if (nj : Int) < (if (0 : Int) > at_ then 0 else at_) then (nj : Int) else (if (0 : Int) > at_ then 0 else at_)).toNat
theorem mAt_le (at_ : Int) (nj : Nat) : mAt at_ nj ≤ nj := by unfold mAt; omega
theorem mAt_eq (at_ : Int) (nj : Nat) : (if (nj : Int) < (if (0 : Int) > at_ then 0 else at_) then (nj : Int) else (if (0 : Int) > at_ then 0 else at_)) = (mAt at_ nj : Int) := by unfold mAt; omega
set_option maxHeartbeats 16000000 in
/-- CountsSame. -/
theorem same4 {W : World} {bs : Option Addr} {nj cap : Nat} {aw bw at_ : Int} {rr : Nat → Nat} {S0 : Nat} (hf : E.FinV) (hP : E.P = Try.prog) (hfin : E.fin = Fins W (if 300 < nj then 1 else 5) S0) (hsz : S0 ≤ w.heap.size) (ho : Old W own w) (ha : Arg W bs nj rr 0) (hc : nj ≤ cap) (hs : ∀ a, bs = some a → a.block < W.heap.size ∧ a.spot = none) (hcn : bs = none → cap = 0) :
    Tr E N 0 (mainLo own) (Conc.G (Frame.enter Try.prog 4 #[.slice bs nj cap, .int .i64 aw, .int .i64 bw, .int .i64 at_] .normal) []) w := by
  have Wl : ∀ own', WkP Try.prog E (mainLo own') (base 4) := fun own' => wk_main hf hP (by decide)
  refine Tr.enterP hP b4 (Nat.le_of_ble_eq_true rfl) ?_
  (repeat (first | refine TkO.done (Wl own) (by rfl) ?_ | refine TkO.unwantedS (Wl own) (by rfl) (by rfl) (by rfl) (by rfl) ?_ | refine TkO.pureS (Wl own) (by rfl) (by rfl) (by rfl) (by rfl) (by first | exact pure_move (.inl rfl) rfl | exact pure_move (.inr rfl) rfl | exact pure_nilCheck rfl rfl | exact pure_field rfl rfl (by rfl) rfl (by decide +kernel) | exact pure_int rfl rfl rfl rfl | exact pure_not rfl rfl | exact pure_pickT rfl rfl rfl | exact pure_pickF rfl rfl rfl | exact pure_shift rfl rfl rfl rfl | exact pure_eqlNil rfl rfl rfl (by rfl) | exact pure_conv rfl rfl (by rfl) (by rfl)) ?_ | refine Tk.seq (WkP.wk (Wl own)) ?_ | refine Tk.reg (Wl own) ?_ | refine Tk.skip (WkP.wk (Wl own)) ?_ | refine Tk.block (WkP.wk (Wl own)) ?_ | refine Tk.condT (WkP.wk (Wl own)) rfl ?_ | refine Tk.condF (WkP.wk (Wl own)) rfl ?_ | refine Tk.exit (WkP.wk (Wl own)) rfl ?_ | refine Tk.label (WkP.wk (Wl own)) ?_))
  refine TkO.pureS (Wl own) (by rfl) (by rfl) (by rfl) (by rfl) (pure_len rfl rfl (by rfl)) ?_
  by_cases hn : 300 < nj
  · rw [if_pos hn] at hfin
    have hz : intV .gtr .i64 (nj : Int) 300 = some (.bool true) := by
      simp only [intV]; rw [decide_eq_true (show (nj : Int) > 300 by omega)]
    repeat (first
      | refine TkO.pureS (Wl own) (by rfl) (by rfl) (by rfl) (by rfl) (by exact pure_int rfl rfl rfl hz) ?_
      | refine TkO.done (Wl own) (by rfl) ?_ | refine TkO.unwantedS (Wl own) (by rfl) (by rfl) (by rfl) (by rfl) ?_ | refine TkO.pureS (Wl own) (by rfl) (by rfl) (by rfl) (by rfl) (by first | exact pure_move (.inl rfl) rfl | exact pure_move (.inr rfl) rfl | exact pure_nilCheck rfl rfl | exact pure_field rfl rfl (by rfl) rfl (by decide +kernel) | exact pure_int rfl rfl rfl rfl | exact pure_not rfl rfl | exact pure_pickT rfl rfl rfl | exact pure_pickF rfl rfl rfl | exact pure_shift rfl rfl rfl rfl | exact pure_eqlNil rfl rfl rfl (by rfl) | exact pure_conv rfl rfl (by rfl) (by rfl)) ?_ | refine Tk.seq (WkP.wk (Wl own)) ?_ | refine Tk.reg (Wl own) ?_ | refine Tk.skip (WkP.wk (Wl own)) ?_ | refine Tk.block (WkP.wk (Wl own)) ?_ | refine Tk.condT (WkP.wk (Wl own)) rfl ?_ | refine Tk.condF (WkP.wk (Wl own)) rfl ?_ | refine Tk.exit (WkP.wk (Wl own)) rfl ?_ | refine Tk.label (WkP.wk (Wl own)) ?_)
    refine TkO.callE (Wl _) (by rfl) (by rfl) (by rfl) (by rfl) (by rfl) b6 rfl fun fr7 hk7 => ?_
    refine wakes6 hf hP hfin hsz ho fun E2 N2 own4 w4 _ f4 P4 fin4 _ o4 => hk7 E2 N2 _ _ _ ?_
    have W4 : WkP Try.prog E2 (mainLo own4) (base 4) := wk_main f4 P4 (by decide)
    (repeat (first | refine TkO.done W4 (by rfl) ?_ | refine TkO.unwantedS W4 (by rfl) (by rfl) (by rfl) (by rfl) ?_ | refine TkO.pureS W4 (by rfl) (by rfl) (by rfl) (by rfl) (by first | exact pure_move (.inl rfl) rfl | exact pure_move (.inr rfl) rfl | exact pure_nilCheck rfl rfl | exact pure_field rfl rfl (by rfl) rfl (by decide +kernel) | exact pure_int rfl rfl rfl rfl | exact pure_not rfl rfl | exact pure_pickT rfl rfl rfl | exact pure_pickF rfl rfl rfl | exact pure_shift rfl rfl rfl rfl | exact pure_eqlNil rfl rfl rfl (by rfl) | exact pure_conv rfl rfl (by rfl) (by rfl)) ?_ | refine Tk.seq (WkP.wk W4) ?_ | refine Tk.reg W4 ?_ | refine Tk.skip (WkP.wk W4) ?_ | refine Tk.block (WkP.wk W4) ?_ | refine Tk.condT (WkP.wk W4) rfl ?_ | refine Tk.condF (WkP.wk W4) rfl ?_ | refine Tk.exit (WkP.wk W4) rfl ?_ | refine Tk.label (WkP.wk W4) ?_))
    exact Tk.ret W4.wk (end4 fin4 o4 rfl)
  · rw [if_neg hn] at hfin
    have hnj : nj ≤ 300 := by omega
    have hz : intV .gtr .i64 (nj : Int) 300 = some (.bool false) := by
      simp only [intV]; rw [decide_eq_false (show ¬ (nj : Int) > 300 by omega)]
    have ar : Ar4 W bs nj cap (mAt at_ nj) rr := ⟨ha, hc, hs, hcn, hnj, mAt_le at_ nj⟩
    refine TkO.pureS (Wl own) (by rfl) (by rfl) (by rfl) (by rfl) (by exact pure_int rfl rfl rfl hz) ?_
    refine TkO.done (Wl own) (by rfl) ?_
    refine Tk.condF (Wl own).wk rfl ?_
    refine Tk.skip (Wl own).wk ?_
    refine Tk.seq (Wl own).wk ?_
    refine Tk.reg (Wl own) ?_
    refine TkO.pureS (Wl own) (by rfl) (by rfl) (by rfl) (by rfl) (by (first | exact pure_move (.inl rfl) rfl | exact pure_move (.inr rfl) rfl | exact pure_nilCheck rfl rfl | exact pure_field rfl rfl (by rfl) rfl (by decide +kernel) | exact pure_int rfl rfl rfl rfl | exact pure_not rfl rfl | exact pure_pickT rfl rfl rfl | exact pure_pickF rfl rfl rfl | exact pure_shift rfl rfl rfl rfl | exact pure_eqlNil rfl rfl rfl (by rfl) | exact pure_conv rfl rfl (by rfl) (by rfl))) ?_
    refine TkO.pureS (Wl own) (by rfl) (by rfl) (by rfl) (by rfl) (pure_max rfl rfl rfl rfl) ?_
    refine TkO.pureS (Wl own) (by rfl) (by rfl) (by rfl) (by rfl) (by (first | exact pure_move (.inl rfl) rfl | exact pure_move (.inr rfl) rfl | exact pure_nilCheck rfl rfl | exact pure_field rfl rfl (by rfl) rfl (by decide +kernel) | exact pure_int rfl rfl rfl rfl | exact pure_not rfl rfl | exact pure_pickT rfl rfl rfl | exact pure_pickF rfl rfl rfl | exact pure_shift rfl rfl rfl rfl | exact pure_eqlNil rfl rfl rfl (by rfl) | exact pure_conv rfl rfl (by rfl) (by rfl))) ?_
    refine TkO.pureS (Wl own) (by rfl) (by rfl) (by rfl) (by rfl) (pure_len rfl rfl (by rfl)) ?_
    refine TkO.pureS (Wl own) (by rfl) (by rfl) (by rfl) (by rfl) (pure_min rfl rfl rfl (mAt_eq at_ nj)) ?_
    refine TkO.pureS (Wl own) (by rfl) (by rfl) (by rfl) (by rfl) (by (first | exact pure_move (.inl rfl) rfl | exact pure_move (.inr rfl) rfl | exact pure_nilCheck rfl rfl | exact pure_field rfl rfl (by rfl) rfl (by decide +kernel) | exact pure_int rfl rfl rfl rfl | exact pure_not rfl rfl | exact pure_pickT rfl rfl rfl | exact pure_pickF rfl rfl rfl | exact pure_shift rfl rfl rfl rfl | exact pure_eqlNil rfl rfl rfl (by rfl) | exact pure_conv rfl rfl (by rfl) (by rfl))) ?_
    refine TkO.done (Wl own) (by rfl) ?_
    refine Tk.seq (Wl own).wk ?_
    refine Tk.reg (Wl own) ?_
    refine TkO.pureS (Wl own) (by rfl) (by rfl) (by rfl) (by rfl) (by (first | exact pure_move (.inl rfl) rfl | exact pure_move (.inr rfl) rfl | exact pure_nilCheck rfl rfl | exact pure_field rfl rfl (by rfl) rfl (by decide +kernel) | exact pure_int rfl rfl rfl rfl | exact pure_not rfl rfl | exact pure_pickT rfl rfl rfl | exact pure_pickF rfl rfl rfl | exact pure_shift rfl rfl rfl rfl | exact pure_eqlNil rfl rfl rfl (by rfl) | exact pure_conv rfl rfl (by rfl) (by rfl))) ?_
    refine TkO.pureS (Wl own) (by rfl) (by rfl) (by rfl) (by rfl) (by (first | exact pure_move (.inl rfl) rfl | exact pure_move (.inr rfl) rfl | exact pure_nilCheck rfl rfl | exact pure_field rfl rfl (by rfl) rfl (by decide +kernel) | exact pure_int rfl rfl rfl rfl | exact pure_not rfl rfl | exact pure_pickT rfl rfl rfl | exact pure_pickF rfl rfl rfl | exact pure_shift rfl rfl rfl rfl | exact pure_eqlNil rfl rfl rfl (by rfl) | exact pure_conv rfl rfl (by rfl) (by rfl))) ?_
    refine TkO.callE (Wl _) (by rfl) (by rfl) (by rfl) (by rfl) (by rfl) b14c rfl fun fr7 hk7 => ?_
    refine tallyM hf hP hfin hsz ho (ar.sl ho) (by omega) fun E2 N2 own2 w2 S2 f2 P2 fin2 sz2 k => hk7 E2 N2 _ _ _ ?_
    have W2 : ∀ own', WkP Try.prog E2 (mainLo own') (base 4) := fun own' => wk_main f2 P2 (by decide)
    have o2 := ho.kp k
    refine TkO.newArr (W2 _) (d := 9) (by rfl) (by rfl) (by rfl) (by rfl) (by rfl) fun own3 w3 A k3 A1 A2 A3 => ?_
    have A0 : W.heap.size ≤ A := Nat.le_trans o2.size A1
    have o3 := o2.kp k3
    refine TkO.storeAll (W2 _) (A := A) (f := cnt (cN rr nj)) (by rfl) (by rfl) (by rfl) (by rfl) (by rfl) (by rfl) A2 A3 fun w4 s4 h4 A4 => ?_
    have o4 := o3.set A0 s4 h4
    refine TkO.done (W2 _) (by rfl) ?_
    refine Tk.sub (same4a (bw := bw) f2 P2 fin2 (by have := k3.size; omega) o4 ⟨fun x => if x = A then some (cnt (cN rr nj)) else none, fun b f hb => ?_, if_pos rfl⟩ ar) (AllGet.sub ⟨rfl, rfl, rfl, rfl, trivial⟩)
    simp only at hb
    split at hb
    · rename_i e; cases hb; subst e; exact ⟨A2, A0, A4⟩
    · cases hb
end Go.Co.F1

namespace Go.Co.Row
open Go Go.Conc Go.RowKit Go.WideShapes Go.ChangeShapes
section
variable {H : Type} {enc : TypeId × Value → H} {P : Program}
theorem post_below {f : Func} {s : ChangeSpec} {apart fresh handsOn again : Bool} {W W' : World} {args : Array Value} {v : Value} {ds gs : List (DataW H)} {before pa pv : List MemPlace}
    (hW : DataW.Whole enc P f.params.toList s.vars apart W args.toList ds gs before)
    (hres : ∀ (b : Nat) (sp : Nat → Bool) (hd : Bool), DataW.TrodAll enc P W' b sp hd f.resultTypes.toList (v.resultList f.resultTypes.size) (s.fn H (ds ++ gs)).results [])
    (hargs : ∀ sp : Nat → Bool, (∀ p ∈ before, sp p.block = true) → DataW.TrodAll enc P W' 0 sp true f.params.toList args.toList (s.fn H (ds ++ gs)).args pa)
    (hvars : ∀ sp : Nat → Bool, (∀ p ∈ before, sp p.block = true) → DataW.TrodVars enc P W' sp s.vars (s.fn H (ds ++ gs)).vars pv)
    (hps : before = pa ++ pv) (hb : Go.RowKit.Below W.heap.size W W')
    (hok : ∀ (j : Nat) (t : TypeId) (r : Value), f.resultTypes[j]? = some t → (v.resultList f.resultTypes.size)[j]? = some r → Value.okWide P W' .any 0 t r) :
    s.post enc P f apart fresh handsOn again W args v W' := by
  have hlt : ∀ p ∈ before, p.block < W.heap.size := fun p hp => hW.lt p hp
  have hold : ∀ p ∈ before, (fun b => decide (b < W.heap.size)) p.block = true := fun p hp => by simpa using hlt p hp
  refine ⟨ds, gs, before, [], pa, pv, hW, hres _ _ _, hargs _ hold, hvars _ hold, World.keptBut_mono (fun p hp => ⟨hp, ?_⟩) (hb.frame (· ∈ before)), fun _ => ?_⟩
  · rw [hps, List.mem_append] at hp
    exact Or.inr hp
  · obtain ⟨_, _, _, _, _, hz, hn⟩ := hW
    refine ⟨hok, _, _, ([] ++ pa) ++ pv, ⟨[] ++ pa, pv, trodAll_append (hargs _ (fun _ _ => rfl)) (hres _ _ _), hvars _ (fun _ _ => rfl), rfl, ?_, ?_⟩, ?_⟩
    · intro b off hp
      have hin : MemPlace.cell b off ∈ before := by rw [hps]; simpa using hp
      rw [hb.frozen (hlt _ hin)]
      exact hz b off hin
    · intro ha
      have := hn ha
      rw [hps] at this
      simpa using this
    · intro p hp _
      rw [hps]
      simpa using hp
theorem trodAll_stays (hl : laidOutB P = true) {W W' : World} {sp : Nat → Bool} (hb : Go.RowKit.Below W.heap.size W W') : ∀ {ts : List TypeId} {vs : List Value} {ds : List (DataW H)} {ps : List MemPlace}, (∀ t ∈ ts, P.readableRec t = true ∧ t < P.types.size) →
    DataW.TrodAll enc P W 0 (fun _ => true) true ts vs ds ps → (∀ x ∈ ps, x.block < W.heap.size) → (∀ x ∈ ps, sp x.block = true) → DataW.TrodAll enc P W' 0 sp true ts vs ds ps
  | [], [], [], ps, _, h, _, _ => h
  | t :: ts, v :: vs, d :: ds, ps, hr, h, hlt, hsp => by
    obtain ⟨p, q, h1, h2, rfl⟩ := h
    refine ⟨p, q, ?_, trodAll_stays hl hb (fun t ht => hr t (by simp [ht])) h2 (fun x hx => hlt x (by simp [hx])) fun x hx => hsp x (by simp [hx]), rfl⟩
    exact WideElems.Trod_stays hl (hr t (by simp)).1 (hr t (by simp)).2 h1 (fun x hx => hb.same (hlt x (by simp [hx]))) fun x hx => hsp x (by simp [hx])
theorem trodAll_length : ∀ {W : World} {b : Nat} {sp : Nat → Bool} {hd : Bool} {ts : List TypeId} {vs : List Value} {ds : List (DataW H)} {ps : List MemPlace}, DataW.TrodAll enc P W b sp hd ts vs ds ps → ds.length = ts.length ∧ vs.length = ts.length
  | _, _, _, _, [], [], [], _, _ => ⟨rfl, rfl⟩
  | _, _, _, _, _ :: ts, _ :: vs, _ :: ds, _, h => by
    obtain ⟨p, q, h1, h2, _⟩ := h
    obtain ⟨e1, e2⟩ := trodAll_length h2
    simp [e1, e2]
theorem open_bytes {W : World} {base : Nat} {t e : TypeId} {v : Value} {d : DataW H} {ps : List MemPlace} (ht : P.underlying t = some (.slice e)) (he : P.underlying e = some (.int .u8)) (hc : P.cellsOf e = 1)
    (hval : Value.okWide P W .any base t v) (h : DataW.Trod enc P W 0 (fun _ => true) true t v d ps) :
    ∃ (bs : Option Addr) (nj cap : Nat) (rr : Nat → Nat), v = .slice bs nj cap ∧ (∀ q, rr q < 256) ∧ ∀ q, q < nj → ∃ b o, bs = some ⟨b, o, none⟩ ∧ b < W.heap.size ∧ W.cell? ⟨b, o + q, none⟩ = some (.int .u8 (rr q)) := by
  have hval2 := hval
  obtain ⟨a1, len, cap, rfl⟩ := okWide_slice ht hval
  obtain ⟨fuel, hf⟩ := h
  rcases open_ints ht he hc hf with ⟨hcs, hx⟩ | ⟨a, len', cap', zs, hcs, _, hl, hm, hz, hx, hcell, hwz⟩
  · simp [Value.cells] at hcs
    obtain ⟨rfl, rfl, rfl⟩ := hcs
    exact ⟨none, 0, 0, fun _ => 0, rfl, fun _ => Nat.zero_lt_succ 255, fun q hq => absurd hq (Nat.not_lt_zero _)⟩
  · simp [Value.cells] at hcs
    obtain ⟨rfl, rfl, rfl⟩ := hcs
    simp only [if_true] at hz
    have hspot : a.spot = none := by
      simp only [Value.okWide, ht, Cell.okWide, Cell.ok] at hval2
      exact hval2.2.2.2.1
    obtain ⟨ab, ao, spot⟩ := a
    simp only at hspot
    subst hspot
    have hbd : ∀ q, q < zs.length → 0 ≤ zs.getD q 0 ∧ zs.getD q 0 ≤ 255 := fun q hq => by
      have h1 : zs.getD q 0 ∈ zs := by
        rw [List.getD_eq_getElem?_getD, List.getElem?_eq_getElem hq]
        exact List.getElem_mem hq
      have := hwz _ h1
      have h2 : IntKind.u8.min ≤ zs.getD q 0 ∧ zs.getD q 0 ≤ IntKind.u8.max := by simpa [Lit.wf, IntKind.has] using this
      exact h2
    refine ⟨some ⟨ab, ao, none⟩, len, cap, fun q => if q < zs.length then (zs.getD q 0).toNat else 0, rfl, fun q => ?_, fun q hq => ⟨ab, ao, rfl, ?_, ?_⟩⟩
    · show (if q < zs.length then (zs.getD q 0).toNat else 0) < 256
      split
      · rename_i h1
        have := hbd q h1
        omega
      · decide
    · have := hcell q (by omega)
      have hb := Go.Co.cell_block this
      have e : ((⟨ab, ao, none⟩ : Addr).add q).block = ab := by unfold Addr.add; split <;> rfl
      rwa [e] at hb
    · have := hcell q (by omega)
      have e : (⟨ab, ao, none⟩ : Addr).add q = ⟨ab, ao + q, none⟩ := by
        unfold Addr.add; split
        · rename_i h; subst h; rfl
        · rfl
      rw [e] at this
      rw [this]
      have h1 : q < zs.length := by omega
      have h2 := hbd q h1
      have h3 : (if q < zs.length then (zs.getD q 0).toNat else 0) = (zs.getD q 0).toNat := if_pos h1
      show some (Value.int .u8 (zs.getD q 0)) = some (Value.int .u8 ((if q < zs.length then (zs.getD q 0).toNat else 0 : Nat) : Int))
      rw [h3]
      congr 2
      omega
theorem leaving_post {fn : Func} {s : ChangeSpec} {t : TypeId} {W w' : World} {args : Array Value} {ds gs : List (DataW H)} {before : List MemPlace}
    (hvars : s.vars = []) (hfn : ∀ l : List (DataW H), l.length = fn.params.size → (s.fn H l).results = [.lit (.bool true)] ∧ (s.fn H l).args = l ∧ (s.fn H l).vars = [])
    (hres : fn.resultTypes = #[t]) (ht : P.underlying t = some .bool) (hl : laidOutB P = true) (hr0 : (fn.params.toList.all fun t => P.readableRec t && decide (t < P.types.size)) = true)
    (hW : DataW.Whole enc P fn.params.toList s.vars false W args.toList ds gs before) (hb : Go.RowKit.Below W.heap.size W w') : s.post enc P fn false true false false W args (.bool true) w' := by
  have hr : ∀ t ∈ fn.params.toList, P.readableRec t = true ∧ t < P.types.size := fun t ht => by
    have := List.all_eq_true.1 hr0 t ht
    rw [Bool.and_eq_true] at this
    exact ⟨this.1, of_decide_eq_true this.2⟩
  have hW' := hW
  obtain ⟨p, q, hA, hV, hpq, _, _⟩ := hW'
  rw [hvars] at hV
  obtain ⟨rfl, rfl⟩ := trodVars_none hV
  have hlen := (trodAll_length hA).1
  obtain ⟨r1, r2, r3⟩ := hfn (ds ++ []) (by simpa using hlen)
  have hlt : ∀ x ∈ before, x.block < W.heap.size := fun x hx => hW.lt x hx
  refine post_below (pa := before) (pv := []) hW (fun b sp hd => ?_) (fun sp hsp => ?_) (fun sp _ => ?_) (by simp) hb ?_
  · rw [r1, hres]
    exact trodAll_cons_mk (shut_bool ht _) trodAll_mk0
  · rw [r2, List.append_nil]
    have e : before = p := by rw [hpq, List.append_nil]
    rw [e] at hsp hlt ⊢
    exact trodAll_stays hl hb hr hA hlt hsp
  · rw [r3, hvars]
    exact rfl
  · exact ok_one hres rfl (okWide_bool_mk ht _)
end
end Go.Co.Row

namespace Go.Proofs.Ytcikailibheakaa
open Go Go.Conc Go.RowKit Go.WideShapes Go.ChangeShapes Go.Co Go.Co.F1 Go.Co.Row
set_option maxRecDepth 100000
set_option maxHeartbeats 4000000
theorem slice_facts {P : Program} {W : World} {base : Nat} {t e : TypeId} {bs : Option Addr} {nj cap : Nat} (ht : P.underlying t = some (.slice e)) (hval : Value.okWide P W .any base t (.slice bs nj cap)) : nj ≤ cap ∧ (∀ a, bs = some a → a.block < W.heap.size ∧ a.spot = none) ∧ (bs = none → cap = 0) := by
  have h : Cell.ok P W .any base t (.slice bs nj cap) := by
    simpa only [Value.okWide, ht, Cell.okWide] using hval
  cases bs with
  | none =>
    simp only [Cell.ok, ht] at h
    have h2 : nj = 0 ∧ cap = 0 := by
      rcases nj with _ | nj <;> rcases cap with _ | cap <;> simp_all
    exact ⟨by omega, fun a e => (by cases e), fun _ => h2.2⟩
  | some a =>
    simp only [Cell.ok, ht] at h
    obtain ⟨h1, _, _, h3, row, cells, h4, _⟩ := h
    refine ⟨h1, fun a' e => ?_, fun e => (by cases e)⟩
    cases e
    refine ⟨?_, h3⟩
    cases hb : W.heap[a.block]? with
    | none => simp [World.shape?, hb] at h4
    | some o => exact (Array.getElem?_eq_some_iff.1 hb).1
theorem open_int {P : Program} {W : World} {base : Nat} {t : TypeId} {v : Value} (ht : P.underlying t = some (.int .i64)) (hval : Value.okWide P W .any base t v) : ∃ n : Int, v = .int .i64 n := by
  have h : Cell.okWide P W .any base t v := by
    simpa only [Value.okWide, ht] using hval
  simp only [Cell.okWide, ht] at h
  cases v <;> simp_all [Cell.ok]
theorem own : ownKnob Try.prog.godebug = none := by kernel_rfl
theorem laid : laidOutB Try.prog = true := by kernel_rfl
theorem same_params : Try.f4.params = #[22, 3, 3, 3] := by kernel_rfl
theorem ul22 : Try.prog.underlying 22 = some (.slice 5) := by kernel_rfl
theorem ul3 : Try.prog.underlying 3 = some (.int .i64) := by kernel_rfl
theorem ul5 : Try.prog.underlying 5 = some (.int .u8) := by kernel_rfl
theorem ul4 : Try.prog.underlying 4 = some .bool := by kernel_rfl
theorem cells5 : Try.prog.cellsOf 5 = 1 := by kernel_rfl
theorem same_lifted (os : Os) (started : os.Started) (H : Type) (enc : TypeId × Value → H) (F : Stop.Interp) :
    ReturnsInLeavingWide { calm := true } Try.checked os 4 .any (Rows.countsSameSpec.pre6 enc Try.prog Try.f4 Rows.countsSameRow.domain false) ((OpenSpec.ofChange Rows.countsSameSpec).postWith enc Try.prog Try.f4 F (outsideKept [.timePasses]) false true false) := by
  refine returnsInLeavingWide_of_change_time (C := Try.checked) own started Try.func4
    (ChangeSpec.witness6c (enc := enc) (C := Try.checked) ⟨#[], #[.slice none 0 0, .int .i64 0, .int .i64 0, .int .i64 0], []⟩ 8 (by kernel_rfl) (by kernel_rfl) (by kernel_rfl) (by kernel_rfl)) ?_
  intro W base args ds gs before hval hW _ _ _
  have hW0 := hW
  obtain ⟨ps, qs, hA0, hV, rfl, hfz, hnd⟩ := hW
  have hA : DataW.TrodAll enc Try.prog W 0 (fun _ => true) true Try.f4.params.toList args.toList ds ps := hA0
  rw [same_params] at hA hval
  obtain ⟨v0, vs0, d0, ds0, p0, q0, hargs, rfl, rfl, h0, r0⟩ := trodAll_cons hA
  obtain ⟨v1, vs1, d1, ds1, p1, q1, rfl, rfl, rfl, h1, r1⟩ := trodAll_cons r0
  obtain ⟨v2, vs2, d2, ds2, p2, q2, rfl, rfl, rfl, h2, r2⟩ := trodAll_cons r1
  obtain ⟨v3, vs3, d3, ds3, p3, q3, rfl, rfl, rfl, h3, r3⟩ := trodAll_cons r2
  obtain ⟨rfl, rfl, rfl⟩ := trodAll_nil r3
  obtain rfl : args = #[v0, v1, v2, v3] := by cases args; simp_all
  obtain ⟨bs, nj, cap, rr, rfl, hrr, hat⟩ := open_bytes ul22 ul5 cells5 (hval 0 22 v0 rfl rfl) h0
  obtain ⟨hc, hs, hcn⟩ := slice_facts ul22 (hval 0 22 _ rfl rfl)
  obtain ⟨x, rfl⟩ := open_int ul3 (hval 1 3 v1 rfl rfl)
  obtain ⟨y, rfl⟩ := open_int ul3 (hval 2 3 v2 rfl rfl)
  obtain ⟨z, rfl⟩ := open_int ul3 (hval 3 3 v3 rfl rfl)
  obtain ⟨M, last, o, w', t', r1, r2, r3, v, ho, ⟨hv, e1, e2, e3, e4, e5⟩, g2, g3, g4, g5⟩ := law_runs (W := W) (if 300 < nj then 1 else 5) (g0 := Conc.G (Frame.enter Try.prog 4 #[.slice bs nj cap, .int .i64 x, .int .i64 y, .int .i64 z] .normal) []) rfl fun E N hf hP hfin =>
    same4 (rr := rr) hf hP hfin (Nat.le_refl _) ⟨Nat.le_refl _, fun b hb => ⟨hb, rfl⟩⟩ ⟨hat, hrr, by decide⟩ hc hs hcn
  refine ⟨M, last, o, w', t', r1, r2, r3, v, ho, ⟨?_, e3⟩, g2, g3, g4, g5⟩
  rw [hv]
  refine leaving_post (t := 4) (s := Rows.countsSameSpec) rfl (fun l hl => ?_) rfl ul4 laid (by kernel_rfl) hW0 ⟨rfl, e1, e2, e4, e5⟩
  match l, hl with
  | [_, _, _, _], _ => exact ⟨rfl, rfl, rfl⟩
theorem same_holds : Rows.CountsSameSaid :=
  OpenClaim.holds_of_wide_leaving_time 4 Try.f4 rfl rfl rfl rfl rfl rfl rfl ⟨rfl, rfl, rfl, rfl, rfl⟩ rfl rfl rfl rfl rfl (by kernel_rfl) Try.func4 (by kernel_rfl)
    (of_decide_eq_true (by kernel_rfl)) (by unfold Func.isWrapper; first | (rw [if_pos (by decide +kernel)]; kernel_rfl) | (rw [if_neg (by decide +kernel)]; exact ⟨rfl, rfl⟩))
    (fun os started H enc _ F => same_lifted os started H enc F)
end Go.Proofs.Ytcikailibheakaa

#print axioms Go.Proofs.Ytcikailibheakaa.same_holds
