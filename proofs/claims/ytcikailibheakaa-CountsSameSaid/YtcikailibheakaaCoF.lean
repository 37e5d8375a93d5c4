/- A theory of many goroutines that count at once (a channel, a wait group, once, a mutex), the walks of the program's functions in it, and the law CountsSame of the seat, proved out of them. No condition beyond those that stand in each statement. -/
import Derived.Test.YtcikailibheakaaCoE
import Derived.Conc.Own2
import Derived.Conc.TokenWalk
namespace Go.Co
open Go Go.Conc
theorem QR.born {P : Program} {n : Nat} {env : Nv} {f : FuncId} {nt : Nat} {c : Code} (hb : Bod P f nt c #[]) : QR P 0 (baseD f) n env [] [birth P] := fun a todo ha hds => by
  obtain ⟨fn, f1, _, _, _, f5⟩ := hb.out
  refine Qt.ctl rfl (fun w => stepG_leaveBorn (b := baseD f) rfl hds f1 (results_none f5 _ _ _) (events_results_none f5 _ _)) ?_
  exact Qt.ctl rfl (fun w => stepG_bornEnd) (Qt.done rfl)
theorem Tr.born {E : Geo} {P : Program} {N i : Nat} {l : Lo} {w : World} (hP : E.P = P) (hf : E.FinV) (hch : l.ch = .no) (hi0 : i ≠ 0) {f : FuncId} {nt : Nat} {c : Code} {cap : Array Value} (hb : Bod P f nt c #[]) (ha : cap.size ≤ nt)
    (h : Tk E N i l w (baseD f) nt (argsEnv cap.toList 0) [] [.code c] [birth P]) : Tr E N i l (Conc.born P { target := .fn (.func f) cap, args := #[] }) w := by
  obtain ⟨fn, f1, f2, f3, f4, _⟩ := hb.out
  refine Tr.still hf ⟨rfl, rfl, rfl⟩ (g' := Conc.G ((baseD f).at { tmps := #[] ++ cap ++ Array.replicate (fn.ntmps - (#[] ++ cap).size) undef, defers := [] } [.code c]) [birth P]) rfl hch (fun w₁ _ => ?_) ?_
  · have : (i == 0) = false := by simpa using hi0
    rw [this, hP]
    exact stepG_born f1 f2 f3
  · have e : (#[] ++ cap : Array Value) = cap := by simp
    rw [e, f4]
    exact h _ (has_args ha) rfl
end Go.Co
namespace Go.Co.F1
open Go Go.Conc Go.Proofs
open Go.Co
open Go.ConcN (upd upd_ne upd_same)
variable {E : Geo} {N i : Nat} {l : Lo} {w : World}
set_option maxRecDepth 10000
structure TG (E : Geo) (C H B : Nat) : Prop where
  cg : CG E C H (.chan (some E.c))
  wg : WgAt E B
  hC : E.hasC = true
  nj : E.nj < 4611686018427387904
  jv : ∀ q, ∃ r : Nat, E.jv q = .int .u8 r ∧ E.rs q = if 0 < r ∧ r < 19 then some r else none
theorem done20 {B : Nat} (hf : E.FinV) (hP : E.P = Try.prog) (O : WgAt E B) (hi0 : i ≠ 0) (A : Near E l) (hgr : l.gr = .out) (hmr : l.mr = none) (hrel : l.rel = none) (hdf : l.deaf = 0) {fr : Frame} {cs : List Frame} (hm : fr.mode = .returning)
    (hq : Qt Try.prog 0 (Conc.G fr cs)) : Tk E N i l w (baseD 20) 4 (argsEnv [.pointer (some ⟨B, 0, none⟩)] 0) [] [.code c20] (fr :: cs) := by
  have W : WkP Try.prog E l (baseD 20) := ⟨⟨hf, A.ch, by decide⟩, hP⟩
  (repeat (first | refine TkO.done W (by rfl) ?_ | refine TkO.unwantedS W (by rfl) (by rfl) (by rfl) (by rfl) ?_ | refine TkO.pureS W (by rfl) (by rfl) (by rfl) (by rfl) (by first | exact pure_move (.inl rfl) rfl | exact pure_move (.inr rfl) rfl | exact pure_nilCheck rfl rfl | exact pure_field rfl rfl (by rfl) rfl (by decide +kernel) | exact pure_int rfl rfl rfl rfl | exact pure_not rfl rfl | exact pure_pickT rfl rfl rfl | exact pure_pickF rfl rfl rfl | exact pure_shift rfl rfl rfl rfl | exact pure_eqlNil rfl rfl rfl (by rfl) | exact pure_conv rfl rfl (by rfl) (by rfl)) ?_ | refine Tk.seq (WkP.wk W) ?_ | refine Tk.reg W ?_ | refine Tk.skip (WkP.wk W) ?_ | refine Tk.block (WkP.wk W) ?_ | refine Tk.condT (WkP.wk W) rfl ?_ | refine Tk.condF (WkP.wk W) rfl ?_ | refine Tk.exit (WkP.wk W) rfl ?_ | refine Tk.label (WkP.wk W) ?_))
  refine TkO.callQ W (by rfl) (by rfl) (by rfl) (by rfl) (by rfl) b18 rfl fun fr1 _ hq1 => ?_
  refine add18N hf hP O hi0 A hgr hmr hrel hdf (hq1 0 _ ?_)
  (repeat (first | refine QO.done (by rfl) ?_ | refine QO.unwantedS (by rfl) (by rfl) (by rfl) (by rfl) ?_ | refine QO.pureS (by decide) (by rfl) (by rfl) (by rfl) (by rfl) (by first | exact pure_move (.inl rfl) rfl | exact pure_move (.inr rfl) rfl | exact pure_nilCheck rfl rfl | exact pure_field rfl rfl (by rfl) rfl (by decide +kernel) | exact pure_int rfl rfl rfl rfl | exact pure_not rfl rfl | exact pure_pickT rfl rfl rfl | exact pure_pickF rfl rfl rfl | exact pure_shift rfl rfl rfl rfl | exact pure_eqlNil rfl rfl rfl (by rfl) | exact pure_conv rfl rfl (by rfl) (by rfl)) ?_ | refine Qk.seq ?_ | refine Qk.reg ?_ | refine Qk.skip ?_ | refine Qk.block ?_ | refine Qk.inBlock ?_ | refine Qk.inLoop ?_ | refine Qk.loop ?_ | refine Qk.condT rfl ?_ | refine Qk.condF rfl ?_ | refine Qk.exit rfl ?_))
  exact Qk.fall (QR.leaveD b20 hm hq)
noncomputable def c19 : Code := (Try.f19.body).getD .skip
theorem b19 : Bod Try.prog 19 10 c19 #[] := ⟨Try.f19, Try.func19, by decide +kernel, rfl, rfl, rfl⟩
theorem q19 : (Try.prog.funcs[19]?).any (·.norace) = false := by decide +kernel
structure Idle (E : Geo) (i : Nat) (l : Lo) : Prop where
  lk : Lk E i 0 l none
  deaf : l.deaf = 0
  job : ∀ j, l.job = some j → E.rs j = none
set_option maxHeartbeats 4000000 in
theorem worker {C H B : Nat} (T : TG E C H B) (A : Idle E i l) : Tr E N i l (Conc.born Try.prog { target := .fn (.func 19) #[ptr B 0, ptr H 0, ptr C 0], args := #[] }) w := by
  have hP := T.cg.P
  have hf := T.cg.fin
  refine Tr.born hP hf A.lk.ch A.lk.i0 b19 (Nat.le_of_ble_eq_true rfl) ?_
  have W : WkP Try.prog E l (baseD 19) := ⟨⟨hf, A.lk.ch, by decide⟩, hP⟩
  (repeat (first | refine TkO.done W (by rfl) ?_ | refine TkO.unwantedS W (by rfl) (by rfl) (by rfl) (by rfl) ?_ | refine TkO.pureS W (by rfl) (by rfl) (by rfl) (by rfl) (by first | exact pure_move (.inl rfl) rfl | exact pure_move (.inr rfl) rfl | exact pure_nilCheck rfl rfl | exact pure_field rfl rfl (by rfl) rfl (by decide +kernel) | exact pure_int rfl rfl rfl rfl | exact pure_not rfl rfl | exact pure_pickT rfl rfl rfl | exact pure_pickF rfl rfl rfl | exact pure_shift rfl rfl rfl rfl | exact pure_eqlNil rfl rfl rfl (by rfl) | exact pure_conv rfl rfl (by rfl) (by rfl)) ?_ | refine Tk.seq (WkP.wk W) ?_ | refine Tk.reg W ?_ | refine Tk.skip (WkP.wk W) ?_ | refine Tk.block (WkP.wk W) ?_ | refine Tk.condT (WkP.wk W) rfl ?_ | refine Tk.condF (WkP.wk W) rfl ?_ | refine Tk.exit (WkP.wk W) rfl ?_ | refine Tk.label (WkP.wk W) ?_))
  refine TkO.defer W (by rfl) (by rfl) (by rfl) (by rfl) rfl ?_
  refine TkO.lay (rfl : Nv.put _ _ _ = _) ?_
  (repeat (first | refine TkO.done W (by rfl) ?_ | refine TkO.unwantedS W (by rfl) (by rfl) (by rfl) (by rfl) ?_ | refine TkO.pureS W (by rfl) (by rfl) (by rfl) (by rfl) (by first | exact pure_move (.inl rfl) rfl | exact pure_move (.inr rfl) rfl | exact pure_nilCheck rfl rfl | exact pure_field rfl rfl (by rfl) rfl (by decide +kernel) | exact pure_int rfl rfl rfl rfl | exact pure_not rfl rfl | exact pure_pickT rfl rfl rfl | exact pure_pickF rfl rfl rfl | exact pure_shift rfl rfl rfl rfl | exact pure_eqlNil rfl rfl rfl (by rfl) | exact pure_conv rfl rfl (by rfl) (by rfl)) ?_ | refine Tk.seq (WkP.wk W) ?_ | refine Tk.reg W ?_ | refine Tk.skip (WkP.wk W) ?_ | refine Tk.block (WkP.wk W) ?_ | refine Tk.condT (WkP.wk W) rfl ?_ | refine Tk.condF (WkP.wk W) rfl ?_ | refine Tk.exit (WkP.wk W) rfl ?_ | refine Tk.label (WkP.wk W) ?_))
  refine TkO.gload W (ad := adr H 0) q19 A.lk.live A.lk.rel (by rfl) (by rfl) (by rfl) (by rfl) (by rfl) (by rfl) (by rfl) fun G w₂ u hg hact hlo hv => ?_
  have hm := hg.more
  rw [T.cg.app] at hm
  refine ⟨_, _, hm.1.2, .inl rfl, ?_⟩
  have A1 : Idle E i { l with kn := fun x => if x = adr H 0 then some (.chan (some E.c)) else l.kn x } := ⟨⟨A.lk.i0, A.lk.kK, A.lk.live, A.lk.mr, A.lk.ch, A.lk.gr, A.lk.rel, A.lk.run⟩, A.deaf, A.job⟩
  generalize ({ l with kn := fun x => if x = adr H 0 then some (.chan (some E.c)) else l.kn x } : Lo) = l1 at A1
  have W1 : WkP Try.prog E l1 (baseD 19) := ⟨⟨hf, A1.lk.ch, by decide⟩, hP⟩
  (repeat (first | refine TkO.done W1 (by rfl) ?_ | refine TkO.unwantedS W1 (by rfl) (by rfl) (by rfl) (by rfl) ?_ | refine TkO.pureS W1 (by rfl) (by rfl) (by rfl) (by rfl) (by first | exact pure_move (.inl rfl) rfl | exact pure_move (.inr rfl) rfl | exact pure_nilCheck rfl rfl | exact pure_field rfl rfl (by rfl) rfl (by decide +kernel) | exact pure_int rfl rfl rfl rfl | exact pure_not rfl rfl | exact pure_pickT rfl rfl rfl | exact pure_pickF rfl rfl rfl | exact pure_shift rfl rfl rfl rfl | exact pure_eqlNil rfl rfl rfl (by rfl) | exact pure_conv rfl rfl (by rfl) (by rfl)) ?_ | refine Tk.seq (WkP.wk W1) ?_ | refine Tk.reg W1 ?_ | refine Tk.skip (WkP.wk W1) ?_ | refine Tk.block (WkP.wk W1) ?_ | refine Tk.condT (WkP.wk W1) rfl ?_ | refine Tk.condF (WkP.wk W1) rfl ?_ | refine Tk.exit (WkP.wk W1) rfl ?_ | refine Tk.label (WkP.wk W1) ?_))
  refine Tk.loop W1.wk ?_
  refine Tk.cut fun K hK => ?_
  have HH : ∀ N l w, Idle E i l → Tk E N i l w (baseD 19) 10 [(0, ptr B 0), (1, ptr H 0), (2, ptr C 0), (4, .chan (some E.c))] [dcall 20 #[ptr B 0]] K [birth Try.prog] := by
    intro N
    induction N using Nat.strongRecOn with
    | ind N ihN =>
    intro l w A
    have W : WkP Try.prog E l (baseD 19) := ⟨⟨hf, A.lk.ch, by decide⟩, hP⟩
    rw [hK]
    refine Tk.seq W.wk ?_
    refine TkO.recv W A.lk.i0 T.hC A.job A.lk.mr A.lk.gr A.lk.live (z := .int .u8 0) (d := 5) (by rfl) (by rfl) (by rfl) (by rfl) (by rfl) (by rfl) (by rfl) (by rfl) (by rfl) (fun N' hN w' q hv => ?_) (fun w' hv => ?_)
    · obtain ⟨r, hr1, hr2⟩ := T.jv q
      rw [hr1]
      have W2 : WkP Try.prog E { l with ch := .no, job := some q } (baseD 19) := ⟨⟨hf, rfl, by decide⟩, hP⟩
      refine TkO.pureS W2 (by rfl) (by rfl) (by rfl) (by rfl) (pure_extract rfl rfl rfl) ?_
      (repeat (first | refine TkO.done W2 (by rfl) ?_ | refine TkO.unwantedS W2 (by rfl) (by rfl) (by rfl) (by rfl) ?_ | refine TkO.pureS W2 (by rfl) (by rfl) (by rfl) (by rfl) (by first | exact pure_move (.inl rfl) rfl | exact pure_move (.inr rfl) rfl | exact pure_nilCheck rfl rfl | exact pure_field rfl rfl (by rfl) rfl (by decide +kernel) | exact pure_int rfl rfl rfl rfl | exact pure_not rfl rfl | exact pure_pickT rfl rfl rfl | exact pure_pickF rfl rfl rfl | exact pure_shift rfl rfl rfl rfl | exact pure_eqlNil rfl rfl rfl (by rfl) | exact pure_conv rfl rfl (by rfl) (by rfl)) ?_ | refine Tk.seq (WkP.wk W2) ?_ | refine Tk.reg W2 ?_ | refine Tk.skip (WkP.wk W2) ?_ | refine Tk.block (WkP.wk W2) ?_ | refine Tk.condT (WkP.wk W2) rfl ?_ | refine Tk.condF (WkP.wk W2) rfl ?_ | refine Tk.exit (WkP.wk W2) rfl ?_ | refine Tk.label (WkP.wk W2) ?_))
      refine TkO.pureS W2 (by rfl) (by rfl) (by rfl) (by rfl) (pure_extract rfl rfl rfl) ?_
      (repeat (first | refine TkO.done W2 (by rfl) ?_ | refine TkO.unwantedS W2 (by rfl) (by rfl) (by rfl) (by rfl) ?_ | refine TkO.pureS W2 (by rfl) (by rfl) (by rfl) (by rfl) (by first | exact pure_move (.inl rfl) rfl | exact pure_move (.inr rfl) rfl | exact pure_nilCheck rfl rfl | exact pure_field rfl rfl (by rfl) rfl (by decide +kernel) | exact pure_int rfl rfl rfl rfl | exact pure_not rfl rfl | exact pure_pickT rfl rfl rfl | exact pure_pickF rfl rfl rfl | exact pure_shift rfl rfl rfl rfl | exact pure_eqlNil rfl rfl rfl (by rfl) | exact pure_conv rfl rfl (by rfl) (by rfl)) ?_ | refine Tk.seq (WkP.wk W2) ?_ | refine Tk.reg W2 ?_ | refine Tk.skip (WkP.wk W2) ?_ | refine Tk.block (WkP.wk W2) ?_ | refine Tk.condT (WkP.wk W2) rfl ?_ | refine Tk.condF (WkP.wk W2) rfl ?_ | refine Tk.exit (WkP.wk W2) rfl ?_ | refine Tk.label (WkP.wk W2) ?_))
      refine TkO.call W2 (by rfl) (by rfl) (by rfl) (by rfl) b7 rfl fun fr1 hk1 => ?_
      refine add7 (l := { l with ch := .no, job := some q }) T.cg T.nj ⟨A.lk.i0, A.lk.kK, A.lk.live, A.lk.mr, rfl, A.lk.gr, A.lk.rel, A.lk.run⟩ A.deaf (j := q) rfl hr2 fun l2 w2 v F => hk1 _ _ _ (TkO.lay (rfl : Nv.put _ _ _ = (_, _) :: _) ?_)
      have W3 : WkP Try.prog E l2 (baseD 19) := ⟨⟨hf, F.lk.ch, by decide⟩, hP⟩
      (repeat (first | refine TkO.done W3 (by rfl) ?_ | refine TkO.unwantedS W3 (by rfl) (by rfl) (by rfl) (by rfl) ?_ | refine TkO.pureS W3 (by rfl) (by rfl) (by rfl) (by rfl) (by first | exact pure_move (.inl rfl) rfl | exact pure_move (.inr rfl) rfl | exact pure_nilCheck rfl rfl | exact pure_field rfl rfl (by rfl) rfl (by decide +kernel) | exact pure_int rfl rfl rfl rfl | exact pure_not rfl rfl | exact pure_pickT rfl rfl rfl | exact pure_pickF rfl rfl rfl | exact pure_shift rfl rfl rfl rfl | exact pure_eqlNil rfl rfl rfl (by rfl) | exact pure_conv rfl rfl (by rfl) (by rfl)) ?_ | refine Tk.seq (WkP.wk W3) ?_ | refine Tk.reg W3 ?_ | refine Tk.skip (WkP.wk W3) ?_ | refine Tk.block (WkP.wk W3) ?_ | refine Tk.condT (WkP.wk W3) rfl ?_ | refine Tk.condF (WkP.wk W3) rfl ?_ | refine Tk.exit (WkP.wk W3) rfl ?_ | refine Tk.label (WkP.wk W3) ?_))
      refine Tk.inBlock W3.wk ?_
      refine Tk.inLoop W3.wk ?_
      rw [← hK]
      exact Tk.sub (ihN N' (by omega) l2 w2 ⟨F.lk, F.deaf, F.job⟩) (AllGet.sub ⟨rfl, rfl, rfl, rfl, trivial⟩)
    · have W2 : WkP Try.prog E { l with ch := .no, sc := true } (baseD 19) := ⟨⟨hf, rfl, by decide⟩, hP⟩
      refine TkO.pureS W2 (by rfl) (by rfl) (by rfl) (by rfl) (pure_extract rfl rfl rfl) ?_
      (repeat (first | refine TkO.done W2 (by rfl) ?_ | refine TkO.unwantedS W2 (by rfl) (by rfl) (by rfl) (by rfl) ?_ | refine TkO.pureS W2 (by rfl) (by rfl) (by rfl) (by rfl) (by first | exact pure_move (.inl rfl) rfl | exact pure_move (.inr rfl) rfl | exact pure_nilCheck rfl rfl | exact pure_field rfl rfl (by rfl) rfl (by decide +kernel) | exact pure_int rfl rfl rfl rfl | exact pure_not rfl rfl | exact pure_pickT rfl rfl rfl | exact pure_pickF rfl rfl rfl | exact pure_shift rfl rfl rfl rfl | exact pure_eqlNil rfl rfl rfl (by rfl) | exact pure_conv rfl rfl (by rfl) (by rfl)) ?_ | refine Tk.seq (WkP.wk W2) ?_ | refine Tk.reg W2 ?_ | refine Tk.skip (WkP.wk W2) ?_ | refine Tk.block (WkP.wk W2) ?_ | refine Tk.condT (WkP.wk W2) rfl ?_ | refine Tk.condF (WkP.wk W2) rfl ?_ | refine Tk.exit (WkP.wk W2) rfl ?_ | refine Tk.label (WkP.wk W2) ?_))
      refine Tk.fall W2.wk (TkR.callQ W2.wk (hP ▸ b20) (Nat.le_of_ble_eq_true rfl) fun fr hm hk hq => ?_)
      refine done20 (l := { l with ch := .no, sc := true }) hf hP T.wg A.lk.i0 ⟨A.lk.live, rfl, fun _ => rfl, A.job⟩ A.lk.gr A.lk.mr A.lk.rel A.deaf hm (hP ▸ hq 0 ?_)
      rw [hP]
      exact QR.born b19
  exact Tk.sub (HH N l1 w₂ A1) (AllGet.sub ⟨rfl, rfl, rfl, rfl, trivial⟩)
end Go.Co.F1

namespace Go.Co
open Go Go.Conc
open Go.ConcN (upd upd_ne upd_same)
variable {E : Geo} {N i : Nat} {l : Lo} {w : World}
section
variable {P : Program} {b : Frame} {n : Nat} {env : Nv} {ds : List Deferred} {k : List Item} {cs : List Frame} {ops : Array Oper} {j : Nat} {o : Oper} {f : FuncId} {ats : Array TypeId}
theorem run_go_fn {P : Program} {a : Act} {w : World} {o : Oper} {x : Operand} {cap : Array Value} (hop : o.op = .go { callee := .value x, args := #[], argTypes := #[] }) (hx : a.eval x = .func (.func f) #[] cap) :
    (execOp a.eval o).run P w = .ok (.spawn { target := .fn (.func f) cap, args := #[] }) w ∧ (execOp a.eval o).events P w #[] = #[] := by
  unfold execOp
  simp [hop, resolve, Deferred.ofValue, hx]
theorem TkO.go (W : WkP P E l b) (hlive : l.live = true) {x : Operand} {cap : Array Value} {lf ps : Nat} {c : Bool} (hme : l.me = ⟨lf + 1, 1, ps, c⟩) (hgr : l.gr = .out) (hdf : l.deaf = 0) (hK : E.K ≤ 8)
    (ho : ops[j]? = some o) (hw : wantE ops env o = some true) (hdd : o.dst = none) (hop : o.op = .go { callee := .value x, args := #[], argTypes := #[] }) (hx : env.ev x = some (.func (.func f) #[] cap))
    (h0 : ∀ N', N = N' + 1 → ∀ w', View l.own w w' → TkO E N' 0 { l with me := ⟨lf, 0, ps, c⟩ } w' b n env ds ops (j + 1) k cs)
    (h1 : ∀ N', N = N' + 1 → ∀ w' i', i' ≠ 0 → Tr E N' i' (Lo.new (fun _ => False) none) (born P { target := .fn (.func f) cap, args := #[] }) w') :
    TkO E N 0 l w b n env ds ops j k cs := by
  refine TkO.open ho fun a ha hds => ?_
  refine Pro.Lv.fold ⟨runs_G _ _, .inr (.inr (.inl ⟨W.wk.ch, fun G w₁ t hg hact hlo hv => .inr (.inr ⟨rfl, ?_⟩)⟩))⟩
  have hlo : G.th 0 = l := hlo
  have hg : GI E G w₁ t := hg
  obtain ⟨r1, r2⟩ := run_go_fn (P := P) (w := w₁) hop (ha.ev hx)
  have hput : a.put o.dst undef = a := by rw [hdd]; rfl
  refine ⟨Conc.G (b.at (a.put o.dst undef) (.inRegion ops (List.range' (j + 1) (ops.size - (j + 1))) :: k)) cs, born P { target := .fn (.func f) cap, args := #[] }, w₁, #[], ?_, fun fn2 => ?_⟩
  · show stepG E.P true _ w₁ = _
    rw [W.hP, stepG_spawn ho (ha.want hw) W.wk.kind r1 rfl]
    unfold listed
    rw [r2, seen_none]
  · obtain ⟨s1, s2, s3, s4, s5, s6, s7⟩ := hg.spawn (PB := fun _ => False) ((Conc.G (b.at a (.inRegion ops (j :: List.range' (j + 1) (ops.size - (j + 1))) :: k)) cs).frame.fn) fn2 ((Conc.G (b.at a (.inRegion ops (j :: List.range' (j + 1) (ops.size - (j + 1))) :: k)) cs).frame.place) false (by rw [hlo]; exact hme) (by rw [hlo]; exact hgr) (by rw [hlo]; exact W.wk.ch) (by rw [hlo]; exact hdf) hK (fun b hb => hb.elim) (fun e => by cases e)
    have hn0 : (0 : Nat) ≠ G.n := by have := hg.a.pos0; omega
    have e3 : (G.spawn (fun _ => False) false).th 0 = { l with me := ⟨lf, 0, ps, c⟩ } := by
      rw [s3, hlo]
      unfold Lo.started
      have : (fun b => l.own b ∧ ¬ (fun _ : Nat => False) b) = l.own := by funext b; simp
      rw [this]; rfl
    have e4 : (G.spawn (fun _ => False) false).th G.n = Lo.new (fun _ => False) none := s4
    refine ⟨G.spawn (fun _ => False) false, by (rw [show t ++ MemOp.ofEvents 0 _ _ #[] = t from by simp [MemOp.ofEvents]]; exact s1), rfl, ?_, ?_, s2, fun j hj hjn => ⟨s5 j hj hjn, ?_, fun _ => View.refl _ _⟩, s6, rfl, ?_, ?_⟩
    · show ((G.spawn (fun _ => False) false).th 0).live = true
      rw [e3]; exact hlive
    · show ((G.spawn (fun _ => False) false).th G.n).live = true
      rw [e4]; rfl
    · show ((G.spawn (fun _ => False) false).th j).live = true ↔ (G.th j).live = true
      rw [s5 j hj hjn]
    · show E.pro.Lv N 0 ((G.spawn (fun _ => False) false).th 0, _, w₁)
      rw [e3]
      cases N with
      | zero => trivial
      | succ N' =>
        rw [hput]
        exact h0 N' rfl w₁ hv a ha hds
    · show E.pro.Lv N G.n ((G.spawn (fun _ => False) false).th G.n, _, w₁)
      rw [e4]
      cases N with
      | zero => trivial
      | succ N' => exact h1 N' rfl w₁ G.n (Ne.symm hn0)
theorem TkO.moveSend (W : WkP P E l b) (hC : E.hasC = true) (hlive : l.live = true) {ps : Nat} (hme : l.me = ⟨0, 0, ps, false⟩) (hps : ps < E.nj) (hgr : l.gr = .out) {o2 : Oper} {v : Value} {d : Nat} {x y : Operand}
    (ho : ops[j]? = some o) (hw : wantE ops env o = some true) (hdd : o.dst = some d) (hd : Nat.blt d n = true) (hp : PureOp P env o v)
    (ho2 : ops[j + 1]? = some o2) (hw2 : wantE ops ((d, v) :: env) o2 = some true) (hd2 : o2.dst = none) (hop : o2.op = .send x y) (hx : Nv.ev ((d, v) :: env) x = some (.chan (some E.c))) (hy : Nv.ev ((d, v) :: env) y = some (E.jv ps))
    (h : ∀ N', N = N' + 1 → ∀ w', View l.own w w' → TkO E N' 0 { l with me := ⟨0, 0, ps + 1, false⟩ } w' b n ((d, v) :: env) ds ops (j + 2) k cs) :
    TkO E N 0 l w b n env ds ops j k cs := by
  refine TkO.open ho fun a ha hds => ?_
  have hput : Has n ((d, v) :: env) (a.put o.dst v) ∧ (a.put o.dst v).defers = ds := by
    have := ha.put (d := o.dst) (by rw [hdd]; exact hd) v
    rw [hdd] at this ⊢
    exact ⟨this, hds⟩
  have hlt := (Array.getElem?_eq_some_iff.1 ho2).1
  have er : List.range' (j + 1) (ops.size - (j + 1)) = (j + 1) :: List.range' (j + 2) (ops.size - (j + 2)) := by
    rw [show ops.size - (j + 1) = (ops.size - (j + 2)) + 1 by omega, List.range'_succ]
  rw [er]
  refine Tr.stop (runs_G _ _) W.wk.ch fun G w₁ u hg hact hlo hv => ?_
  refine ⟨Conc.G (b.at (a.put o.dst v) (.inRegion ops ((j + 1) :: List.range' (j + 2) (ops.size - (j + 2))) :: k)) cs, w₁, #[], l.to (.send (E.jv ps)), false, ?_, rfl, fun fn pos => ?_, ?_⟩
  · obtain ⟨h1, h2⟩ := hp n a ha w₁
    rw [W.hP, stepG_value ho (ha.want hw) W.wk.kind h1]
    unfold listed
    rw [h2, seen_none]
  · obtain ⟨G', dd, c⟩ := hg.toSend hC (by rw [hlo]; exact hme) hps (by rw [hlo]; exact hgr)
    rw [hlo] at dd
    exact ⟨G', by simpa [MemOp.ofEvents] using dd, .inr c, hlive, fun e => by cases e⟩
  · show Tr E N 0 (l.to (.send (E.jv ps))) _ w₁
    have hfin : ∀ u, (Conc.served (Conc.G (b.at (a.put o.dst v) (.inRegion ops ((j + 1) :: List.range' (j + 2) (ops.size - (j + 2))) :: k)) cs) u) = Conc.G (b.at (a.put o.dst v) (.inRegion ops (List.range' (j + 2) (ops.size - (j + 2))) :: k)) cs := fun u => by
      unfold Conc.served
      show ({ (Conc.G _ cs) with frame := Frame.finish _ u, status := .running, offers := none } : Goroutine) = _
      rw [show (Conc.G (b.at (a.put o.dst v) (.inRegion ops ((j + 1) :: List.range' (j + 2) (ops.size - (j + 2))) :: k)) cs).frame = b.at (a.put o.dst v) (.inRegion ops ((j + 1) :: List.range' (j + 2) (ops.size - (j + 2))) :: k) from rfl, Frame.finish_at, ho2]
      simp only [Option.bind_some, hd2]
      rfl
    refine Pro.Lv.fold ⟨runs_G _ _, .inr (.inr (.inr (.inr ⟨rfl, E.jv ps, rfl, fun w₂ hv2 => ⟨.tuple #[], ?_, fun l' hl => ?_⟩⟩)))⟩
    · show stepG E.P true _ w₂ = _
      rw [W.hP]
      exact send_step ho2 hw2 W.wk.kind hop hput.1 hx hy w₂
    · have hl : l' = { (l.to (.send (E.jv ps))) with ch := .no, me := { (l.to (.send (E.jv ps))).me with pos := (l.to (.send (E.jv ps))).me.pos + 1 } } := hl
      have hl2 : l' = { l with me := ⟨0, 0, ps + 1, false⟩ } := by
        rw [hl]
        have hc := W.wk.ch
        rw [show ({ l with me := ⟨0, 0, ps + 1, false⟩ } : Lo) = { l with ch := l.ch, me := ⟨0, 0, ps + 1, false⟩ } from rfl, hc]
        unfold Lo.to
        rw [hme]
      subst hl2
      rw [hfin]
      cases N with
      | zero => trivial
      | succ N' => exact h N' rfl w₂ (hv.trans hv2) _ hput.1 hput.2
end
end Go.Co
namespace Go.Co
open Go Go.Conc
open Go.ConcN (upd upd_ne upd_same)
variable {E : Geo} {N i : Nat} {l : Lo} {w : World}
section
variable {P : Program} {b : Frame} {n : Nat} {env : Nv} {ds : List Deferred} {k : List Item} {cs : List Frame} {ops : Array Oper} {j : Nat} {o : Oper} {f : FuncId} {ats : Array TypeId}
theorem mayWake_close {a : Act} {rest : List Nat} {xs : Array Operand} (ho : ops[j]? = some o) (hop : o.op = .call { callee := .builtin .close, args := xs, argTypes := ats }) : mayWake P (Conc.G (b.at a (.inRegion ops (j :: rest) :: k)) cs) = true := by
  simp [mayWake, Conc.G, Frame.at, ho, hop]
theorem TkO.close (W : WkP P E l b) (hC : E.hasC = true) (hlive : l.live = true) (hme : l.me = ⟨0, 0, E.nj, false⟩) (hrel : l.rel = none) {x : Operand} (hq : (P.funcs[b.fn]?).any (·.norace) = false)
    (ho : ops[j]? = some o) (hw : wantE ops env o = some true) (hdd : o.dst = none) (hop : o.op = .call { callee := .builtin .close, args := #[x], argTypes := ats }) (hx : env.ev x = some (.chan (some E.c)))
    (h : ∀ w', View l.own w w' → TkO E N 0 { l with me := ⟨0, 0, E.nj, true⟩ } w' b n env ds ops (j + 1) k cs) : TkO E N 0 l w b n env ds ops j k cs := by
  refine TkO.open ho (Tk.stop W.wk ho (by rw [hdd]; rfl) fun G w₁ t hg hact hlo hv => ?_)
  have H := fun fn pos => hg.close fn pos hC (by rw [hlo]; exact hme) rfl (by rw [hlo]; exact W.wk.ch) (by rw [hlo]; exact hrel)
  obtain ⟨s, r, hc, _⟩ := H 0 ""
  refine ⟨.tuple #[], { w₁ with heap := w₁.heap.setIfInBounds E.c (.chan 0 #[] true s r false) }, #[⟨.obj E.c, false, true⟩, ⟨.obj E.c, true, true⟩], { l with me := ⟨0, 0, E.nj, true⟩ }, false, fun a ha hds => ⟨?_, fun fn pos => ?_⟩, TkL.same (by
    rw [hdd]
    refine h _ (hv.trans ⟨by simp, fun b hb => ?_⟩)
    have hne : E.c ≠ b := fun e => (hg.s.nsh 0 b hact (by rw [hlo]; exact hb)).2.2.1 hC e.symm
    simp [hne])⟩
  · rw [W.hP]
    exact stepG_close ho (ha.want hw) W.wk.kind hop (ha.ev hx) hc hq
  · obtain ⟨s2, r2, hc2, G', d, pk⟩ := H fn pos
    rw [hc] at hc2
    cases hc2
    rw [hlo] at d
    exact ⟨G', d, .inl (mayWake_close ho hop), hlive, fun e => by cases e⟩
end
end Go.Co
namespace Go.Co
open Go Go.Conc
variable {E : Geo} {N i : Nat} {l : Lo} {w : World}
theorem Tr.le {N' : Nat} {g : Goroutine} (h : Tr E N i l g w) (hN : N' ≤ N) : Tr E N' i l g w := by
  obtain ⟨m, rfl⟩ : ∃ m, N = N' + m := ⟨N - N', by omega⟩
  induction m with
  | zero => exact h
  | succ m ih => exact ih (Tr.less h) (by omega)
section
variable {P : Program} {b : Frame} {n : Nat} {env : Nv} {ds : List Deferred} {k : List Item} {cs : List Frame} {ops : Array Oper} {j : Nat} {o : Oper} {f : FuncId} {ats : Array TypeId}
theorem TkO.callN (W : WkP P E l b) {xs : Array Operand} {vs : List Value} {nt : Nat} {c : Code} {rs : Array ResultVar} {dd : Nat} (ho : ops[j]? = some o) (hw : wantE ops env o = some true) (hdd : o.dst = some dd) (hd : Nat.blt dd n = true) (hop : o.op = .call { callee := .value (.func f), args := xs, argTypes := ats }) (hb : Bod P f nt c rs)
    (hx : evsA env xs.toList = some vs) (h : ∀ fr : Frame, (∀ N l' w' v, TkO E N i l' w' b n ((dd, v) :: env) ds ops (j + 1) k cs → Tr E N i l' (Conc.G (fr.finish v) cs) w') → Tr E N i l (Conc.G (Frame.enter P f vs.toArray .normal) (fr :: cs)) w) :
    TkO E N i l w b n env ds ops j k cs := by
  refine TkO.open ho ?_
  intro a ha hds
  obtain ⟨fn, f1, f2, f3, _⟩ := hb.out
  have hm : xs.map a.eval = vs.toArray := by
    apply Array.toList_inj.1
    simp only [Array.toList_map]
    exact ha.evsA hx
  have hfin : ∀ v, (b.at a (.inRegion ops (j :: List.range' (j + 1) (ops.size - (j + 1))) :: k)).finish v = b.at (a.put o.dst v) (.inRegion ops (List.range' (j + 1) (ops.size - (j + 1))) :: k) := fun v => by rw [Frame.finish_at, ho]; rfl
  have hput : ∀ v, Has n ((dd, v) :: env) (a.put o.dst v) ∧ (a.put o.dst v).defers = ds := fun v => by
    have := ha.put (d := o.dst) (by rw [hdd]; exact hd) v
    rw [hdd] at this ⊢
    exact ⟨this, hds⟩
  refine Tr.still W.wk.fin (runs_G _ _) (g' := Conc.G (Frame.enter P f vs.toArray .normal) (b.at a (.inRegion ops (j :: List.range' (j + 1) (ops.size - (j + 1))) :: k) :: cs)) rfl W.wk.ch (fun w₁ _ => ?_) (h _ (fun N l' w' v hk => ?_))
  · have hr := run_call_body (a := a) (P := P) (w := w₁) hop f1 f2 (by rw [f3]; rfl)
    rw [W.hP, stepG_enter ho (ha.want hw) W.wk.kind hr, hm]
    unfold listed
    rw [events_call_body hop f1 f2 (by rw [f3]; rfl), seen_none]
  · rw [hfin]; exact hk _ (hput v).1 (hput v).2
end
end Go.Co

namespace Go.Co.F1
open Go Go.Conc Go.Proofs
open Go.Co
open Go.ConcN (upd upd_ne upd_same)
variable {E : Geo} {N i : Nat} {l : Lo} {w : World}
set_option maxRecDepth 10000
noncomputable def c40 : Code := (Try.f40.body).getD .skip
theorem b40 : Bod Try.prog 40 13 c40 #[.tmp 6] := ⟨Try.f40, Try.func40, by decide +kernel, rfl, rfl, rfl⟩
noncomputable def c21 : Code := (Try.f21.body).getD .skip
theorem b21 : Bod Try.prog 21 84 c21 #[] := ⟨Try.f21, Try.func21, by decide +kernel, rfl, rfl, rfl⟩
theorem e49 : Ent Try.prog 49 (Extern.Atomic.casT (.int .u64)) := ⟨Try.f49, Try.func49, by decide +kernel, rfl, by rfl, by rfl⟩
theorem e33 : Ent Try.prog 33 (Extern.Race.marked .read) := ⟨Try.f33, Try.func33, by decide +kernel, rfl, by rfl, by rfl⟩
theorem e41 : Ent Try.prog 41 (Extern.Race.marked .write) := ⟨Try.f41, Try.func41, by decide +kernel, rfl, by rfl, by rfl⟩
theorem e42 : Ent Try.prog 42 Extern.Sync.semacquire := ⟨Try.f42, Try.func42, by decide +kernel, rfl, by rfl, by rfl⟩
theorem load34 {B : Nat} (hf : E.FinV) (hP : E.P = Try.prog) (O : WgAt E B) (hch : l.ch = .no) {fr : Frame} {cs : List Frame}
    (h : ∀ G w₁ t, GI E G w₁ t → (G.th i).live = true → G.th i = l → View l.own w w₁ → ∃ (v : Int) (l' : Lo), w₁.cell? (E.sc .wst) = some (.int .u64 v) ∧ Goes1 E i G w₁ w₁ t #[⟨.cell (E.sc .wst), false, true⟩] l' true false ∧ l'.ch = .no ∧ Tr E N i l' (Conc.G (fr.finish (.int .u64 v)) cs) w₁) :
    Tr E N i l (Conc.G (Frame.enter Try.prog 34 #[.pointer (some ⟨B, 0, none⟩)] .normal) (fr :: cs)) w := by
  have W : WkP Try.prog E l (base 34) := ⟨⟨hf, hch, by decide⟩, hP⟩
  refine Tr.enterP hP b34 (Nat.le_of_ble_eq_true rfl) ?_
  (repeat (first | refine TkO.done W (by rfl) ?_ | refine TkO.unwantedS W (by rfl) (by rfl) (by rfl) (by rfl) ?_ | refine TkO.pureS W (by rfl) (by rfl) (by rfl) (by rfl) (by first | exact pure_move (.inl rfl) rfl | exact pure_move (.inr rfl) rfl | exact pure_nilCheck rfl rfl | exact pure_field rfl rfl (by rfl) rfl (by decide +kernel) | exact pure_int rfl rfl rfl rfl | exact pure_not rfl rfl | exact pure_pickT rfl rfl rfl | exact pure_pickF rfl rfl rfl | exact pure_shift rfl rfl rfl rfl | exact pure_eqlNil rfl rfl rfl (by rfl) | exact pure_conv rfl rfl (by rfl) (by rfl)) ?_ | refine Tk.seq (WkP.wk W) ?_ | refine Tk.reg W ?_ | refine Tk.skip (WkP.wk W) ?_ | refine Tk.block (WkP.wk W) ?_ | refine Tk.condT (WkP.wk W) rfl ?_ | refine Tk.condF (WkP.wk W) rfl ?_ | refine Tk.exit (WkP.wk W) rfl ?_ | refine Tk.label (WkP.wk W) ?_))
  refine TkO.aload W (kk := .u64) (ad := E.sc .wst) (by rfl) (by rfl) (by rfl) (by rfl) e47 (by rw [O.t]; rfl) fun G w₁ t hg hact hlo hv => ?_
  obtain ⟨v, l', h1, h2, h3, h4⟩ := h G w₁ t hg hact hlo hv
  refine ⟨v, l', false, h1, h2, TkOL.same (TkO.lay (rfl : Nv.put _ _ _ = (_, _) :: _) ?_)⟩
  have W2 : WkP Try.prog E l' (base 34) := wkp W h3
  (repeat (first | refine TkO.done W2 (by rfl) ?_ | refine TkO.unwantedS W2 (by rfl) (by rfl) (by rfl) (by rfl) ?_ | refine TkO.pureS W2 (by rfl) (by rfl) (by rfl) (by rfl) (by first | exact pure_move (.inl rfl) rfl | exact pure_move (.inr rfl) rfl | exact pure_nilCheck rfl rfl | exact pure_field rfl rfl (by rfl) rfl (by decide +kernel) | exact pure_int rfl rfl rfl rfl | exact pure_not rfl rfl | exact pure_pickT rfl rfl rfl | exact pure_pickF rfl rfl rfl | exact pure_shift rfl rfl rfl rfl | exact pure_eqlNil rfl rfl rfl (by rfl) | exact pure_conv rfl rfl (by rfl) (by rfl)) ?_ | refine Tk.seq (WkP.wk W2) ?_ | refine Tk.reg W2 ?_ | refine Tk.skip (WkP.wk W2) ?_ | refine Tk.block (WkP.wk W2) ?_ | refine Tk.condT (WkP.wk W2) rfl ?_ | refine Tk.condF (WkP.wk W2) rfl ?_ | refine Tk.exit (WkP.wk W2) rfl ?_ | refine Tk.label (WkP.wk W2) ?_))
  exact Tk.ret W2.wk (TkR.leave1 W2.wk (hP ▸ b34) rfl h4)
theorem cas40 {B : Nat} {v0 v1 : Int} (hf : E.FinV) (hP : E.P = Try.prog) (O : WgAt E B) (hch : l.ch = .no) {fr : Frame} {cs : List Frame}
    (h : ∀ G w₁ t, GI E G w₁ t → (G.th i).live = true → G.th i = l → View l.own w w₁ → ∃ (v : Int) (l' : Lo) (lower : Bool), w₁.cell? (E.sc .wst) = some (.int .u64 v) ∧ w₁.frozen? (E.sc .wst) = false ∧ l'.ch = .no ∧
      ((v = v0 ∧ lower = false ∧ Goes1 E i G w₁ (w₁.setCell (E.sc .wst) (.int .u64 v1)) t (rw2 (E.sc .wst)) l' true lower ∧ Tr E N i l' (Conc.G (fr.finish (.bool true)) cs) (w₁.setCell (E.sc .wst) (.int .u64 v1))) ∨
       (v ≠ v0 ∧ lower = true ∧ Goes1 E i G w₁ w₁ t #[⟨.cell (E.sc .wst), false, true⟩] l' true lower ∧ ∀ N', N = N' + 1 → Tr E N' i l' (Conc.G (fr.finish (.bool false)) cs) w₁))) :
    Tr E N i l (Conc.G (Frame.enter Try.prog 40 #[.pointer (some ⟨B, 0, none⟩), .int .u64 v0, .int .u64 v1] .normal) (fr :: cs)) w := by
  have W : WkP Try.prog E l (base 40) := ⟨⟨hf, hch, by decide⟩, hP⟩
  refine Tr.enterP hP b40 (Nat.le_of_ble_eq_true rfl) ?_
  (repeat (first | refine TkO.done W (by rfl) ?_ | refine TkO.unwantedS W (by rfl) (by rfl) (by rfl) (by rfl) ?_ | refine TkO.pureS W (by rfl) (by rfl) (by rfl) (by rfl) (by first | exact pure_move (.inl rfl) rfl | exact pure_move (.inr rfl) rfl | exact pure_nilCheck rfl rfl | exact pure_field rfl rfl (by rfl) rfl (by decide +kernel) | exact pure_int rfl rfl rfl rfl | exact pure_not rfl rfl | exact pure_pickT rfl rfl rfl | exact pure_pickF rfl rfl rfl | exact pure_shift rfl rfl rfl rfl | exact pure_eqlNil rfl rfl rfl (by rfl) | exact pure_conv rfl rfl (by rfl) (by rfl)) ?_ | refine Tk.seq (WkP.wk W) ?_ | refine Tk.reg W ?_ | refine Tk.skip (WkP.wk W) ?_ | refine Tk.block (WkP.wk W) ?_ | refine Tk.condT (WkP.wk W) rfl ?_ | refine Tk.condF (WkP.wk W) rfl ?_ | refine Tk.exit (WkP.wk W) rfl ?_ | refine Tk.label (WkP.wk W) ?_))
  refine TkO.cas W (kk := .u64) (ad := E.sc .wst) (v0 := v0) (v1 := v1) (by rfl) (by rfl) (by rfl) (by rfl) e49 (by rw [O.t]; rfl) rfl rfl fun G w₁ t hg hact hlo hv => ?_
  obtain ⟨v, l', lower, h1, h2, h3, h4⟩ := h G w₁ t hg hact hlo hv
  have W2 : WkP Try.prog E l' (base 40) := wkp W h3
  rcases h4 with ⟨h4, rfl, h5, h6⟩ | ⟨h4, rfl, h5, h6⟩
  · refine ⟨v, l', false, h1, h2, .inl ⟨h4, h5, TkOL.same (TkO.lay (rfl : Nv.put _ _ _ = (_, _) :: _) ?_)⟩⟩
    (repeat (first | refine TkO.done W2 (by rfl) ?_ | refine TkO.unwantedS W2 (by rfl) (by rfl) (by rfl) (by rfl) ?_ | refine TkO.pureS W2 (by rfl) (by rfl) (by rfl) (by rfl) (by first | exact pure_move (.inl rfl) rfl | exact pure_move (.inr rfl) rfl | exact pure_nilCheck rfl rfl | exact pure_field rfl rfl (by rfl) rfl (by decide +kernel) | exact pure_int rfl rfl rfl rfl | exact pure_not rfl rfl | exact pure_pickT rfl rfl rfl | exact pure_pickF rfl rfl rfl | exact pure_shift rfl rfl rfl rfl | exact pure_eqlNil rfl rfl rfl (by rfl) | exact pure_conv rfl rfl (by rfl) (by rfl)) ?_ | refine Tk.seq (WkP.wk W2) ?_ | refine Tk.reg W2 ?_ | refine Tk.skip (WkP.wk W2) ?_ | refine Tk.block (WkP.wk W2) ?_ | refine Tk.condT (WkP.wk W2) rfl ?_ | refine Tk.condF (WkP.wk W2) rfl ?_ | refine Tk.exit (WkP.wk W2) rfl ?_ | refine Tk.label (WkP.wk W2) ?_))
    exact Tk.ret W2.wk (TkR.leave1 W2.wk (hP ▸ b40) rfl h6)
  · refine ⟨v, l', true, h1, h2, .inr ⟨h4, h5, TkL.lower fun N' hN => ?_⟩⟩
    refine Tk.lay (rfl : Nv.put _ _ _ = (_, _) :: _) ?_
    show TkO _ _ _ _ _ _ _ _ _ _ 6 _ _
    (repeat (first | refine TkO.done W2 (by rfl) ?_ | refine TkO.unwantedS W2 (by rfl) (by rfl) (by rfl) (by rfl) ?_ | refine TkO.pureS W2 (by rfl) (by rfl) (by rfl) (by rfl) (by first | exact pure_move (.inl rfl) rfl | exact pure_move (.inr rfl) rfl | exact pure_nilCheck rfl rfl | exact pure_field rfl rfl (by rfl) rfl (by decide +kernel) | exact pure_int rfl rfl rfl rfl | exact pure_not rfl rfl | exact pure_pickT rfl rfl rfl | exact pure_pickF rfl rfl rfl | exact pure_shift rfl rfl rfl rfl | exact pure_eqlNil rfl rfl rfl (by rfl) | exact pure_conv rfl rfl (by rfl) (by rfl)) ?_ | refine Tk.seq (WkP.wk W2) ?_ | refine Tk.reg W2 ?_ | refine Tk.skip (WkP.wk W2) ?_ | refine Tk.block (WkP.wk W2) ?_ | refine Tk.condT (WkP.wk W2) rfl ?_ | refine Tk.condF (WkP.wk W2) rfl ?_ | refine Tk.exit (WkP.wk W2) rfl ?_ | refine Tk.label (WkP.wk W2) ?_))
    exact Tk.ret W2.wk (TkR.leave1 W2.wk (hP ▸ b40) rfl (h6 N' hN))
structure Wt (E : Geo) (l : Lo) (g : Gr) (d : Nat) (c : Bool) : Prop where
  live : l.live = true
  ch : l.ch = .no
  rel : l.rel = none
  mr : l.mr = none
  job : l.job = none
  deaf : l.deaf = d
  gr : l.gr = g
  me : ∃ ps, l.me = ⟨0, 0, ps, c⟩
theorem Wt.at0 {g g' : Gr} {d : Nat} {c : Bool} (h : Wt E l g d c) : Wt E (l.at0 g') g' d c := ⟨h.live, h.ch, h.rel, h.mr, h.job, h.deaf, rfl, h.me⟩
theorem Wt.hear {g : Gr} {d d' : Nat} {c : Bool} (h : Wt E l g d c) : Wt E (l.hear d') g d' c := ⟨h.live, h.ch, h.rel, h.mr, h.job, rfl, h.gr, h.me⟩
theorem goes_join (O : 0 < E.K) {G : Gh} {t : Trace} {c : Bool} (hg : GI E G w t) (A : Wt E l .thru 0 c) (hlo : G.th 0 = l) : Goes1 E 0 G w w t #[⟨.mark (.acquire (E.sc .wst)), false, true⟩] (l.at0 .joined) true false := by
  intro fn pos
  obtain ⟨G', d, c⟩ := hg.wgJoin O fn pos (by rw [hlo]; exact A.gr) (by rw [hlo]; exact A.ch) (by rw [hlo]; exact A.rel) (by rw [hlo]; exact A.deaf)
  rw [hlo] at d
  exact ⟨G', d, .inl rfl, A.live, fun e => by cases e⟩
theorem goes_wgMark (O : 0 < E.K) {G : Gh} {t : Trace} {m : Mark} (hm : m = .read (E.sc .wsm) ∨ m = .write (E.sc .wsm)) (hg : GI E G w t) (hlive : l.live = true) (hlo : G.th 0 = l) : Goes1 E 0 G w w t #[⟨.mark m, false, true⟩] l true false := by
  intro fn pos
  have := Did.id (i := 0) (hg.wgMark O fn pos hm)
  rw [hlo] at this
  exact ⟨G, this, .inl rfl, hlive, fun e => by cases e⟩
theorem eql0 {n : Nat} (h : n ≠ 0) : intV .eql .i32 (n : Int) 0 = some (.bool false) := by simp only [intV, Option.some.injEq, Value.bool.injEq]; simp; omega
set_option maxHeartbeats 8000000 in
/-- WaitGroup.Wait. -/
theorem wait21 {B : Nat} {c : Bool} (hf : E.FinV) (hP : E.P = Try.prog) (O : WgAt E B) (A : Wt E l .out 0 c) (hC : E.hasC = true → c = true) {fr : Frame} {cs : List Frame}
    (h : ∀ l' w', Wt E l' .joined 0 c → l'.own = l.own → View l.own w w' → Tr E N 0 l' (Conc.G (fr.finish (.tuple #[])) cs) w') :
    Tr E N 0 l (Conc.G (Frame.enter Try.prog 21 #[.pointer (some ⟨B, 0, none⟩)] .normal) (fr :: cs)) w := by
  have W : WkP Try.prog E l (base 21) := ⟨⟨hf, A.ch, by decide⟩, hP⟩
  refine Tr.enterP hP b21 (Nat.le_of_ble_eq_true rfl) ?_
  (repeat (first | refine TkO.done W (by rfl) ?_ | refine TkO.unwantedS W (by rfl) (by rfl) (by rfl) (by rfl) ?_ | refine TkO.pureS W (by rfl) (by rfl) (by rfl) (by rfl) (by first | exact pure_move (.inl rfl) rfl | exact pure_move (.inr rfl) rfl | exact pure_nilCheck rfl rfl | exact pure_field rfl rfl (by rfl) rfl (by decide +kernel) | exact pure_int rfl rfl rfl rfl | exact pure_not rfl rfl | exact pure_pickT rfl rfl rfl | exact pure_pickF rfl rfl rfl | exact pure_shift rfl rfl rfl rfl | exact pure_eqlNil rfl rfl rfl (by rfl) | exact pure_conv rfl rfl (by rfl) (by rfl)) ?_ | refine Tk.seq (WkP.wk W) ?_ | refine Tk.reg W ?_ | refine Tk.skip (WkP.wk W) ?_ | refine Tk.block (WkP.wk W) ?_ | refine Tk.condT (WkP.wk W) rfl ?_ | refine Tk.condF (WkP.wk W) rfl ?_ | refine Tk.exit (WkP.wk W) rfl ?_ | refine Tk.label (WkP.wk W) ?_))
  refine TkO.mark0 W (m := .disable) (fun g e => by cases e) (by rfl) (by rfl) (by rfl) (by rfl) e26 fun G w₃ t hg hact hlo hv3 => ?_
  refine ⟨_, false, goes_off hg hact hlo, TkOL.same (TkO.lay (rfl : Nv.put _ _ _ = (_, _) :: _) ?_)⟩
  rw [A.deaf]
  have A1 : Wt E (l.hear 1) .out 1 c := A.hear
  have hown : (l.hear 1).own = l.own := rfl
  generalize l.hear 1 = l1 at A1 hown
  have W1 : WkP Try.prog E l1 (base 21) := wkp W A1.ch
  (repeat (first | refine TkO.done W1 (by rfl) ?_ | refine TkO.unwantedS W1 (by rfl) (by rfl) (by rfl) (by rfl) ?_ | refine TkO.pureS W1 (by rfl) (by rfl) (by rfl) (by rfl) (by first | exact pure_move (.inl rfl) rfl | exact pure_move (.inr rfl) rfl | exact pure_nilCheck rfl rfl | exact pure_field rfl rfl (by rfl) rfl (by decide +kernel) | exact pure_int rfl rfl rfl rfl | exact pure_not rfl rfl | exact pure_pickT rfl rfl rfl | exact pure_pickF rfl rfl rfl | exact pure_shift rfl rfl rfl rfl | exact pure_eqlNil rfl rfl rfl (by rfl) | exact pure_conv rfl rfl (by rfl) (by rfl)) ?_ | refine Tk.seq (WkP.wk W1) ?_ | refine Tk.reg W1 ?_ | refine Tk.skip (WkP.wk W1) ?_ | refine Tk.block (WkP.wk W1) ?_ | refine Tk.condT (WkP.wk W1) rfl ?_ | refine Tk.condF (WkP.wk W1) rfl ?_ | refine Tk.exit (WkP.wk W1) rfl ?_ | refine Tk.label (WkP.wk W1) ?_))
  refine Tk.loop W1.wk ?_
  refine Tk.cut fun K hK => ?_
  have HH : ∀ N' l1 w1, N' ≤ N → Wt E l1 .out 1 c → l1.own = l.own → View l.own w w1 → Tk E N' 0 l1 w1 (base 21) 84 [(0, .pointer (some ⟨B, 0, none⟩))] [] K (fr :: cs) := by
    intro N'
    induction N' using Nat.strongRecOn with
    | ind N' ihN =>
    intro l1 w1 hN A1 hown hv1
    have W1 : WkP Try.prog E l1 (base 21) := wkp W A1.ch
    rw [hK]
    (repeat (first | refine TkO.done W1 (by rfl) ?_ | refine TkO.unwantedS W1 (by rfl) (by rfl) (by rfl) (by rfl) ?_ | refine TkO.pureS W1 (by rfl) (by rfl) (by rfl) (by rfl) (by first | exact pure_move (.inl rfl) rfl | exact pure_move (.inr rfl) rfl | exact pure_nilCheck rfl rfl | exact pure_field rfl rfl (by rfl) rfl (by decide +kernel) | exact pure_int rfl rfl rfl rfl | exact pure_not rfl rfl | exact pure_pickT rfl rfl rfl | exact pure_pickF rfl rfl rfl | exact pure_shift rfl rfl rfl rfl | exact pure_eqlNil rfl rfl rfl (by rfl) | exact pure_conv rfl rfl (by rfl) (by rfl)) ?_ | refine Tk.seq (WkP.wk W1) ?_ | refine Tk.reg W1 ?_ | refine Tk.skip (WkP.wk W1) ?_ | refine Tk.block (WkP.wk W1) ?_ | refine Tk.condT (WkP.wk W1) rfl ?_ | refine Tk.condF (WkP.wk W1) rfl ?_ | refine Tk.exit (WkP.wk W1) rfl ?_ | refine Tk.label (WkP.wk W1) ?_))
    refine TkO.callN W1 (by rfl) (by rfl) (by rfl) (by rfl) (by rfl) b34 rfl fun fr1 hk1 => ?_
    refine load34 hf hP O A1.ch fun G w2 t hg hact hlo hv2 => ?_
    obtain ⟨ps, hme⟩ := A1.me
    have H := fun fn pos => hg.wgLoad O.k fn pos (by rw [hlo]; exact hme) (by rw [hlo]; exact A1.gr) (by rw [hlo]; exact A1.ch) (by rw [hlo]; exact A1.rel) hC
    obtain ⟨⟨c1, c2, c3⟩, _⟩ := H 0 ""
    by_cases hwn : G.wn = 0
    · refine ⟨0, l1.at0 .thru, by rw [c1, hwn]; simp, fun fn pos => ?_, A1.ch, hk1 _ _ _ _ ?_⟩
      · obtain ⟨_, h2⟩ := H fn pos
        obtain ⟨G', d, c⟩ := h2 .thru (.inl ⟨rfl, hwn⟩)
        rw [hlo] at d
        exact ⟨G', d, .inl rfl, A1.live, fun e => by cases e⟩
      · have A2 : Wt E (l1.at0 .thru) .thru 1 c := A1.at0
        have hown2 : (l1.at0 .thru).own = l.own := hown
        generalize l1.at0 .thru = l2 at A2 hown2
        have W2 : WkP Try.prog E l2 (base 21) := wkp W A2.ch
        (repeat (first | refine TkO.done W2 (by rfl) ?_ | refine TkO.unwantedS W2 (by rfl) (by rfl) (by rfl) (by rfl) ?_ | refine TkO.pureS W2 (by rfl) (by rfl) (by rfl) (by rfl) (by first | exact pure_move (.inl rfl) rfl | exact pure_move (.inr rfl) rfl | exact pure_nilCheck rfl rfl | exact pure_field rfl rfl (by rfl) rfl (by decide +kernel) | exact pure_int rfl rfl rfl rfl | exact pure_not rfl rfl | exact pure_pickT rfl rfl rfl | exact pure_pickF rfl rfl rfl | exact pure_shift rfl rfl rfl rfl | exact pure_eqlNil rfl rfl rfl (by rfl) | exact pure_conv rfl rfl (by rfl) (by rfl)) ?_ | refine Tk.seq (WkP.wk W2) ?_ | refine Tk.reg W2 ?_ | refine Tk.skip (WkP.wk W2) ?_ | refine Tk.block (WkP.wk W2) ?_ | refine Tk.condT (WkP.wk W2) rfl ?_ | refine Tk.condF (WkP.wk W2) rfl ?_ | refine Tk.exit (WkP.wk W2) rfl ?_ | refine Tk.label (WkP.wk W2) ?_))
        refine TkO.mark0 W2 (m := .enable) (fun g e => by cases e) (by rfl) (by rfl) (by rfl) (by rfl) e27 fun G w3 t hg hact hlo hv3 => ?_
        refine ⟨_, false, goes_on (d := 0) hg hact hlo A2.deaf, TkOL.same (TkO.lay (rfl : Nv.put _ _ _ = (_, _) :: _) ?_)⟩
        have A3 : Wt E (l2.hear 0) .thru 0 c := A2.hear
        have hown3 : (l2.hear 0).own = l.own := hown2
        generalize l2.hear 0 = l3 at A3 hown3
        have W3 : WkP Try.prog E l3 (base 21) := wkp W A3.ch
        (repeat (first | refine TkO.done W3 (by rfl) ?_ | refine TkO.unwantedS W3 (by rfl) (by rfl) (by rfl) (by rfl) ?_ | refine TkO.pureS W3 (by rfl) (by rfl) (by rfl) (by rfl) (by first | exact pure_move (.inl rfl) rfl | exact pure_move (.inr rfl) rfl | exact pure_nilCheck rfl rfl | exact pure_field rfl rfl (by rfl) rfl (by decide +kernel) | exact pure_int rfl rfl rfl rfl | exact pure_not rfl rfl | exact pure_pickT rfl rfl rfl | exact pure_pickF rfl rfl rfl | exact pure_shift rfl rfl rfl rfl | exact pure_eqlNil rfl rfl rfl (by rfl) | exact pure_conv rfl rfl (by rfl) (by rfl)) ?_ | refine Tk.seq (WkP.wk W3) ?_ | refine Tk.reg W3 ?_ | refine Tk.skip (WkP.wk W3) ?_ | refine Tk.block (WkP.wk W3) ?_ | refine Tk.condT (WkP.wk W3) rfl ?_ | refine Tk.condF (WkP.wk W3) rfl ?_ | refine Tk.exit (WkP.wk W3) rfl ?_ | refine Tk.label (WkP.wk W3) ?_))
        refine TkO.conv W3 (y := .wst) O.k A3.live (by rfl) (by rfl) (by rfl) (by rfl) (by rfl) (by rfl) (by rfl) (by decide +kernel) (by rw [O.t]; rfl) ?_
        refine TkO.markAt W3 (mk := .acquire) (ad := E.sc .wst) (fun ad g e => by cases e) (by rfl) (by rfl) (by rfl) (by rfl) e38 rfl fun G w4 t hg hact hlo hv4 => ?_
        refine ⟨_, false, goes_join O.k hg A3 hlo, TkOL.same (TkO.lay (rfl : Nv.put _ _ _ = (_, _) :: _) ?_)⟩
        have W4 : WkP Try.prog E (l3.at0 .joined) (base 21) := wkp W A3.ch
        (repeat (first | refine TkO.done W4 (by rfl) ?_ | refine TkO.unwantedS W4 (by rfl) (by rfl) (by rfl) (by rfl) ?_ | refine TkO.pureS W4 (by rfl) (by rfl) (by rfl) (by rfl) (by first | exact pure_move (.inl rfl) rfl | exact pure_move (.inr rfl) rfl | exact pure_nilCheck rfl rfl | exact pure_field rfl rfl (by rfl) rfl (by decide +kernel) | exact pure_int rfl rfl rfl rfl | exact pure_not rfl rfl | exact pure_pickT rfl rfl rfl | exact pure_pickF rfl rfl rfl | exact pure_shift rfl rfl rfl rfl | exact pure_eqlNil rfl rfl rfl (by rfl) | exact pure_conv rfl rfl (by rfl) (by rfl)) ?_ | refine Tk.seq (WkP.wk W4) ?_ | refine Tk.reg W4 ?_ | refine Tk.skip (WkP.wk W4) ?_ | refine Tk.block (WkP.wk W4) ?_ | refine Tk.condT (WkP.wk W4) rfl ?_ | refine Tk.condF (WkP.wk W4) rfl ?_ | refine Tk.exit (WkP.wk W4) rfl ?_ | refine Tk.label (WkP.wk W4) ?_))
        refine Tk.ret W4.wk (TkR.leave0 W4.wk (hP ▸ b21) (Tr.le (h _ _ A3.at0 hown3 ?_) hN))
        rw [hown] at hv2
        rw [hown2] at hv3
        rw [hown3] at hv4
        exact hv1.trans (hv2.trans (hv3.trans hv4))
    · refine ⟨stN G.wn 0, l1.at0 (.chk G.wn), by rw [c1]; unfold stN; simp, fun fn pos => ?_, A1.ch, hk1 _ _ _ _ ?_⟩
      · obtain ⟨_, h2⟩ := H fn pos
        obtain ⟨G', d, c⟩ := h2 (.chk G.wn) (.inr ⟨rfl, by omega⟩)
        rw [hlo] at d
        exact ⟨G', d, .inl rfl, A1.live, fun e => by cases e⟩
      · have A2 : Wt E (l1.at0 (.chk G.wn)) (.chk G.wn) 1 c := A1.at0
        have hown2 : (l1.at0 (.chk G.wn)).own = l.own := hown
        have hn0 : G.wn ≠ 0 := hwn
        generalize hne : G.wn = n at A2 hown2 hn0 c3
        generalize l1.at0 (.chk n) = l2 at A2 hown2
        have W2 : WkP Try.prog E l2 (base 21) := wkp W A2.ch
        have s1 := st_flag (n := n) (m := 0) (by omega) (by omega)
        have s2 := st_hi (n := n) (m := 0) (by omega) (by omega)
        have s3 := st_lo (n := n) (m := 0) (by omega) (by omega)
        have s4 := st_i32 (n := n) (by omega)
        have s5 := st_u32 (m := 0) (by omega)
        have s6 := eql0 hn0
        have s7 := st_wait (n := n) (by omega)
        repeat (first
          | refine TkO.pureS W2 (by rfl) (by rfl) (by rfl) (by rfl) (by first | exact pure_shift rfl rfl rfl s2 | exact pure_int rfl rfl rfl s3 | exact pure_convE rfl rfl (by rfl) (by rfl) s4 | exact pure_convE rfl rfl (by rfl) (by rfl) s5 | exact pure_int rfl rfl rfl s6 | exact pure_int rfl rfl rfl s7) ?_
          | refine TkO.done W2 (by rfl) ?_ | refine TkO.unwantedS W2 (by rfl) (by rfl) (by rfl) (by rfl) ?_ | refine TkO.pureS W2 (by rfl) (by rfl) (by rfl) (by rfl) (by first | exact pure_move (.inl rfl) rfl | exact pure_move (.inr rfl) rfl | exact pure_nilCheck rfl rfl | exact pure_field rfl rfl (by rfl) rfl (by decide +kernel) | exact pure_int rfl rfl rfl rfl | exact pure_not rfl rfl | exact pure_pickT rfl rfl rfl | exact pure_pickF rfl rfl rfl | exact pure_shift rfl rfl rfl rfl | exact pure_eqlNil rfl rfl rfl (by rfl) | exact pure_conv rfl rfl (by rfl) (by rfl)) ?_ | refine Tk.seq (WkP.wk W2) ?_ | refine Tk.reg W2 ?_ | refine Tk.skip (WkP.wk W2) ?_ | refine Tk.block (WkP.wk W2) ?_ | refine Tk.condT (WkP.wk W2) rfl ?_ | refine Tk.condF (WkP.wk W2) rfl ?_ | refine Tk.exit (WkP.wk W2) rfl ?_ | refine Tk.label (WkP.wk W2) ?_)
        refine TkO.callN W2 (by rfl) (by rfl) (by rfl) (by rfl) (by rfl) b40 rfl fun fr2 hk2 => ?_
        refine cas40 hf hP O A2.ch fun G w3 t hg hact hlo hv3 => ?_
        obtain ⟨ps, hme⟩ := A2.me
        obtain ⟨d1, d2⟩ := hg.m.sync .wst O.k
        have hww : G.ww = 0 := by
          have := hg.g.m
          rw [hlo, A2.gr] at this
          simp at this; omega
        by_cases hit : G.wn = n
        · refine ⟨stN n 0, l2.at0 .waits, false, by rw [d1]; show some (Value.int .u64 (stN G.wn G.ww)) = _; rw [hit, hww], d2, A2.ch, .inl ⟨rfl, rfl, fun fn pos => ?_, hk2 _ _ _ _ ?_⟩⟩
          · obtain ⟨G', d, c⟩ := hg.wgHit O.k fn pos (by rw [hlo]; exact hme) (by rw [hlo]; exact A2.gr) (by omega) hit (by rw [hlo]; exact A2.ch) (by rw [hlo]; exact A2.rel) hC
            rw [hlo] at d
            exact ⟨G', d, .inl rfl, A2.live, fun e => by cases e⟩
          · have hvw : View l2.own w3 (w3.setCell (E.sc .wst) (.int .u64 (stN n 1))) := by
              have := hg.view_set (x := .wst) O.k (.int .u64 (stN n 1)) 0 hact
              rw [hlo] at this; exact this
            have hva : View l.own w (w3.setCell (E.sc .wst) (.int .u64 (stN n 1))) := by
              rw [hown] at hv2
              rw [hown2] at hv3 hvw
              exact hv1.trans (hv2.trans (hv3.trans hvw))
            generalize w3.setCell (E.sc .wst) (.int .u64 (stN n 1)) = w4 at hva
            have A3 : Wt E (l2.at0 .waits) .waits 1 c := A2.at0
            have hown3 : (l2.at0 .waits).own = l.own := hown2
            generalize l2.at0 .waits = l3 at A3 hown3
            have W3 : WkP Try.prog E l3 (base 21) := wkp W A3.ch
            (repeat (first | refine TkO.done W3 (by rfl) ?_ | refine TkO.unwantedS W3 (by rfl) (by rfl) (by rfl) (by rfl) ?_ | refine TkO.pureS W3 (by rfl) (by rfl) (by rfl) (by rfl) (by first | exact pure_move (.inl rfl) rfl | exact pure_move (.inr rfl) rfl | exact pure_nilCheck rfl rfl | exact pure_field rfl rfl (by rfl) rfl (by decide +kernel) | exact pure_int rfl rfl rfl rfl | exact pure_not rfl rfl | exact pure_pickT rfl rfl rfl | exact pure_pickF rfl rfl rfl | exact pure_shift rfl rfl rfl rfl | exact pure_eqlNil rfl rfl rfl (by rfl) | exact pure_conv rfl rfl (by rfl) (by rfl)) ?_ | refine Tk.seq (WkP.wk W3) ?_ | refine Tk.reg W3 ?_ | refine Tk.skip (WkP.wk W3) ?_ | refine Tk.block (WkP.wk W3) ?_ | refine Tk.condT (WkP.wk W3) rfl ?_ | refine Tk.condF (WkP.wk W3) rfl ?_ | refine Tk.exit (WkP.wk W3) rfl ?_ | refine Tk.label (WkP.wk W3) ?_))
            refine TkO.conv W3 (y := .wsm) O.k A3.live (by rfl) (by rfl) (by rfl) (by rfl) (by rfl) (by rfl) (by rfl) (by decide +kernel) (by rw [O.m]; rfl) ?_
            refine TkO.markAt W3 (mk := .write) (ad := E.sc .wsm) (fun ad g e => by cases e) (by rfl) (by rfl) (by rfl) (by rfl) e41 rfl fun G w5 t hg hact hlo hv5 => ?_
            refine ⟨_, false, goes_wgMark O.k (.inr rfl) hg A3.live hlo, TkOL.same (TkO.lay (rfl : Nv.put _ _ _ = (_, _) :: _) ?_)⟩
            repeat (first
              | refine TkO.pureS W3 (by rfl) (by rfl) (by rfl) (by rfl) (by exact pure_int rfl rfl rfl s1) ?_
              | refine TkO.done W3 (by rfl) ?_ | refine TkO.unwantedS W3 (by rfl) (by rfl) (by rfl) (by rfl) ?_ | refine TkO.pureS W3 (by rfl) (by rfl) (by rfl) (by rfl) (by first | exact pure_move (.inl rfl) rfl | exact pure_move (.inr rfl) rfl | exact pure_nilCheck rfl rfl | exact pure_field rfl rfl (by rfl) rfl (by decide +kernel) | exact pure_int rfl rfl rfl rfl | exact pure_not rfl rfl | exact pure_pickT rfl rfl rfl | exact pure_pickF rfl rfl rfl | exact pure_shift rfl rfl rfl rfl | exact pure_eqlNil rfl rfl rfl (by rfl) | exact pure_conv rfl rfl (by rfl) (by rfl)) ?_ | refine Tk.seq (WkP.wk W3) ?_ | refine Tk.reg W3 ?_ | refine Tk.skip (WkP.wk W3) ?_ | refine Tk.block (WkP.wk W3) ?_ | refine Tk.condT (WkP.wk W3) rfl ?_ | refine Tk.condF (WkP.wk W3) rfl ?_ | refine Tk.exit (WkP.wk W3) rfl ?_ | refine Tk.label (WkP.wk W3) ?_)
            refine TkO.semacq W3 (xs := #[.tmp 70, .tmp 71]) (x := .tmp 70) (ad := E.sc .wsm) (by rfl) (by rfl) (by rfl) (by rfl) (by rfl) e42 (by rw [O.m]; rfl) fun G w6 t hg hact hlo hv6 => ?_
            obtain ⟨ps, hme⟩ := A3.me
            have H := fun fn pos => hg.wgWake O.k fn pos (by rw [hlo]; exact hme) (by rw [hlo]; exact A3.gr) (by rw [hlo]; exact A3.ch) (by rw [hlo]; exact A3.rel) hC
            obtain ⟨⟨c1, c2⟩, c3, _⟩ := H 0 ""
            refine ⟨(G.ws : Int), c1, c2, ?_⟩
            by_cases hws : G.ws = 0
            · exact .inl ⟨by rw [hws]; rfl, c3 hws⟩
            · have hws1 : G.ws = 1 := by
                obtain ⟨_, _, h3⟩ := H 0 ""
                exact (h3 hws).1
              have e1 : (G.ws : Int) - 1 = 0 := by rw [hws1]; rfl
              rw [e1]
              refine .inr ⟨by omega, l3.at0 .thru, fun fn pos => ?_, TkO.lay (rfl : Nv.put _ _ _ = (_, _) :: _) ?_⟩
              · obtain ⟨_, _, h3⟩ := H fn pos
                obtain ⟨_, G', d, _, _⟩ := h3 hws
                rw [hlo] at d
                exact ⟨G', d, .inl rfl, A3.live, fun e => by cases e⟩
              · have hvw6 : View l3.own w6 (w6.setCell (E.sc .wsm) (.int .u32 0)) := by
                  have := hg.view_set (x := .wsm) O.k (.int .u32 0) 0 hact
                  rw [hlo] at this; exact this
                have hvb : View l.own w (w6.setCell (E.sc .wsm) (.int .u32 0)) := by
                  rw [hown3] at hv5 hv6 hvw6
                  exact hva.trans (hv5.trans (hv6.trans hvw6))
                generalize w6.setCell (E.sc .wsm) (.int .u32 0) = w7 at hvb
                have A4 : Wt E (l3.at0 .thru) .thru 1 c := A3.at0
                have hown4 : (l3.at0 .thru).own = l.own := hown3
                generalize l3.at0 .thru = l4 at A4 hown4
                have W4 : WkP Try.prog E l4 (base 21) := wkp W A4.ch
                (repeat (first | refine TkO.done W4 (by rfl) ?_ | refine TkO.unwantedS W4 (by rfl) (by rfl) (by rfl) (by rfl) ?_ | refine TkO.pureS W4 (by rfl) (by rfl) (by rfl) (by rfl) (by first | exact pure_move (.inl rfl) rfl | exact pure_move (.inr rfl) rfl | exact pure_nilCheck rfl rfl | exact pure_field rfl rfl (by rfl) rfl (by decide +kernel) | exact pure_int rfl rfl rfl rfl | exact pure_not rfl rfl | exact pure_pickT rfl rfl rfl | exact pure_pickF rfl rfl rfl | exact pure_shift rfl rfl rfl rfl | exact pure_eqlNil rfl rfl rfl (by rfl) | exact pure_conv rfl rfl (by rfl) (by rfl)) ?_ | refine Tk.seq (WkP.wk W4) ?_ | refine Tk.reg W4 ?_ | refine Tk.skip (WkP.wk W4) ?_ | refine Tk.block (WkP.wk W4) ?_ | refine Tk.condT (WkP.wk W4) rfl ?_ | refine Tk.condF (WkP.wk W4) rfl ?_ | refine Tk.exit (WkP.wk W4) rfl ?_ | refine Tk.label (WkP.wk W4) ?_))
                refine TkO.callN W4 (by rfl) (by rfl) (by rfl) (by rfl) (by rfl) b34 rfl fun fr3 hk3 => ?_
                refine load34 hf hP O A4.ch fun G w8 t hg hact hlo hv8 => ?_
                obtain ⟨b1, b2, b3⟩ := hg.wgBack O.k (by rw [hlo]; exact A4.gr)
                refine ⟨0, l4, b1, fun fn pos => ?_, A4.ch, hk3 _ _ _ _ ?_⟩
                · obtain ⟨G', d, c⟩ := hg.says (w' := w8) (es := #[⟨.cell (E.sc .wst), false, true⟩]) fn pos hact (by intro e he; simp at he; subst he; exact .inl ⟨.wst, false, O.k, rfl, fun x => by cases x⟩) rfl rfl rfl (Go.ConcM.OsLater.refl _) (.inl (by rw [hlo]; exact A4.rel))
                  rw [hlo] at d
                  have e : ({ l4 with deaf := deafBehind l4.deaf #[⟨.cell (E.sc .wst), false, true⟩] } : Lo) = l4 := rfl
                  rw [e] at d
                  exact ⟨G', d, .inl rfl, A4.live, fun e => by cases e⟩
                · (repeat (first | refine TkO.done W4 (by rfl) ?_ | refine TkO.unwantedS W4 (by rfl) (by rfl) (by rfl) (by rfl) ?_ | refine TkO.pureS W4 (by rfl) (by rfl) (by rfl) (by rfl) (by first | exact pure_move (.inl rfl) rfl | exact pure_move (.inr rfl) rfl | exact pure_nilCheck rfl rfl | exact pure_field rfl rfl (by rfl) rfl (by decide +kernel) | exact pure_int rfl rfl rfl rfl | exact pure_not rfl rfl | exact pure_pickT rfl rfl rfl | exact pure_pickF rfl rfl rfl | exact pure_shift rfl rfl rfl rfl | exact pure_eqlNil rfl rfl rfl (by rfl) | exact pure_conv rfl rfl (by rfl) (by rfl)) ?_ | refine Tk.seq (WkP.wk W4) ?_ | refine Tk.reg W4 ?_ | refine Tk.skip (WkP.wk W4) ?_ | refine Tk.block (WkP.wk W4) ?_ | refine Tk.condT (WkP.wk W4) rfl ?_ | refine Tk.condF (WkP.wk W4) rfl ?_ | refine Tk.exit (WkP.wk W4) rfl ?_ | refine Tk.label (WkP.wk W4) ?_))
                  refine TkO.mark0 W4 (m := .enable) (fun g e => by cases e) (by rfl) (by rfl) (by rfl) (by rfl) e27 fun G w9 t hg hact hlo hv9 => ?_
                  refine ⟨_, false, goes_on (d := 0) hg hact hlo A4.deaf, TkOL.same (TkO.lay (rfl : Nv.put _ _ _ = (_, _) :: _) ?_)⟩
                  have A5 : Wt E (l4.hear 0) .thru 0 c := A4.hear
                  have hown5 : (l4.hear 0).own = l.own := hown4
                  generalize l4.hear 0 = l5 at A5 hown5
                  have W5 : WkP Try.prog E l5 (base 21) := wkp W A5.ch
                  (repeat (first | refine TkO.done W5 (by rfl) ?_ | refine TkO.unwantedS W5 (by rfl) (by rfl) (by rfl) (by rfl) ?_ | refine TkO.pureS W5 (by rfl) (by rfl) (by rfl) (by rfl) (by first | exact pure_move (.inl rfl) rfl | exact pure_move (.inr rfl) rfl | exact pure_nilCheck rfl rfl | exact pure_field rfl rfl (by rfl) rfl (by decide +kernel) | exact pure_int rfl rfl rfl rfl | exact pure_not rfl rfl | exact pure_pickT rfl rfl rfl | exact pure_pickF rfl rfl rfl | exact pure_shift rfl rfl rfl rfl | exact pure_eqlNil rfl rfl rfl (by rfl) | exact pure_conv rfl rfl (by rfl) (by rfl)) ?_ | refine Tk.seq (WkP.wk W5) ?_ | refine Tk.reg W5 ?_ | refine Tk.skip (WkP.wk W5) ?_ | refine Tk.block (WkP.wk W5) ?_ | refine Tk.condT (WkP.wk W5) rfl ?_ | refine Tk.condF (WkP.wk W5) rfl ?_ | refine Tk.exit (WkP.wk W5) rfl ?_ | refine Tk.label (WkP.wk W5) ?_))
                  refine TkO.conv W5 (y := .wst) O.k A5.live (by rfl) (by rfl) (by rfl) (by rfl) (by rfl) (by rfl) (by rfl) (by decide +kernel) (by rw [O.t]; rfl) ?_
                  refine TkO.markAt W5 (mk := .acquire) (ad := E.sc .wst) (fun ad g e => by cases e) (by rfl) (by rfl) (by rfl) (by rfl) e38 rfl fun G w10 t hg hact hlo hv10 => ?_
                  refine ⟨_, false, goes_join O.k hg A5 hlo, TkOL.same (TkO.lay (rfl : Nv.put _ _ _ = (_, _) :: _) ?_)⟩
                  have W6 : WkP Try.prog E (l5.at0 .joined) (base 21) := wkp W A5.ch
                  (repeat (first | refine TkO.done W6 (by rfl) ?_ | refine TkO.unwantedS W6 (by rfl) (by rfl) (by rfl) (by rfl) ?_ | refine TkO.pureS W6 (by rfl) (by rfl) (by rfl) (by rfl) (by first | exact pure_move (.inl rfl) rfl | exact pure_move (.inr rfl) rfl | exact pure_nilCheck rfl rfl | exact pure_field rfl rfl (by rfl) rfl (by decide +kernel) | exact pure_int rfl rfl rfl rfl | exact pure_not rfl rfl | exact pure_pickT rfl rfl rfl | exact pure_pickF rfl rfl rfl | exact pure_shift rfl rfl rfl rfl | exact pure_eqlNil rfl rfl rfl (by rfl) | exact pure_conv rfl rfl (by rfl) (by rfl)) ?_ | refine Tk.seq (WkP.wk W6) ?_ | refine Tk.reg W6 ?_ | refine Tk.skip (WkP.wk W6) ?_ | refine Tk.block (WkP.wk W6) ?_ | refine Tk.condT (WkP.wk W6) rfl ?_ | refine Tk.condF (WkP.wk W6) rfl ?_ | refine Tk.exit (WkP.wk W6) rfl ?_ | refine Tk.label (WkP.wk W6) ?_))
                  refine Tk.ret W6.wk (TkR.leave0 W6.wk (hP ▸ b21) (Tr.le (h _ _ A5.at0 hown5 ?_) hN))
                  rw [hown4] at hv8 hv9
                  rw [hown5] at hv10
                  exact hvb.trans (hv8.trans (hv9.trans hv10))
        · refine ⟨stN G.wn 0, l2.at0 .out, true, by rw [d1]; show some (Value.int .u64 (stN G.wn G.ww)) = _; rw [hww], d2, A2.ch, .inr ⟨fun e => hit ?_, rfl, fun fn pos => ?_, fun N2 hN2 => hk2 _ _ _ _ ?_⟩⟩
          · unfold stN at e; omega
          · obtain ⟨G', d, c, hp⟩ := hg.wgMiss O.k fn pos (by rw [hlo]; exact hme) (by rw [hlo]; exact A2.gr) hit (by rw [hlo]; exact A2.ch) (by rw [hlo]; exact A2.rel) hC
            rw [hlo] at d
            exact ⟨G', d, .inl rfl, A2.live, fun _ => hp⟩
          · have A3 : Wt E (l2.at0 .out) .out 1 c := A2.at0
            have hown3 : (l2.at0 .out).own = l.own := hown2
            generalize l2.at0 .out = l3 at A3 hown3
            have W3 : WkP Try.prog E l3 (base 21) := wkp W A3.ch
            (repeat (first | refine TkO.done W3 (by rfl) ?_ | refine TkO.unwantedS W3 (by rfl) (by rfl) (by rfl) (by rfl) ?_ | refine TkO.pureS W3 (by rfl) (by rfl) (by rfl) (by rfl) (by first | exact pure_move (.inl rfl) rfl | exact pure_move (.inr rfl) rfl | exact pure_nilCheck rfl rfl | exact pure_field rfl rfl (by rfl) rfl (by decide +kernel) | exact pure_int rfl rfl rfl rfl | exact pure_not rfl rfl | exact pure_pickT rfl rfl rfl | exact pure_pickF rfl rfl rfl | exact pure_shift rfl rfl rfl rfl | exact pure_eqlNil rfl rfl rfl (by rfl) | exact pure_conv rfl rfl (by rfl) (by rfl)) ?_ | refine Tk.seq (WkP.wk W3) ?_ | refine Tk.reg W3 ?_ | refine Tk.skip (WkP.wk W3) ?_ | refine Tk.block (WkP.wk W3) ?_ | refine Tk.condT (WkP.wk W3) rfl ?_ | refine Tk.condF (WkP.wk W3) rfl ?_ | refine Tk.exit (WkP.wk W3) rfl ?_ | refine Tk.label (WkP.wk W3) ?_))
            refine Tk.inBlock W3.wk ?_
            refine Tk.inLoop W3.wk ?_
            rw [← hK]
            refine Tk.sub (ihN N2 (by omega) l3 w3 (by omega) A3 hown3 ?_) (AllGet.sub ⟨rfl, trivial⟩)
            rw [hown] at hv2
            rw [hown2] at hv3
            exact hv1.trans (hv2.trans hv3)
  exact Tk.sub (HH N l1 w₃ (Nat.le_refl _) A1 hown hv3) (AllGet.sub ⟨rfl, trivial⟩)
end Go.Co.F1

namespace Go.Co.F1
open Go Go.Conc Go.Proofs
open Go.Co
open Go.ConcN (upd upd_ne upd_same)
variable {E : Geo} {N i : Nat} {l : Lo} {w : World}
set_option maxRecDepth 10000
structure Mn (l : Lo) (d : Nat) (me : Me) : Prop where
  live : l.live = true
  ch : l.ch = .no
  rel : l.rel = none
  mr : l.mr = none
  job : l.job = none
  deaf : l.deaf = d
  gr : l.gr = .out
  me : l.me = me
theorem Mn.hear {d d' : Nat} {me : Me} (h : Mn l d me) : Mn (l.hear d') d' me := ⟨h.live, h.ch, h.rel, h.mr, h.job, rfl, h.gr, h.me⟩
theorem Mn.to {d : Nat} {me me' : Me} (h : Mn l d me) : Mn { l with me := me' } d me' := ⟨h.live, h.ch, h.rel, h.mr, h.job, h.deaf, h.gr, rfl⟩
theorem stN0 (n : Nat) : ((n * 4294967296 : Nat) : Int) = stN n 0 := by unfold stN; omega
theorem stN1 (n : Nat) : ((((n + 1) * 4294967296 : Nat)) : Int) = stN (n + 1) 0 := by unfold stN; omega
theorem uadd32M {B lf ps : Nat} {c : Bool} (hf : E.FinV) (hP : E.P = Try.prog) (O : WgAt E B) (A : Mn l 1 ⟨lf + 1, 0, ps, c⟩) {fr : Frame} {cs : List Frame}
    (h : ∀ w' n, n ≤ 47 → View l.own w w' → Tr E N 0 { l with me := ⟨lf + 1, 1, ps, c⟩ } (Conc.G (fr.finish (.int .u64 (stN (n + 1) 0))) cs) w') :
    Tr E N 0 l (Conc.G (Frame.enter Try.prog 32 #[.pointer (some ⟨B, 0, none⟩), .int .u64 4294967296] .normal) (fr :: cs)) w := by
  have W : WkP Try.prog E l (base 32) := ⟨⟨hf, A.ch, by decide⟩, hP⟩
  refine Tr.enterP hP b32 (Nat.le_of_ble_eq_true rfl) ?_
  (repeat (first | refine TkO.done W (by rfl) ?_ | refine TkO.unwantedS W (by rfl) (by rfl) (by rfl) (by rfl) ?_ | refine TkO.pureS W (by rfl) (by rfl) (by rfl) (by rfl) (by first | exact pure_move (.inl rfl) rfl | exact pure_move (.inr rfl) rfl | exact pure_nilCheck rfl rfl | exact pure_field rfl rfl (by rfl) rfl (by decide +kernel) | exact pure_int rfl rfl rfl rfl | exact pure_not rfl rfl | exact pure_pickT rfl rfl rfl | exact pure_pickF rfl rfl rfl | exact pure_shift rfl rfl rfl rfl | exact pure_eqlNil rfl rfl rfl (by rfl) | exact pure_conv rfl rfl (by rfl) (by rfl)) ?_ | refine Tk.seq (WkP.wk W) ?_ | refine Tk.reg W ?_ | refine Tk.skip (WkP.wk W) ?_ | refine Tk.block (WkP.wk W) ?_ | refine Tk.condT (WkP.wk W) rfl ?_ | refine Tk.condF (WkP.wk W) rfl ?_ | refine Tk.exit (WkP.wk W) rfl ?_ | refine Tk.label (WkP.wk W) ?_))
  refine TkO.aadd W (kk := .u64) (ad := E.sc .wst) (d := 4294967296) (by rfl) (by rfl) (by rfl) (by rfl) e46 (by rw [O.t]; rfl) rfl fun G w₁ t hg hact hlo hv => ?_
  have H := fun fn pos => hg.wgAdd O.k fn pos (by rw [hlo]; exact A.me) (by rw [hlo]; exact A.gr) (by rw [hlo]; exact A.ch) (by rw [hlo]; exact A.rel)
  obtain ⟨⟨c1, c2, c3, c4⟩, _⟩ := H 0 ""
  have hx := stN0 G.wn
  have e2 := stN1 G.wn
  rw [hx] at c3
  have e : IntKind.u64.wrap (stN G.wn 0 + 4294967296) = stN (G.wn + 1) 0 := st_inc (by omega) (by omega)
  refine ⟨stN G.wn 0, { l with me := ⟨lf + 1, 1, ps, c⟩ }, false, c3, c4, fun fn pos => ?_, TkOL.same (TkO.lay (rfl : Nv.put _ _ _ = (_, _) :: _) ?_)⟩
  · obtain ⟨_, G', d, cc⟩ := H fn pos
    rw [hlo, e2] at d
    rw [e]
    exact ⟨G', d, .inl rfl, A.live, fun e => by cases e⟩
  · rw [e]
    have W2 : WkP Try.prog E { l with me := ⟨lf + 1, 1, ps, c⟩ } (base 32) := wkp W A.ch
    (repeat (first | refine TkO.done W2 (by rfl) ?_ | refine TkO.unwantedS W2 (by rfl) (by rfl) (by rfl) (by rfl) ?_ | refine TkO.pureS W2 (by rfl) (by rfl) (by rfl) (by rfl) (by first | exact pure_move (.inl rfl) rfl | exact pure_move (.inr rfl) rfl | exact pure_nilCheck rfl rfl | exact pure_field rfl rfl (by rfl) rfl (by decide +kernel) | exact pure_int rfl rfl rfl rfl | exact pure_not rfl rfl | exact pure_pickT rfl rfl rfl | exact pure_pickF rfl rfl rfl | exact pure_shift rfl rfl rfl rfl | exact pure_eqlNil rfl rfl rfl (by rfl) | exact pure_conv rfl rfl (by rfl) (by rfl)) ?_ | refine Tk.seq (WkP.wk W2) ?_ | refine Tk.reg W2 ?_ | refine Tk.skip (WkP.wk W2) ?_ | refine Tk.block (WkP.wk W2) ?_ | refine Tk.condT (WkP.wk W2) rfl ?_ | refine Tk.condF (WkP.wk W2) rfl ?_ | refine Tk.exit (WkP.wk W2) rfl ?_ | refine Tk.label (WkP.wk W2) ?_))
    refine Tk.ret W2.wk (TkR.leave1 W2.wk (hP ▸ b32) rfl (h _ G.wn (by omega) (hv.trans ?_)))
    have := hg.view_set (x := .wst) O.k (.int .u64 (stN (G.wn + 1) 0)) 0 hact
    rw [hlo] at this; exact this
theorem neg0 {n : Nat} : intV .lss .i32 (n : Int) 0 = some (.bool false) := by simp only [intV, Option.some.injEq, Value.bool.injEq]; simp
theorem pos1 {n : Nat} : intV .gtr .i32 ((n + 1 : Nat) : Int) 0 = some (.bool true) := by simp only [intV, Option.some.injEq, Value.bool.injEq, decide_eq_true_eq]; omega
theorem one1 {n : Nat} (h : n = 0) : intV .eql .i32 ((n + 1 : Nat) : Int) 1 = some (.bool true) := by subst h; rfl
theorem one0 {n : Nat} (h : n ≠ 0) : intV .eql .i32 ((n + 1 : Nat) : Int) 1 = some (.bool false) := by simp only [intV, Option.some.injEq, Value.bool.injEq]; simp; omega
set_option maxHeartbeats 8000000 in
/-- WaitGroup.Add(1). -/
theorem add18P {B lf ps : Nat} {c : Bool} (hf : E.FinV) (hP : E.P = Try.prog) (O : WgAt E B) (A : Mn l 0 ⟨lf + 1, 0, ps, c⟩) {fr : Frame} {cs : List Frame}
    (h : ∀ w', View l.own w w' → Tr E N 0 { l with me := ⟨lf + 1, 1, ps, c⟩ } (Conc.G (fr.finish (.tuple #[])) cs) w') :
    Tr E N 0 l (Conc.G (Frame.enter Try.prog 18 #[.pointer (some ⟨B, 0, none⟩), .int .i64 1] .normal) (fr :: cs)) w := by
  have W : WkP Try.prog E l (base 18) := ⟨⟨hf, A.ch, by decide⟩, hP⟩
  refine Tr.enterP hP b18 (Nat.le_of_ble_eq_true rfl) ?_
  (repeat (first | refine TkO.done W (by rfl) ?_ | refine TkO.unwantedS W (by rfl) (by rfl) (by rfl) (by rfl) ?_ | refine TkO.pureS W (by rfl) (by rfl) (by rfl) (by rfl) (by first | exact pure_move (.inl rfl) rfl | exact pure_move (.inr rfl) rfl | exact pure_nilCheck rfl rfl | exact pure_field rfl rfl (by rfl) rfl (by decide +kernel) | exact pure_int rfl rfl rfl rfl | exact pure_not rfl rfl | exact pure_pickT rfl rfl rfl | exact pure_pickF rfl rfl rfl | exact pure_shift rfl rfl rfl rfl | exact pure_eqlNil rfl rfl rfl (by rfl) | exact pure_conv rfl rfl (by rfl) (by rfl)) ?_ | refine Tk.seq (WkP.wk W) ?_ | refine Tk.reg W ?_ | refine Tk.skip (WkP.wk W) ?_ | refine Tk.block (WkP.wk W) ?_ | refine Tk.condT (WkP.wk W) rfl ?_ | refine Tk.condF (WkP.wk W) rfl ?_ | refine Tk.exit (WkP.wk W) rfl ?_ | refine Tk.label (WkP.wk W) ?_))
  refine TkO.mark0 W (m := .disable) (fun g e => by cases e) (by rfl) (by rfl) (by rfl) (by rfl) e26 fun G w₃ t hg hact hlo hv3 => ?_
  refine ⟨_, false, goes_off hg hact hlo, TkOL.same (TkO.lay (rfl : Nv.put _ _ _ = (_, _) :: _) ?_)⟩
  rw [A.deaf]
  have A1 : Mn (l.hear 1) 1 ⟨lf + 1, 0, ps, c⟩ := A.hear
  have W2 : WkP Try.prog E (l.hear 1) (base 18) := wkp W A.ch
  (repeat (first | refine TkO.done W2 (by rfl) ?_ | refine TkO.unwantedS W2 (by rfl) (by rfl) (by rfl) (by rfl) ?_ | refine TkO.pureS W2 (by rfl) (by rfl) (by rfl) (by rfl) (by first | exact pure_move (.inl rfl) rfl | exact pure_move (.inr rfl) rfl | exact pure_nilCheck rfl rfl | exact pure_field rfl rfl (by rfl) rfl (by decide +kernel) | exact pure_int rfl rfl rfl rfl | exact pure_not rfl rfl | exact pure_pickT rfl rfl rfl | exact pure_pickF rfl rfl rfl | exact pure_shift rfl rfl rfl rfl | exact pure_eqlNil rfl rfl rfl (by rfl) | exact pure_conv rfl rfl (by rfl) (by rfl)) ?_ | refine Tk.seq (WkP.wk W2) ?_ | refine Tk.reg W2 ?_ | refine Tk.skip (WkP.wk W2) ?_ | refine Tk.block (WkP.wk W2) ?_ | refine Tk.condT (WkP.wk W2) rfl ?_ | refine Tk.condF (WkP.wk W2) rfl ?_ | refine Tk.exit (WkP.wk W2) rfl ?_ | refine Tk.label (WkP.wk W2) ?_))
  refine TkO.defer W2 (by rfl) (by rfl) (by rfl) (by rfl) rfl ?_
  refine TkO.lay (rfl : Nv.put _ _ _ = _) ?_
  (repeat (first | refine TkO.done W2 (by rfl) ?_ | refine TkO.unwantedS W2 (by rfl) (by rfl) (by rfl) (by rfl) ?_ | refine TkO.pureS W2 (by rfl) (by rfl) (by rfl) (by rfl) (by first | exact pure_move (.inl rfl) rfl | exact pure_move (.inr rfl) rfl | exact pure_nilCheck rfl rfl | exact pure_field rfl rfl (by rfl) rfl (by decide +kernel) | exact pure_int rfl rfl rfl rfl | exact pure_not rfl rfl | exact pure_pickT rfl rfl rfl | exact pure_pickF rfl rfl rfl | exact pure_shift rfl rfl rfl rfl | exact pure_eqlNil rfl rfl rfl (by rfl) | exact pure_conv rfl rfl (by rfl) (by rfl)) ?_ | refine Tk.seq (WkP.wk W2) ?_ | refine Tk.reg W2 ?_ | refine Tk.skip (WkP.wk W2) ?_ | refine Tk.block (WkP.wk W2) ?_ | refine Tk.condT (WkP.wk W2) rfl ?_ | refine Tk.condF (WkP.wk W2) rfl ?_ | refine Tk.exit (WkP.wk W2) rfl ?_ | refine Tk.label (WkP.wk W2) ?_))
  refine TkO.entV W2 A.live (.inr trivial) (by rfl) (by rfl) (by rfl) (by rfl) e28 (fun _ => rfl) ?_
  refine TkO.lay (rfl : Nv.put _ _ _ = (_, _) :: _) ?_
  repeat (first
    | refine TkO.pureS W2 (by rfl) (by rfl) (by rfl) (by rfl) (pure_shift rfl rfl rfl st_delta1) ?_
    | refine TkO.done W2 (by rfl) ?_ | refine TkO.unwantedS W2 (by rfl) (by rfl) (by rfl) (by rfl) ?_ | refine TkO.pureS W2 (by rfl) (by rfl) (by rfl) (by rfl) (by first | exact pure_move (.inl rfl) rfl | exact pure_move (.inr rfl) rfl | exact pure_nilCheck rfl rfl | exact pure_field rfl rfl (by rfl) rfl (by decide +kernel) | exact pure_int rfl rfl rfl rfl | exact pure_not rfl rfl | exact pure_pickT rfl rfl rfl | exact pure_pickF rfl rfl rfl | exact pure_shift rfl rfl rfl rfl | exact pure_eqlNil rfl rfl rfl (by rfl) | exact pure_conv rfl rfl (by rfl) (by rfl)) ?_ | refine Tk.seq (WkP.wk W2) ?_ | refine Tk.reg W2 ?_ | refine Tk.skip (WkP.wk W2) ?_ | refine Tk.block (WkP.wk W2) ?_ | refine Tk.condT (WkP.wk W2) rfl ?_ | refine Tk.condF (WkP.wk W2) rfl ?_ | refine Tk.exit (WkP.wk W2) rfl ?_ | refine Tk.label (WkP.wk W2) ?_)
  refine TkO.callN W2 (by rfl) (by rfl) (by rfl) (by rfl) (by rfl) b32 rfl fun fr1 hk1 => ?_
  refine uadd32M hf hP O A1 fun w4 n hn hv4 => hk1 _ _ _ _ ?_
  have A2 : Mn { l.hear 1 with me := ⟨lf + 1, 1, ps, c⟩ } 1 ⟨lf + 1, 1, ps, c⟩ := A1.to
  have hva : View l.own w w4 := hv3.trans hv4
  have W3 : WkP Try.prog E { l.hear 1 with me := ⟨lf + 1, 1, ps, c⟩ } (base 18) := wkp W A.ch
  have h1 := st_flag (n := n + 1) (m := 0) (by omega) (by omega)
  have h2 := st_hi (n := n + 1) (m := 0) (by omega) (by omega)
  have h3 := st_lo (n := n + 1) (m := 0) (by omega) (by omega)
  have h4 := st_i32 (n := n + 1) (by omega)
  have h5 := st_u32 (m := 0) (by omega)
  have h6 := neg0 (n := n + 1)
  have h7 := pos1 (n := n)
  by_cases hn0 : n = 0
  · have h8 := one1 hn0
    repeat (first
      | refine TkO.pureS W3 (by rfl) (by rfl) (by rfl) (by rfl) (by first | exact pure_int rfl rfl rfl h1 | exact pure_shift rfl rfl rfl h2 | exact pure_int rfl rfl rfl h3 | exact pure_convE rfl rfl (by rfl) (by rfl) h4 | exact pure_convE rfl rfl (by rfl) (by rfl) h5 | exact pure_int rfl rfl rfl h6 | exact pure_int rfl rfl rfl h7 | exact pure_int rfl rfl rfl h8) ?_
      | refine TkO.done W3 (by rfl) ?_ | refine TkO.unwantedS W3 (by rfl) (by rfl) (by rfl) (by rfl) ?_ | refine TkO.pureS W3 (by rfl) (by rfl) (by rfl) (by rfl) (by first | exact pure_move (.inl rfl) rfl | exact pure_move (.inr rfl) rfl | exact pure_nilCheck rfl rfl | exact pure_field rfl rfl (by rfl) rfl (by decide +kernel) | exact pure_int rfl rfl rfl rfl | exact pure_not rfl rfl | exact pure_pickT rfl rfl rfl | exact pure_pickF rfl rfl rfl | exact pure_shift rfl rfl rfl rfl | exact pure_eqlNil rfl rfl rfl (by rfl) | exact pure_conv rfl rfl (by rfl) (by rfl)) ?_ | refine Tk.seq (WkP.wk W3) ?_ | refine Tk.reg W3 ?_ | refine Tk.skip (WkP.wk W3) ?_ | refine Tk.block (WkP.wk W3) ?_ | refine Tk.condT (WkP.wk W3) rfl ?_ | refine Tk.condF (WkP.wk W3) rfl ?_ | refine Tk.exit (WkP.wk W3) rfl ?_ | refine Tk.label (WkP.wk W3) ?_)
    refine TkO.conv W3 (y := .wsm) O.k A.live (by rfl) (by rfl) (by rfl) (by rfl) (by rfl) (by rfl) (by rfl) (by decide +kernel) (by rw [O.m]; rfl) ?_
    refine TkO.markAt W3 (mk := .read) (ad := E.sc .wsm) (fun ad g e => by cases e) (by rfl) (by rfl) (by rfl) (by rfl) e33 rfl fun G w5 t hg hact hlo hv5 => ?_
    refine ⟨_, false, goes_wgMark O.k (.inl rfl) hg A2.live hlo, TkOL.same (TkO.lay (rfl : Nv.put _ _ _ = (_, _) :: _) ?_)⟩
    repeat (first
      | refine TkO.pureS W3 (by rfl) (by rfl) (by rfl) (by rfl) (by first | exact pure_int rfl rfl rfl h6 | exact pure_int rfl rfl rfl h7) ?_
      | refine TkO.done W3 (by rfl) ?_ | refine TkO.unwantedS W3 (by rfl) (by rfl) (by rfl) (by rfl) ?_ | refine TkO.pureS W3 (by rfl) (by rfl) (by rfl) (by rfl) (by first | exact pure_move (.inl rfl) rfl | exact pure_move (.inr rfl) rfl | exact pure_nilCheck rfl rfl | exact pure_field rfl rfl (by rfl) rfl (by decide +kernel) | exact pure_int rfl rfl rfl rfl | exact pure_not rfl rfl | exact pure_pickT rfl rfl rfl | exact pure_pickF rfl rfl rfl | exact pure_shift rfl rfl rfl rfl | exact pure_eqlNil rfl rfl rfl (by rfl) | exact pure_conv rfl rfl (by rfl) (by rfl)) ?_ | refine Tk.seq (WkP.wk W3) ?_ | refine Tk.reg W3 ?_ | refine Tk.skip (WkP.wk W3) ?_ | refine Tk.block (WkP.wk W3) ?_ | refine Tk.condT (WkP.wk W3) rfl ?_ | refine Tk.condF (WkP.wk W3) rfl ?_ | refine Tk.exit (WkP.wk W3) rfl ?_ | refine Tk.label (WkP.wk W3) ?_)
    refine Tk.ret W3.wk (TkR.mark W3.wk (m := .enable) (fun g e => by cases e) (hP ▸ e27) fun G w6 t hg hact hlo hv6 => ?_)
    refine ⟨_, goes_on (d := 0) hg hact hlo rfl, ?_⟩
    have W4 : WkP Try.prog E (({ l.hear 1 with me := ⟨lf + 1, 1, ps, c⟩ } : Lo).hear 0) (base 18) := wkp W A.ch
    have e : (({ l.hear 1 with me := ⟨lf + 1, 1, ps, c⟩ } : Lo).hear 0) = { l with me := ⟨lf + 1, 1, ps, c⟩ } := by
      unfold Lo.hear; rw [← A.deaf]
    rw [e] at W4 ⊢
    exact TkR.leave0 W4.wk (hP ▸ b18) (h _ (hva.trans (hv5.trans hv6)))
  · have h8 := one0 hn0
    repeat (first
      | refine TkO.pureS W3 (by rfl) (by rfl) (by rfl) (by rfl) (by first | exact pure_int rfl rfl rfl h1 | exact pure_shift rfl rfl rfl h2 | exact pure_int rfl rfl rfl h3 | exact pure_convE rfl rfl (by rfl) (by rfl) h4 | exact pure_convE rfl rfl (by rfl) (by rfl) h5 | exact pure_int rfl rfl rfl h6 | exact pure_int rfl rfl rfl h7 | exact pure_int rfl rfl rfl h8) ?_
      | refine TkO.done W3 (by rfl) ?_ | refine TkO.unwantedS W3 (by rfl) (by rfl) (by rfl) (by rfl) ?_ | refine TkO.pureS W3 (by rfl) (by rfl) (by rfl) (by rfl) (by first | exact pure_move (.inl rfl) rfl | exact pure_move (.inr rfl) rfl | exact pure_nilCheck rfl rfl | exact pure_field rfl rfl (by rfl) rfl (by decide +kernel) | exact pure_int rfl rfl rfl rfl | exact pure_not rfl rfl | exact pure_pickT rfl rfl rfl | exact pure_pickF rfl rfl rfl | exact pure_shift rfl rfl rfl rfl | exact pure_eqlNil rfl rfl rfl (by rfl) | exact pure_conv rfl rfl (by rfl) (by rfl)) ?_ | refine Tk.seq (WkP.wk W3) ?_ | refine Tk.reg W3 ?_ | refine Tk.skip (WkP.wk W3) ?_ | refine Tk.block (WkP.wk W3) ?_ | refine Tk.condT (WkP.wk W3) rfl ?_ | refine Tk.condF (WkP.wk W3) rfl ?_ | refine Tk.exit (WkP.wk W3) rfl ?_ | refine Tk.label (WkP.wk W3) ?_)
    refine Tk.ret W3.wk (TkR.mark W3.wk (m := .enable) (fun g e => by cases e) (hP ▸ e27) fun G w6 t hg hact hlo hv6 => ?_)
    refine ⟨_, goes_on (d := 0) hg hact hlo rfl, ?_⟩
    have W4 : WkP Try.prog E (({ l.hear 1 with me := ⟨lf + 1, 1, ps, c⟩ } : Lo).hear 0) (base 18) := wkp W A.ch
    have e : (({ l.hear 1 with me := ⟨lf + 1, 1, ps, c⟩ } : Lo).hear 0) = { l with me := ⟨lf + 1, 1, ps, c⟩ } := by
      unfold Lo.hear; rw [← A.deaf]
    rw [e] at W4 ⊢
    exact TkR.leave0 W4.wk (hP ▸ b18) (h _ (hva.trans hv6))
end Go.Co.F1

namespace Go.Co
open Go Go.Conc
theorem pure_max {P : Program} {env : Nv} {o : Oper} {x y : Operand} {k k' : IntKind} {p q r : Int} {ats : Array TypeId} (ho : o.op = .call { callee := .builtin .max, args := #[x, y], argTypes := ats }) (hx : env.ev x = some (.int k p)) (hy : env.ev y = some (.int k' q)) (hr : (if q > p then q else p) = r) : PureOp P env o (.int k r) := fun n a ha w => by
  subst hr
  constructor <;> simp [execOp, ho, resolve, invoke, builtin, Builtin.max_, Builtin.max2, ha.ev hx, ha.ev hy]
theorem pure_min {P : Program} {env : Nv} {o : Oper} {x y : Operand} {k k' : IntKind} {p q r : Int} {ats : Array TypeId} (ho : o.op = .call { callee := .builtin .min, args := #[x, y], argTypes := ats }) (hx : env.ev x = some (.int k p)) (hy : env.ev y = some (.int k' q)) (hr : (if q < p then q else p) = r) : PureOp P env o (.int k r) := fun n a ha w => by
  subst hr
  constructor <;> simp [execOp, ho, resolve, invoke, builtin, Builtin.min_, Builtin.min2, ha.ev hx, ha.ev hy]
theorem pure_len {P : Program} {env : Nv} {o : Oper} {x : Operand} {t e : TypeId} {bs : Option Addr} {n c : Nat} (ho : o.op = .call { callee := .builtin .len, args := #[x], argTypes := #[t] }) (hx : env.ev x = some (.slice bs n c)) (hu : P.underlying t = some (.slice e)) : PureOp P env o (.int .i64 (n : Int)) := fun m a ha w => by
  constructor <;> simp [execOp, ho, resolve, invoke, builtin, Builtin.len_, ha.ev hx, run_underlying hu, events_underlying, goInt]
end Go.Co
namespace Go.Co.F1
open Go Go.Conc Go.Proofs
open Go.Co
open Go.ConcN (upd upd_ne upd_same)
variable {E : Geo} {N i : Nat} {l : Lo} {w : World}
set_option maxRecDepth 10000
noncomputable def c14 : Code := (Try.f14.body).getD .skip
theorem b14 : ∃ t, Bod Try.prog 14 31 c14 #[.cell 4 t] := ⟨_, ⟨Try.f14, Try.func14, by decide +kernel, rfl, rfl, rfl⟩⟩
theorem q14 : (Try.prog.funcs[14]?).any (·.norace) = false := by decide +kernel
def skipSeq : Nat → Code → Code
  | 0, c => c
  | n + 1, .seq _ c => skipSeq n c
  | _, c => c
noncomputable def r14 : Code := skipSeq 4 c14
noncomputable def s14 : Code := skipSeq 8 c14
structure Rs (E : Geo) (own : Nat → Prop) (w : World) (bs : Option Addr) : Prop where
  at_ : ∀ q, q < E.nj → ∃ b o, bs = some ⟨b, o, none⟩ ∧ own b ∧ w.cell? ⟨b, o + q, none⟩ = some (E.jv q)
def nWk (v : Int) : Nat := (if (8 : Int) < (if (1 : Int) > v then 1 else v) then 8 else (if (1 : Int) > v then 1 else v)).toNat
theorem nWk_le (v : Int) : 1 ≤ nWk v ∧ nWk v ≤ 8 := by unfold nWk; omega
theorem wrap64 {n : Nat} (h : n < 4611686018427387904) : IntKind.i64.wrap ((n : Int) + 1) = ((n + 1 : Nat) : Int) := by
  rw [IntKind.wrap_i64]; omega
set_option maxHeartbeats 8000000 in
theorem main14 {C H B A cap : Nat} {wk : Int} {bs : Option Addr} (T : TG E C H B) (hK8 : E.K ≤ 8) (A0 : Mn l 0 ⟨nWk wk, 0, 0, false⟩) (hRs : Rs E l.own w bs) (hK1 : E.K = 1) {kk : List Item} {cs : List Frame}
    (h : ∀ l' w', Wt E l' .joined 0 true → l'.own = l.own → View l.own w w' → Tk E N 0 l' w' (base 14) 31 [(4, ptr A 0), (5, ptr C 0)] [] (.code s14 :: kk) cs) :
    Tk E N 0 l w (base 14) 31 [(0, .int .i64 wk), (1, .slice bs E.nj cap), (4, ptr A 0), (5, ptr C 0), (6, ptr B 0), (7, ptr H 0)] [] (.code r14 :: kk) cs := by
  have hP := T.cg.P
  have hf := T.cg.fin
  have W : WkP Try.prog E l (base 14) := ⟨⟨hf, A0.ch, by decide⟩, hP⟩
  have Wl : ∀ l' : Lo, l'.ch = .no → WkP Try.prog E l' (base 14) := fun l' h => ⟨⟨hf, h, by decide⟩, hP⟩
  refine Tk.seq W.wk ?_
  refine Tk.seq W.wk ?_
  refine Tk.reg W ?_
  (first | refine TkO.done W (by rfl) ?_ | refine TkO.unwantedS W (by rfl) (by rfl) (by rfl) (by rfl) ?_ | refine TkO.pureS W (by rfl) (by rfl) (by rfl) (by rfl) (by first | exact pure_move (.inl rfl) rfl | exact pure_move (.inr rfl) rfl | exact pure_nilCheck rfl rfl | exact pure_field rfl rfl (by rfl) rfl (by decide +kernel) | exact pure_int rfl rfl rfl rfl | exact pure_not rfl rfl | exact pure_pickT rfl rfl rfl | exact pure_pickF rfl rfl rfl | exact pure_shift rfl rfl rfl rfl | exact pure_eqlNil rfl rfl rfl (by rfl) | exact pure_conv rfl rfl (by rfl) (by rfl)) ?_)
  refine TkO.pureS W (by rfl) (by rfl) (by rfl) (by rfl) (pure_max rfl rfl rfl rfl) ?_
  refine TkO.pureS W (by rfl) (by rfl) (by rfl) (by rfl) (pure_min rfl rfl rfl rfl) ?_
  have enw : (if (8 : Int) < (if (1 : Int) > wk then 1 else wk) then 8 else (if (1 : Int) > wk then 1 else wk)) = (nWk wk : Int) := by unfold nWk; omega
  rw [enw]
  obtain ⟨hn1, hn8⟩ := nWk_le wk
  (repeat (first | refine TkO.done W (by rfl) ?_ | refine TkO.unwantedS W (by rfl) (by rfl) (by rfl) (by rfl) ?_ | refine TkO.pureS W (by rfl) (by rfl) (by rfl) (by rfl) (by first | exact pure_move (.inl rfl) rfl | exact pure_move (.inr rfl) rfl | exact pure_nilCheck rfl rfl | exact pure_field rfl rfl (by rfl) rfl (by decide +kernel) | exact pure_int rfl rfl rfl rfl | exact pure_not rfl rfl | exact pure_pickT rfl rfl rfl | exact pure_pickF rfl rfl rfl | exact pure_shift rfl rfl rfl rfl | exact pure_eqlNil rfl rfl rfl (by rfl) | exact pure_conv rfl rfl (by rfl) (by rfl)) ?_ | refine Tk.seq (WkP.wk W) ?_ | refine Tk.reg W ?_ | refine Tk.skip (WkP.wk W) ?_ | refine Tk.block (WkP.wk W) ?_ | refine Tk.condT (WkP.wk W) rfl ?_ | refine Tk.condF (WkP.wk W) rfl ?_ | refine Tk.exit (WkP.wk W) rfl ?_ | refine Tk.label (WkP.wk W) ?_))
  refine Tk.loop W.wk ?_
  refine Tk.cut fun K hK => ?_
  have HH : ∀ N' m (l' : Lo) (w' : World), N' ≤ N → m ≤ nWk wk → Mn l' 0 ⟨nWk wk - m, 0, 0, false⟩ → l'.own = l.own → View l.own w w' →
      Tk E N' 0 l' w' (base 14) 31 [(13, .int .i64 (nWk wk : Int)), (14, .int .i64 (m : Int)), (1, .slice bs E.nj cap), (4, ptr A 0), (5, ptr C 0), (6, ptr B 0), (7, ptr H 0)] [] K cs := by
    intro N'
    induction N' using Nat.strongRecOn with
    | ind N' ihN =>
    intro m l' w' hN hm A1 hown hv1
    have W1 := Wl l' A1.ch
    rw [hK]
    refine Tk.seq W1.wk ?_
    refine Tk.reg W1 ?_
    refine TkO.pureS W1 (by rfl) (by rfl) (by rfl) (by rfl) (by (first | exact pure_move (.inl rfl) rfl | exact pure_move (.inr rfl) rfl | exact pure_nilCheck rfl rfl | exact pure_field rfl rfl (by rfl) rfl (by decide +kernel) | exact pure_int rfl rfl rfl rfl | exact pure_not rfl rfl | exact pure_pickT rfl rfl rfl | exact pure_pickF rfl rfl rfl | exact pure_shift rfl rfl rfl rfl | exact pure_eqlNil rfl rfl rfl (by rfl) | exact pure_conv rfl rfl (by rfl) (by rfl))) ?_
    refine TkO.done W1 (by rfl) ?_
    refine Tk.seq W1.wk ?_
    by_cases hlt : m < nWk wk
    · refine Tk.condT W1.wk (congrArg (fun b => some (Value.bool b)) (decide_eq_true (show (m : Int) < (nWk wk : Int) by omega))) ?_
      obtain ⟨lf, hlf⟩ : ∃ lf, nWk wk - m = lf + 1 := ⟨nWk wk - m - 1, by omega⟩
      rw [hlf] at A1
      (repeat (first | refine TkO.done W1 (by rfl) ?_ | refine TkO.unwantedS W1 (by rfl) (by rfl) (by rfl) (by rfl) ?_ | refine TkO.pureS W1 (by rfl) (by rfl) (by rfl) (by rfl) (by first | exact pure_move (.inl rfl) rfl | exact pure_move (.inr rfl) rfl | exact pure_nilCheck rfl rfl | exact pure_field rfl rfl (by rfl) rfl (by decide +kernel) | exact pure_int rfl rfl rfl rfl | exact pure_not rfl rfl | exact pure_pickT rfl rfl rfl | exact pure_pickF rfl rfl rfl | exact pure_shift rfl rfl rfl rfl | exact pure_eqlNil rfl rfl rfl (by rfl) | exact pure_conv rfl rfl (by rfl) (by rfl)) ?_ | refine Tk.seq (WkP.wk W1) ?_ | refine Tk.reg W1 ?_ | refine Tk.skip (WkP.wk W1) ?_ | refine Tk.block (WkP.wk W1) ?_ | refine Tk.condT (WkP.wk W1) rfl ?_ | refine Tk.condF (WkP.wk W1) rfl ?_ | refine Tk.exit (WkP.wk W1) rfl ?_ | refine Tk.label (WkP.wk W1) ?_))
      refine TkO.callN W1 (by rfl) (by rfl) (by rfl) (by rfl) (by rfl) b18 rfl fun fr1 hk1 => ?_
      refine add18P hf hP T.wg A1 fun w2 hv2 => hk1 _ _ _ _ ?_
      have A2 : Mn { l' with me := ⟨lf + 1, 1, 0, false⟩ } 0 ⟨lf + 1, 1, 0, false⟩ := A1.to
      have hown2 : ({ l' with me := ⟨lf + 1, 1, 0, false⟩ } : Lo).own = l.own := hown
      have hv2a : View l.own w w2 := hv1.trans (hown ▸ hv2)
      have e3 : ∀ x, ({ ({ l' with me := ⟨lf + 1, 1, 0, false⟩ } : Lo) with me := x } : Lo) = { l' with me := x } := fun x => rfl
      generalize ({ l' with me := ⟨lf + 1, 1, 0, false⟩ } : Lo) = l2 at A2 hown2 e3
      have W2 := Wl l2 A2.ch
      (repeat (first | refine TkO.done W2 (by rfl) ?_ | refine TkO.unwantedS W2 (by rfl) (by rfl) (by rfl) (by rfl) ?_ | refine TkO.pureS W2 (by rfl) (by rfl) (by rfl) (by rfl) (by first | exact pure_move (.inl rfl) rfl | exact pure_move (.inr rfl) rfl | exact pure_nilCheck rfl rfl | exact pure_field rfl rfl (by rfl) rfl (by decide +kernel) | exact pure_int rfl rfl rfl rfl | exact pure_not rfl rfl | exact pure_pickT rfl rfl rfl | exact pure_pickF rfl rfl rfl | exact pure_shift rfl rfl rfl rfl | exact pure_eqlNil rfl rfl rfl (by rfl) | exact pure_conv rfl rfl (by rfl) (by rfl)) ?_ | refine Tk.seq (WkP.wk W2) ?_ | refine Tk.reg W2 ?_ | refine Tk.skip (WkP.wk W2) ?_ | refine Tk.block (WkP.wk W2) ?_ | refine Tk.condT (WkP.wk W2) rfl ?_ | refine Tk.condF (WkP.wk W2) rfl ?_ | refine Tk.exit (WkP.wk W2) rfl ?_ | refine Tk.label (WkP.wk W2) ?_))
      refine TkO.pureS W2 (by rfl) (by rfl) (by rfl) (by rfl) (pure_makeFunc (f := 19) (vs := []) (us := [ptr B 0, ptr H 0, ptr C 0]) (by rfl) (by rfl) (by rfl)) ?_
      refine TkO.go W2 A2.live A2.me A2.gr A2.deaf hK8 (by rfl) (by rfl) (by rfl) (by rfl) (by rfl) (fun N2 hN2 w3 hv3 => ?_) (fun N2 hN2 w3 i' hi' => ?_)
      · have A3 : Mn { l2 with me := ⟨lf, 0, 0, false⟩ } 0 ⟨lf, 0, 0, false⟩ := A2.to
        have hown3 : ({ l2 with me := ⟨lf, 0, 0, false⟩ } : Lo).own = l.own := hown2
        have hv3a : View l.own w w3 := hv2a.trans (hown2 ▸ hv3)
        generalize ({ l2 with me := ⟨lf, 0, 0, false⟩ } : Lo) = l3 at A3 hown3
        have W3 := Wl l3 A3.ch
        (repeat (first | refine TkO.done W3 (by rfl) ?_ | refine TkO.unwantedS W3 (by rfl) (by rfl) (by rfl) (by rfl) ?_ | refine TkO.pureS W3 (by rfl) (by rfl) (by rfl) (by rfl) (by first | exact pure_move (.inl rfl) rfl | exact pure_move (.inr rfl) rfl | exact pure_nilCheck rfl rfl | exact pure_field rfl rfl (by rfl) rfl (by decide +kernel) | exact pure_int rfl rfl rfl rfl | exact pure_not rfl rfl | exact pure_pickT rfl rfl rfl | exact pure_pickF rfl rfl rfl | exact pure_shift rfl rfl rfl rfl | exact pure_eqlNil rfl rfl rfl (by rfl) | exact pure_conv rfl rfl (by rfl) (by rfl)) ?_ | refine Tk.seq (WkP.wk W3) ?_ | refine Tk.reg W3 ?_ | refine Tk.skip (WkP.wk W3) ?_ | refine Tk.block (WkP.wk W3) ?_ | refine Tk.condT (WkP.wk W3) rfl ?_ | refine Tk.condF (WkP.wk W3) rfl ?_ | refine Tk.exit (WkP.wk W3) rfl ?_ | refine Tk.label (WkP.wk W3) ?_))
        refine Tk.inBlock W3.wk ?_
        refine Tk.reg W3 ?_
        refine TkO.pureS W3 (by rfl) (by rfl) (by rfl) (by rfl) (by (first | exact pure_move (.inl rfl) rfl | exact pure_move (.inr rfl) rfl | exact pure_nilCheck rfl rfl | exact pure_field rfl rfl (by rfl) rfl (by decide +kernel) | exact pure_int rfl rfl rfl rfl | exact pure_not rfl rfl | exact pure_pickT rfl rfl rfl | exact pure_pickF rfl rfl rfl | exact pure_shift rfl rfl rfl rfl | exact pure_eqlNil rfl rfl rfl (by rfl) | exact pure_conv rfl rfl (by rfl) (by rfl))) ?_
        rw [wrap64 (by omega)]
        (repeat (first | refine TkO.done W3 (by rfl) ?_ | refine TkO.unwantedS W3 (by rfl) (by rfl) (by rfl) (by rfl) ?_ | refine TkO.pureS W3 (by rfl) (by rfl) (by rfl) (by rfl) (by first | exact pure_move (.inl rfl) rfl | exact pure_move (.inr rfl) rfl | exact pure_nilCheck rfl rfl | exact pure_field rfl rfl (by rfl) rfl (by decide +kernel) | exact pure_int rfl rfl rfl rfl | exact pure_not rfl rfl | exact pure_pickT rfl rfl rfl | exact pure_pickF rfl rfl rfl | exact pure_shift rfl rfl rfl rfl | exact pure_eqlNil rfl rfl rfl (by rfl) | exact pure_conv rfl rfl (by rfl) (by rfl)) ?_ | refine Tk.seq (WkP.wk W3) ?_ | refine Tk.reg W3 ?_ | refine Tk.skip (WkP.wk W3) ?_ | refine Tk.block (WkP.wk W3) ?_ | refine Tk.condT (WkP.wk W3) rfl ?_ | refine Tk.condF (WkP.wk W3) rfl ?_ | refine Tk.exit (WkP.wk W3) rfl ?_ | refine Tk.label (WkP.wk W3) ?_))
        refine Tk.inLoop W3.wk ?_
        rw [← hK]
        have e4 : lf = nWk wk - (m + 1) := by omega
        rw [e4] at A3
        exact Tk.sub (ihN N2 (by omega) (m + 1) l3 w3 (by omega) (by omega) A3 hown3 hv3a) (AllGet.sub ⟨rfl, rfl, rfl, rfl, rfl, rfl, rfl, trivial⟩)
      · exact worker T ⟨⟨hi', by omega, rfl, rfl, rfl, rfl, rfl, rfl⟩, rfl, fun j hj => by cases hj⟩
    · have hmm : m = nWk wk := by omega
      refine Tk.condF W1.wk (congrArg (fun b => some (Value.bool b)) (decide_eq_false (show ¬ (m : Int) < (nWk wk : Int) by omega))) ?_
      subst hmm
      rw [Nat.sub_self] at A1
      (repeat (first | refine TkO.done W1 (by rfl) ?_ | refine TkO.unwantedS W1 (by rfl) (by rfl) (by rfl) (by rfl) ?_ | refine TkO.pureS W1 (by rfl) (by rfl) (by rfl) (by rfl) (by first | exact pure_move (.inl rfl) rfl | exact pure_move (.inr rfl) rfl | exact pure_nilCheck rfl rfl | exact pure_field rfl rfl (by rfl) rfl (by decide +kernel) | exact pure_int rfl rfl rfl rfl | exact pure_not rfl rfl | exact pure_pickT rfl rfl rfl | exact pure_pickF rfl rfl rfl | exact pure_shift rfl rfl rfl rfl | exact pure_eqlNil rfl rfl rfl (by rfl) | exact pure_conv rfl rfl (by rfl) (by rfl)) ?_ | refine Tk.seq (WkP.wk W1) ?_ | refine Tk.reg W1 ?_ | refine Tk.skip (WkP.wk W1) ?_ | refine Tk.block (WkP.wk W1) ?_ | refine Tk.condT (WkP.wk W1) rfl ?_ | refine Tk.condF (WkP.wk W1) rfl ?_ | refine Tk.exit (WkP.wk W1) rfl ?_ | refine Tk.label (WkP.wk W1) ?_))
      refine TkO.pureS W1 (by rfl) (by rfl) (by rfl) (by rfl) (pure_len rfl rfl (by rfl)) ?_
      (repeat (first | refine TkO.done W1 (by rfl) ?_ | refine TkO.unwantedS W1 (by rfl) (by rfl) (by rfl) (by rfl) ?_ | refine TkO.pureS W1 (by rfl) (by rfl) (by rfl) (by rfl) (by first | exact pure_move (.inl rfl) rfl | exact pure_move (.inr rfl) rfl | exact pure_nilCheck rfl rfl | exact pure_field rfl rfl (by rfl) rfl (by decide +kernel) | exact pure_int rfl rfl rfl rfl | exact pure_not rfl rfl | exact pure_pickT rfl rfl rfl | exact pure_pickF rfl rfl rfl | exact pure_shift rfl rfl rfl rfl | exact pure_eqlNil rfl rfl rfl (by rfl) | exact pure_conv rfl rfl (by rfl) (by rfl)) ?_ | refine Tk.seq (WkP.wk W1) ?_ | refine Tk.reg W1 ?_ | refine Tk.skip (WkP.wk W1) ?_ | refine Tk.block (WkP.wk W1) ?_ | refine Tk.condT (WkP.wk W1) rfl ?_ | refine Tk.condF (WkP.wk W1) rfl ?_ | refine Tk.exit (WkP.wk W1) rfl ?_ | refine Tk.label (WkP.wk W1) ?_))
      refine Tk.loop W1.wk ?_
      refine Tk.cut fun K2 hK2 => ?_
      have HS : ∀ N2 q (l' : Lo) (w' : World), N2 ≤ N' → q ≤ E.nj → Mn l' 0 ⟨0, 0, q, false⟩ → l'.own = l.own → View l.own w w' →
          Tk E N2 0 l' w' (base 14) 31 [(20, .int .i64 (E.nj : Int)), (21, .int .i64 (q : Int)), (19, .slice bs E.nj cap), (4, ptr A 0), (5, ptr C 0), (6, ptr B 0), (7, ptr H 0)] [] K2 cs := by
        intro N2
        induction N2 using Nat.strongRecOn with
        | ind N2 ihN2 =>
        intro q l' w' hN2 hq A1 hown hv1
        have W1 := Wl l' A1.ch
        rw [hK2]
        refine Tk.seq W1.wk ?_
        refine Tk.reg W1 ?_
        refine TkO.pureS W1 (by rfl) (by rfl) (by rfl) (by rfl) (by (first | exact pure_move (.inl rfl) rfl | exact pure_move (.inr rfl) rfl | exact pure_nilCheck rfl rfl | exact pure_field rfl rfl (by rfl) rfl (by decide +kernel) | exact pure_int rfl rfl rfl rfl | exact pure_not rfl rfl | exact pure_pickT rfl rfl rfl | exact pure_pickF rfl rfl rfl | exact pure_shift rfl rfl rfl rfl | exact pure_eqlNil rfl rfl rfl (by rfl) | exact pure_conv rfl rfl (by rfl) (by rfl))) ?_
        refine TkO.done W1 (by rfl) ?_
        refine Tk.seq W1.wk ?_
        by_cases hlt : q < E.nj
        · refine Tk.condT W1.wk (congrArg (fun b => some (Value.bool b)) (decide_eq_true (show (q : Int) < (E.nj : Int) by omega))) ?_
          obtain ⟨rb, ro, rfl, hrb, hrc⟩ := hRs.at_ q hlt
          obtain ⟨r, hr1, _⟩ := T.jv q
          have hrc' : w'.cell? (adr rb (ro + q)) = some (E.jv q) := by rw [(cell_same (a := adr rb (ro + q)) (hv1.2 rb hrb)).1]; exact hrc
          (repeat (first | refine TkO.done W1 (by rfl) ?_ | refine TkO.unwantedS W1 (by rfl) (by rfl) (by rfl) (by rfl) ?_ | refine TkO.pureS W1 (by rfl) (by rfl) (by rfl) (by rfl) (by first | exact pure_move (.inl rfl) rfl | exact pure_move (.inr rfl) rfl | exact pure_nilCheck rfl rfl | exact pure_field rfl rfl (by rfl) rfl (by decide +kernel) | exact pure_int rfl rfl rfl rfl | exact pure_not rfl rfl | exact pure_pickT rfl rfl rfl | exact pure_pickF rfl rfl rfl | exact pure_shift rfl rfl rfl rfl | exact pure_eqlNil rfl rfl rfl (by rfl) | exact pure_conv rfl rfl (by rfl) (by rfl)) ?_ | refine Tk.seq (WkP.wk W1) ?_ | refine Tk.reg W1 ?_ | refine Tk.skip (WkP.wk W1) ?_ | refine Tk.block (WkP.wk W1) ?_ | refine Tk.condT (WkP.wk W1) rfl ?_ | refine Tk.condF (WkP.wk W1) rfl ?_ | refine Tk.exit (WkP.wk W1) rfl ?_ | refine Tk.label (WkP.wk W1) ?_))
          refine TkO.pureS W1 (by rfl) (by rfl) (by rfl) (by rfl) (pure_index rfl (by rfl) (by decide +kernel) rfl rfl (by omega)) ?_
          rw [show ((q : Int)).toNat = q by omega]
          refine TkO.open (by rfl) (Tk.oload W1.wk A1.rel (x := .tmp 23) (ad := adr rb (ro + q)) (v := E.jv q) (by rfl) (by rfl) (by rfl) (by rfl) (by rw [hP]; rfl) (by rfl) (by rw [hown]; exact hrb) hrc' ?_)
          refine Tk.lay (rfl : Nv.put _ _ _ = (_, _) :: _) ?_
          show TkO _ _ _ _ _ _ _ _ _ _ 2 _ _
          (repeat (first | refine TkO.done W1 (by rfl) ?_ | refine TkO.unwantedS W1 (by rfl) (by rfl) (by rfl) (by rfl) ?_ | refine TkO.pureS W1 (by rfl) (by rfl) (by rfl) (by rfl) (by first | exact pure_move (.inl rfl) rfl | exact pure_move (.inr rfl) rfl | exact pure_nilCheck rfl rfl | exact pure_field rfl rfl (by rfl) rfl (by decide +kernel) | exact pure_int rfl rfl rfl rfl | exact pure_not rfl rfl | exact pure_pickT rfl rfl rfl | exact pure_pickF rfl rfl rfl | exact pure_shift rfl rfl rfl rfl | exact pure_eqlNil rfl rfl rfl (by rfl) | exact pure_conv rfl rfl (by rfl) (by rfl)) ?_ | refine Tk.seq (WkP.wk W1) ?_ | refine Tk.reg W1 ?_ | refine Tk.skip (WkP.wk W1) ?_ | refine Tk.block (WkP.wk W1) ?_ | refine Tk.condT (WkP.wk W1) rfl ?_ | refine Tk.condF (WkP.wk W1) rfl ?_ | refine Tk.exit (WkP.wk W1) rfl ?_ | refine Tk.label (WkP.wk W1) ?_))
          refine TkO.gload W1 (ad := adr H 0) q14 A1.live A1.rel (by rfl) (by rfl) (by rfl) (by rfl) (by rfl) (by rfl) (by rfl) fun G w2 u hg hact hlo hv2 => ?_
          have hm2 := hg.more
          rw [T.cg.app] at hm2
          refine ⟨_, _, hm2.1.2, .inl rfl, ?_⟩
          have A2 : Mn { l' with kn := fun x => if x = adr H 0 then some (.chan (some E.c)) else l'.kn x } 0 ⟨0, 0, q, false⟩ := ⟨A1.live, A1.ch, A1.rel, A1.mr, A1.job, A1.deaf, A1.gr, A1.me⟩
          have hown2 : ({ l' with kn := fun x => if x = adr H 0 then some (.chan (some E.c)) else l'.kn x } : Lo).own = l.own := hown
          have hv2a : View l.own w w2 := hv1.trans (hown ▸ hv2)
          generalize ({ l' with kn := fun x => if x = adr H 0 then some (.chan (some E.c)) else l'.kn x } : Lo) = l2 at A2 hown2
          have W2 := Wl l2 A2.ch
          refine TkO.moveSend W2 T.hC A2.live A2.me hlt A2.gr (d := 26) (v := E.jv q) (x := .tmp 25) (y := .tmp 26) (by rfl) (by rfl) (by rfl) (by rfl) (pure_move (.inl rfl) rfl) (by rfl) (by rfl) (by rfl) (by rfl) (by rfl) (by rfl) fun N3 hN3 w3 hv3 => ?_
          have A3 : Mn { l2 with me := ⟨0, 0, q + 1, false⟩ } 0 ⟨0, 0, q + 1, false⟩ := A2.to
          have hown3 : ({ l2 with me := ⟨0, 0, q + 1, false⟩ } : Lo).own = l.own := hown2
          have hv3a : View l.own w w3 := hv2a.trans (hown2 ▸ hv3)
          generalize ({ l2 with me := ⟨0, 0, q + 1, false⟩ } : Lo) = l3 at A3 hown3
          have W3 := Wl l3 A3.ch
          refine TkO.done W3 (by rfl) ?_
          refine Tk.inBlock W3.wk ?_
          refine Tk.reg W3 ?_
          refine TkO.pureS W3 (by rfl) (by rfl) (by rfl) (by rfl) (by (first | exact pure_move (.inl rfl) rfl | exact pure_move (.inr rfl) rfl | exact pure_nilCheck rfl rfl | exact pure_field rfl rfl (by rfl) rfl (by decide +kernel) | exact pure_int rfl rfl rfl rfl | exact pure_not rfl rfl | exact pure_pickT rfl rfl rfl | exact pure_pickF rfl rfl rfl | exact pure_shift rfl rfl rfl rfl | exact pure_eqlNil rfl rfl rfl (by rfl) | exact pure_conv rfl rfl (by rfl) (by rfl))) ?_
          rw [wrap64 (by have := T.nj; omega)]
          (repeat (first | refine TkO.done W3 (by rfl) ?_ | refine TkO.unwantedS W3 (by rfl) (by rfl) (by rfl) (by rfl) ?_ | refine TkO.pureS W3 (by rfl) (by rfl) (by rfl) (by rfl) (by first | exact pure_move (.inl rfl) rfl | exact pure_move (.inr rfl) rfl | exact pure_nilCheck rfl rfl | exact pure_field rfl rfl (by rfl) rfl (by decide +kernel) | exact pure_int rfl rfl rfl rfl | exact pure_not rfl rfl | exact pure_pickT rfl rfl rfl | exact pure_pickF rfl rfl rfl | exact pure_shift rfl rfl rfl rfl | exact pure_eqlNil rfl rfl rfl (by rfl) | exact pure_conv rfl rfl (by rfl) (by rfl)) ?_ | refine Tk.seq (WkP.wk W3) ?_ | refine Tk.reg W3 ?_ | refine Tk.skip (WkP.wk W3) ?_ | refine Tk.block (WkP.wk W3) ?_ | refine Tk.condT (WkP.wk W3) rfl ?_ | refine Tk.condF (WkP.wk W3) rfl ?_ | refine Tk.exit (WkP.wk W3) rfl ?_ | refine Tk.label (WkP.wk W3) ?_))
          refine Tk.inLoop W3.wk ?_
          rw [← hK2]
          exact Tk.sub (ihN2 N3 (by omega) (q + 1) l3 w3 (by omega) (by omega) A3 hown3 hv3a) (AllGet.sub ⟨rfl, rfl, rfl, rfl, rfl, rfl, rfl, trivial⟩)
        · have hqq : q = E.nj := by omega
          refine Tk.condF W1.wk (congrArg (fun b => some (Value.bool b)) (decide_eq_false (show ¬ (q : Int) < (E.nj : Int) by omega))) ?_
          subst hqq
          (repeat (first | refine TkO.done W1 (by rfl) ?_ | refine TkO.unwantedS W1 (by rfl) (by rfl) (by rfl) (by rfl) ?_ | refine TkO.pureS W1 (by rfl) (by rfl) (by rfl) (by rfl) (by first | exact pure_move (.inl rfl) rfl | exact pure_move (.inr rfl) rfl | exact pure_nilCheck rfl rfl | exact pure_field rfl rfl (by rfl) rfl (by decide +kernel) | exact pure_int rfl rfl rfl rfl | exact pure_not rfl rfl | exact pure_pickT rfl rfl rfl | exact pure_pickF rfl rfl rfl | exact pure_shift rfl rfl rfl rfl | exact pure_eqlNil rfl rfl rfl (by rfl) | exact pure_conv rfl rfl (by rfl) (by rfl)) ?_ | refine Tk.seq (WkP.wk W1) ?_ | refine Tk.reg W1 ?_ | refine Tk.skip (WkP.wk W1) ?_ | refine Tk.block (WkP.wk W1) ?_ | refine Tk.condT (WkP.wk W1) rfl ?_ | refine Tk.condF (WkP.wk W1) rfl ?_ | refine Tk.exit (WkP.wk W1) rfl ?_ | refine Tk.label (WkP.wk W1) ?_))
          refine TkO.gload W1 (ad := adr H 0) q14 A1.live A1.rel (by rfl) (by rfl) (by rfl) (by rfl) (by rfl) (by rfl) (by rfl) fun G w2 u hg hact hlo hv2 => ?_
          have hm2 := hg.more
          rw [T.cg.app] at hm2
          refine ⟨_, _, hm2.1.2, .inl rfl, ?_⟩
          have A2 : Mn { l' with kn := fun x => if x = adr H 0 then some (.chan (some E.c)) else l'.kn x } 0 ⟨0, 0, E.nj, false⟩ := ⟨A1.live, A1.ch, A1.rel, A1.mr, A1.job, A1.deaf, A1.gr, A1.me⟩
          have hown2 : ({ l' with kn := fun x => if x = adr H 0 then some (.chan (some E.c)) else l'.kn x } : Lo).own = l.own := hown
          have hv2a : View l.own w w2 := hv1.trans (hown ▸ hv2)
          generalize ({ l' with kn := fun x => if x = adr H 0 then some (.chan (some E.c)) else l'.kn x } : Lo) = l2 at A2 hown2
          have W2 := Wl l2 A2.ch
          refine TkO.close W2 T.hC A2.live A2.me A2.rel q14 (by rfl) (by rfl) (by rfl) (by rfl) (by rfl) fun w3 hv3 => ?_
          have hme3 : (⟨0, 0, E.nj, true⟩ : Me) = ⟨0, 0, E.nj, true⟩ := rfl
          have A3 : Wt E { l2 with me := ⟨0, 0, E.nj, true⟩ } .out 0 true := ⟨A2.live, A2.ch, A2.rel, A2.mr, A2.job, A2.deaf, A2.gr, _, rfl⟩
          have hown3 : ({ l2 with me := ⟨0, 0, E.nj, true⟩ } : Lo).own = l.own := hown2
          have hv3a : View l.own w w3 := hv2a.trans (hown2 ▸ hv3)
          generalize ({ l2 with me := ⟨0, 0, E.nj, true⟩ } : Lo) = l3 at A3 hown3
          have W3 := Wl l3 A3.ch
          (repeat (first | refine TkO.done W3 (by rfl) ?_ | refine TkO.unwantedS W3 (by rfl) (by rfl) (by rfl) (by rfl) ?_ | refine TkO.pureS W3 (by rfl) (by rfl) (by rfl) (by rfl) (by first | exact pure_move (.inl rfl) rfl | exact pure_move (.inr rfl) rfl | exact pure_nilCheck rfl rfl | exact pure_field rfl rfl (by rfl) rfl (by decide +kernel) | exact pure_int rfl rfl rfl rfl | exact pure_not rfl rfl | exact pure_pickT rfl rfl rfl | exact pure_pickF rfl rfl rfl | exact pure_shift rfl rfl rfl rfl | exact pure_eqlNil rfl rfl rfl (by rfl) | exact pure_conv rfl rfl (by rfl) (by rfl)) ?_ | refine Tk.seq (WkP.wk W3) ?_ | refine Tk.reg W3 ?_ | refine Tk.skip (WkP.wk W3) ?_ | refine Tk.block (WkP.wk W3) ?_ | refine Tk.condT (WkP.wk W3) rfl ?_ | refine Tk.condF (WkP.wk W3) rfl ?_ | refine Tk.exit (WkP.wk W3) rfl ?_ | refine Tk.label (WkP.wk W3) ?_))
          refine TkO.callN W3 (by rfl) (by rfl) (by rfl) (by rfl) (by rfl) b21 rfl fun fr1 hk1 => ?_
          refine wait21 hf hP T.wg A3 (fun _ => rfl) fun l4 w4 A4 ho4 hv4 => hk1 _ _ _ _ ?_
          have W4 := Wl l4 A4.ch
          refine TkO.done W4 (by rfl) ?_
          refine Tk.sub (env' := [(4, ptr A 0), (5, ptr C 0)]) ?_ (AllGet.sub ⟨rfl, rfl, trivial⟩)
          have := h l4 w4 A4 (ho4.trans hown3) (hv3a.trans (hown3 ▸ hv4))
          exact fun a ha hds => Tr.le (this a ha hds) (Nat.le_trans hN2 hN)
      exact Tk.sub (HS N' 0 l' w' (Nat.le_refl _) (Nat.zero_le _) A1 hown hv1) (AllGet.sub ⟨rfl, rfl, rfl, rfl, rfl, rfl, rfl, trivial⟩)
  exact Tk.sub (HH N 0 l w (Nat.le_refl _) (by omega) A0 rfl (View.refl _ _)) (AllGet.sub ⟨rfl, rfl, rfl, rfl, rfl, rfl, rfl, trivial⟩)
end Go.Co.F1

namespace Go.Co.F1
open Go Go.Conc Go.Proofs
open Go.Co
open Go.ConcM (OsLater)
open Go.ConcN (sumTo upd sumTo_upd upd_ne upd_same sumTo_congr le_sumTo sumTo_le)
set_option maxRecDepth 10000
def tSc (C B : Nat) : SC → Addr
  | .done _ => adr C 0
  | .word _ => adr C 1
  | .sema _ => adr C 2
  | .wst => adr B 0
  | .wsm => adr B 1
def tIni (C : Nat) (a : Addr) : Option (Value × Nat) := if a = adr C 3 then some (.slice none 0 0, 0) else none
def tApp (C H c : Nat) (a : Addr) : Option (Value × Gd) := if a = adr C 3 then some (.slice none 0 0, .prot 0) else if a = adr H 0 then some (.chan (some c), .ro) else none
noncomputable def tGeo (Sh : Nat → Prop) (n : Nat) (w : World) (C H B c nj : Nat) (jv : Nat → Value) (rs : Nat → Option Nat) (fin : Lo → Goroutine → World → Prop) (finJ : ∀ l g w, fin l g w → l.gr = .joined) : Geo where
  P := Try.prog
  K := 1
  sc := tSc C B
  c := c
  hasC := true
  n0 := n
  shun := Sh
  nj := nj
  jv := jv
  rs := rs
  w0 := w
  ini := tIni C
  App := CApp C H (.chan (some c))
  fin := fin
  finJ := finJ
def tLo (own : Nat → Prop) (lf : Nat) : Lo := { live := true, wk := false, own, deaf := 0, mr := none, old := none, pas := fun _ => false, run := none, ch := .no, rel := none, gr := .out, job := none, kn := fun _ => none, me := ⟨lf, 0, 0, false⟩, sc := false }
def tGh (n : Nat) (own : Nat → Prop) (C H c lf : Nat) : Gh := { n, th := fun i => if i = 0 then tLo own lf else deadLo, left := lf, wd := fun _ => ⟨false, false, false, 0⟩, sm := fun _ => 0, dn := fun _ => false, app := tApp C H c, wn := 0, ww := 0, ws := 0, pend := 0, cl := false, pos := 0, cv := fun _ => 0, tk := fun _ => none }
structure TSt (w : World) (C H B c : Nat) : Prop where
  c0 : w.cell? (adr C 0) = some (.int .u32 0)
  c1 : w.cell? (adr C 1) = some (.int .i32 0)
  c2 : w.cell? (adr C 2) = some (.int .u32 0)
  c3 : w.cell? (adr C 3) = some (.slice none 0 0)
  cf : ∀ o, o ≤ 3 → w.frozen? (adr C o) = false
  h0 : w.cell? (adr H 0) = some (.chan (some c))
  hf : w.frozen? (adr H 0) = false
  b0 : w.cell? (adr B 0) = some (.int .u64 0)
  b1 : w.cell? (adr B 1) = some (.int .u32 0)
  bf : ∀ o, o ≤ 1 → w.frozen? (adr B o) = false
  ch : ∃ s r, w.heap[c]? = some (.chan 0 #[] false s r false)
def less (own : Nat → Prop) (C H B c : Nat) (b : Nat) : Prop := own b ∧ b ≠ C ∧ b ≠ H ∧ b ≠ B ∧ b ≠ c
section
variable {w : World} {C H B c : Nat}
theorem TSt.CH (s : TSt w C H B c) : C ≠ H := fun e => by have := s.c0; rw [e, s.h0] at this; cases this
theorem TSt.CB (s : TSt w C H B c) : C ≠ B := fun e => by have := s.c0; rw [e, s.b0] at this; cases this
theorem TSt.HB (s : TSt w C H B c) : H ≠ B := fun e => by have := s.h0; rw [e, s.b0] at this; cases this
theorem TSt.ne (s : TSt w C H B c) {b o : Nat} {v : Value} (h : w.cell? (adr b o) = some v) : b ≠ c := fun e => by
  obtain ⟨x, r, hc⟩ := s.ch
  unfold World.cell? at h
  rw [show (adr b o).block = c from e, hc] at h
  cases h
end
theorem lt_ok {x : SC} : x.ok 1 ↔ x = .done 0 ∨ x = .word 0 ∨ x = .sema 0 ∨ x = .wst ∨ x = .wsm := by
  cases x <;> simp [SC.ok]
theorem mu_zero {c : Ro → Nat} (h : ∀ r, c r = 0) : MuI ⟨false, false, false, 0⟩ 0 c := by
  refine ⟨by rw [h]; rfl, fun _ => by simp [h], fun e => by cases e⟩
variable {Sh : Nat → Prop} {n R : Nat} {w : World} {t : Trace} {C H B c nj : Nat} {jv : Nat → Value} {rs : Nat → Option Nat} {fin : Lo → Goroutine → World → Prop} {finJ : ∀ l g w, fin l g w → l.gr = .joined} {own : Nat → Prop}
theorem tApp_some {a : Addr} {v : Value} {d : Gd} (h : tApp C H c a = some (v, d)) : (a = adr C 3 ∧ v = .slice none 0 0 ∧ d = .prot 0) ∨ (a = adr H 0 ∧ v = .chan (some c) ∧ d = .ro) := by
  unfold tApp at h
  split at h
  · rename_i e; cases h; exact .inl ⟨e, rfl, rfl⟩
  · split at h
    · rename_i e; cases h; exact .inr ⟨e, rfl, rfl⟩
    · cases h
theorem tally_GI (h : Past Sh n R w.heap.size t) (ho : ∀ b, own b → b < w.heap.size ∧ ¬ Sh b) (s : TSt w C H B c) (hB : R ≤ B) (hsh : ¬ Sh C ∧ ¬ Sh H ∧ ¬ Sh B ∧ ¬ Sh c) {lf : Nat} (hlf : 1 ≤ lf ∧ lf ≤ 8) :
    GI (tGeo Sh n w C H B c nj jv rs fin finJ) (tGh n (less own C H B c) C H c lf) w t := by
  have hl : ∀ i, ((tGh n (less own C H B c) C H c lf).th i).live = true → i = 0 := fun i hi => by
    by_cases e : i = 0
    · exact e
    · simp [tGh, e, deadLo] at hi
  have h0 : (tGh n (less own C H B c) C H c lf).th 0 = tLo (less own C H B c) lf := rfl
  have hd : ∀ i, i ≠ 0 → (tGh n (less own C H B c) C H c lf).th i = deadLo := fun i e => if_neg e
  have hno : ∀ g, ¬ (tGeo Sh n w C H B c nj jv rs fin finJ).ours (tGh n (less own C H B c) C H c lf) g := fun g ⟨a, b⟩ => Nat.lt_irrefl g (Nat.lt_of_lt_of_le b a)
  have hs : ∀ (f : Lo → Nat), f deadLo = 0 → f (tLo (less own C H B c) lf) = 0 → sumTo (tGh n (less own C H B c) C H c lf).n (fun i => f ((tGh n (less own C H B c) C H c lf).th i)) = 0 := fun f f1 f2 => sumTo_zero fun i _ => by
    by_cases e : i = 0
    · subst e; exact f2
    · rw [hd i e]; exact f1
  have hscne : ∀ x : SC, x.ok 1 → (tSc C B x).block = C ∨ (tSc C B x).block = B := fun x hx => by
    rcases lt_ok.1 hx with rfl | rfl | rfl | rfl | rfl <;> first | exact .inl rfl | exact .inr rfl
  have key : ∀ l i a, touchAt t i = some a → a.loc = l → l.isMemory = true → (∀ b, l = .cell b → ¬ Sh b.block) → Knows t 0 i := fun l i a ha hal hm hb => by
    obtain ⟨op, h1, h2⟩ := touch_of ha
    rcases h.known i op a h1 h2 (by rw [hal]; exact hm) with k | ⟨b, k1, k2, _⟩
    · exact k
    · exact absurd k2 (hb b (by rw [← hal]; exact k1))
  refine ⟨⟨⟨h.pos, Nat.le_refl _⟩, rfl, fun i hi => ⟨by rw [hl i hi]; exact h.pos, .inl (hl i hi)⟩, ?_, fun e => by cases e⟩, ⟨fun i j b hi hj hij => absurd ((hl i hi).trans (hl j hj).symm) hij, fun i b hi hb => ?_, fun i b hi hb => ?_, h.shun, Nat.le_refl _, fun a v e => (by
      rcases tApp_some (v := v.1) (d := v.2) e with ⟨x, _⟩ | ⟨x, _⟩
      · rw [x]; exact hsh.1
      · rw [x]; exact hsh.2.1)⟩,
    ⟨fun x hx => ?_, fun a v d e => ?_, fun x y hx hy e => ?_, fun _ => ⟨s.ch, fun x hx => ?_, fun a v e => ?_⟩, rfl, rfl, OsLater.refl _⟩, ?_, ?_, ?_, ?_, ?_⟩
  · show sumTo n _ + lf ≤ 48
    rw [sumTo_only0 h.pos fun i e => by rw [hd i e]; rfl]
    rw [h0]
    show 1 + lf ≤ 48
    omega
  · rw [hl i hi] at hb; exact (ho b hb.1).1
  · rw [hl i hi] at hb
    obtain ⟨b1, b2, b3, b4, b5⟩ := hb
    refine ⟨fun x hx e => ?_, fun a v e1 e2 => ?_, fun _ => b5, (ho b b1).2⟩
    · rcases hscne x hx with y | y
      · exact b2 (e.symm.trans y)
      · exact b4 (e.symm.trans y)
    · rcases tApp_some e1 with ⟨y, _⟩ | ⟨y, _⟩
      · exact b2 (by rw [← e2, y])
      · exact b3 (by rw [← e2, y])
  · rcases lt_ok.1 hx with rfl | rfl | rfl | rfl | rfl
    · exact ⟨s.c0, s.cf 0 (by decide)⟩
    · exact ⟨s.c1, s.cf 1 (by decide)⟩
    · exact ⟨s.c2, s.cf 2 (by decide)⟩
    · have ev : (tGh n (less own C H B c) C H c lf).val .wst = .int .u64 0 := by simp [Gh.val, tGh]
      exact ⟨by rw [ev]; exact s.b0, s.bf 0 (by decide)⟩
    · exact ⟨s.b1, s.bf 1 (by decide)⟩
  · rcases tApp_some e with ⟨rfl, rfl, _⟩ | ⟨rfl, rfl, _⟩
    · refine ⟨s.c3, s.cf 3 (by decide), fun x hx e => ?_⟩
      rcases lt_ok.1 hx with rfl | rfl | rfl | rfl | rfl
      · cases e
      · cases e
      · cases e
      · cases e
      · cases e
    · refine ⟨s.h0, s.hf, fun x hx e => ?_⟩
      rcases hscne x hx with y | y
      · exact s.CH (by rw [← y, ← show (adr H 0) = tSc C B x from e])
      · exact s.HB (by rw [← y, ← show (adr H 0) = tSc C B x from e])
  · have e : tSc C B x = tSc C B y := e
    have hCB := s.CB
    rcases lt_ok.1 hx with rfl | rfl | rfl | rfl | rfl <;> rcases lt_ok.1 hy with rfl | rfl | rfl | rfl | rfl <;> first | rfl | (simp [tSc, adr] at e; done) | (simp [tSc, adr] at e; exact absurd e hCB) | (simp [tSc, adr] at e; exact absurd e.symm hCB)
  · rcases hscne x hx with y | y
    · exact fun e => s.ne s.c0 (y.symm.trans e)
    · exact fun e => s.ne s.b0 (y.symm.trans e)
  · rcases tApp_some e with ⟨rfl, _⟩ | ⟨rfl, _⟩
    · exact s.ne s.c3
    · exact s.ne s.h0
  · -- onces
    refine ⟨fun k hk => ?_, fun i k r hi e => ?_, fun i k hi e => ?_, fun i k hi e => ?_, fun a v k e => ?_, fun a v k e _ => ?_, fun i a v hi e => ?_⟩
    · exact mu_zero fun r => hs (fun l => l.at k r) rfl (by simp [Lo.at, tLo])
    · rw [hl i hi] at e; cases e
    · rw [hl i hi] at e; cases e
    · rw [hl i hi] at e; cases e
    · rcases tApp_some e with ⟨rfl, rfl, e'⟩ | ⟨_, _, e'⟩
      · cases e'
        refine ⟨Nat.zero_lt_one, rfl, .inr ⟨fun i hi e => ?_, ?_⟩⟩
        · rw [hl i hi] at e; cases e
        · show tIni C (adr C 3) = _
          unfold tIni; rw [if_pos rfl]
      · cases e'
    · have e : tIni C a = some (v, k) := e
      unfold tIni at e
      split at e
      · rename_i e2
        cases e
        exact ⟨.slice none 0 0, by show tApp C H c a = _; unfold tApp; rw [if_pos e2]⟩
      · cases e
    · rw [hl i hi] at e; cases e
  · refine ⟨?_, ?_, ?_, fun e => ?_, fun e => ?_, fun e => ?_, fun e => ?_, Nat.zero_le _, fun i hi => ⟨fun e => ?_, fun e => absurd (hl i hi) e⟩, fun e => ?_⟩
    · rw [hs Lo.busy rfl rfl]; rfl
    · rw [hs Lo.lastsS rfl rfl]; rfl
    · rw [hs Lo.lasts rfl rfl]; exact Nat.le_refl _
    · rfl
    · rfl
    · cases e
    · rcases e with e | e <;> cases e
    · subst e; exact ⟨rfl, .inl rfl⟩
    · rcases e with ⟨m, e⟩ | e <;> cases e
  · refine ⟨fun e => (by cases e), fun i v hi e => ?_, fun i hi e => ?_, fun e => (by cases e), Nat.zero_le _, fun r => ?_, fun i j hi e => ?_, ⟨fun _ _ => rfl, fun j i e => (by cases e)⟩, fun _ _ g hg => absurd hg (hno g), fun _ e => ?_, fun _ e => absurd rfl e, fun i hi e => ?_, rfl, fun i hi e => ?_⟩
    · rw [hl i hi] at e; cases e
    · rw [hl i hi] at e; cases e
    · rw [hs (Lo.holds (tGeo Sh n w C H B c nj jv rs fin finJ).rs r) rfl rfl]; rfl
    · rw [hl i hi] at e; cases e
    · have : lf = 0 := e
      omega
    · rw [hl i hi] at e; exact absurd rfl e
    · rw [hl i hi] at e; cases e
  · refine ⟨⟨Ne.symm s.CH, ?_⟩, .inl ⟨rfl, ⟨.slice none 0 0, ?_⟩, fun a v d e => ?_, fun _ => rfl⟩⟩
    · show tApp C H c (adr H 0) = _
      unfold tApp
      rw [if_neg fun e => s.CH (by cases e), if_pos rfl]
    · show tApp C H c (adr C 3) = _
      unfold tApp
      rw [if_pos rfl]
    · rcases tApp_some e with ⟨x, _⟩ | ⟨x, _⟩
      · exact .inr x
      · exact .inl x
  · refine ⟨⟨h.clean, fun g l i a hw ha hal => ?_, fun g l i a hw ha hal _ => ?_, fun g l i a hw ha hal _ => ?_, fun g l i a hw ha hal _ => ?_, h.seen⟩, fun i hi => by rw [hl i hi]; exact h.deaf, fun j hj => h.quiet j hj, ⟨fun i op a h1 h2 h3 => .inr (h.known i op a h1 h2 h3), fun i op h1 h2 h3 => .inr (h.over i op h1 h2 h3), fun i a e => ?_, fun g hg => absurd hg (hno g), fun k hk e => (by cases e), fun _ g r hg => absurd hg (hno g)⟩⟩
    · obtain ⟨hlv, hw⟩ := hw
      have := hl g hlv
      subst this
      cases l with
      | cell b =>
        refine key _ i a ha hal rfl fun b' e => ?_
        cases e
        rcases hw with hw | ⟨v, k, e, _⟩ | ⟨v, k, e, _⟩
        · exact (ho _ hw.1).2
        · rcases tApp_some e with ⟨x, _⟩ | ⟨_, _, x⟩
          · rw [x]; exact hsh.1
          · cases x
        · rcases tApp_some e with ⟨_, _, x⟩ | ⟨_, _, x⟩ <;> cases x
      | obj r => exact key _ i a ha hal rfl fun b' e => by cases e
      | _ => exact hw.elim
    · obtain ⟨hlv, hw⟩ := hw
      have := hl g hlv
      subst this
      cases l with
      | cell b =>
        refine key _ i a ha hal rfl fun b' e => ?_
        cases e
        obtain ⟨v, e | ⟨k, e, _⟩⟩ := hw
        · rcases tApp_some e with ⟨x, _⟩ | ⟨x, _⟩
          · rw [x]; exact hsh.1
          · rw [x]; exact hsh.2.1
        · rcases tApp_some e with ⟨_, _, x⟩ | ⟨_, _, x⟩ <;> cases x
      | _ => exact hw.elim
    · obtain ⟨hlv, hw⟩ := hw
      have := hl g hlv
      subst this
      cases l with
      | cell b =>
        refine key _ i a ha hal rfl fun b' e => ?_
        cases e
        rcases hw with ⟨x, hx, e⟩ | ⟨v, k, e, _⟩
        · have e : b = tSc C B x := e
          rw [e]
          rcases hscne x hx with y | y
          · rw [y]; exact hsh.1
          · rw [y]; exact hsh.2.2.1
        · rcases tApp_some e with ⟨_, _, x⟩ | ⟨_, _, x⟩ <;> cases x
      | obj r => exact key _ i a ha hal rfl fun b' e => by cases e
      | _ => exact hw.elim
    · obtain ⟨e0, hw⟩ := hw
      subst e0
      cases l with
      | cell b =>
        refine key _ i a ha hal rfl fun b' e => ?_
        cases e
        have e : b = adr B 1 := hw
        rw [e]; exact hsh.2.2.1
      | _ => exact hw.elim
    · have := h.norel i a e
      exact ⟨Nat.lt_of_lt_of_le this h.old, fun e => by rw [e] at this; exact Nat.lt_irrefl _ (Nat.lt_of_lt_of_le this hB)⟩
end Go.Co.F1

namespace Go.Co
open Go Go.Conc
open Go.ConcN (upd upd_ne upd_same)
variable {E : Geo} {N i : Nat} {l : Lo} {w : World}
section
variable {P : Program} {b : Frame} {n : Nat} {env : Nv} {ds : List Deferred} {k : List Item} {cs : List Frame} {ops : Array Oper} {j : Nat} {o : Oper} {f : FuncId} {ats : Array TypeId}
theorem TkO.pent (W : WkP P E l b) (hrel : l.rel = none) {e : Array Value → Sem Value} {xs : Array Operand} {d : Nat} {v : Value} (ho : ops[j]? = some o) (hdd : o.dst = some d) (hd : Nat.blt d n = true) (_hop : o.op = .call { callee := .value (.func f), args := xs, argTypes := ats }) (_he : Ent P f e)
    (h : ∀ w₁, View l.own w w₁ → ∃ w' es, (∀ a, Has n env a → a.defers = ds → stepG P (i == 0) (Conc.G (b.at a (.inRegion ops (j :: List.range' (j + 1) (ops.size - (j + 1))) :: k)) cs) w₁ = .go (Conc.G (b.at (a.put o.dst v) (.inRegion ops (List.range' (j + 1) (ops.size - (j + 1))) :: k)) cs) w' es) ∧
      w'.heap.size = w₁.heap.size ∧ (∀ b, ¬ l.own b → w'.heap[b]? = w₁.heap[b]?) ∧ w'.tape = w₁.tape ∧ w'.os = w₁.os ∧ w'.output = w₁.output ∧ (∀ e ∈ es, PEv l.own e) ∧ TkO E N i l w' b n ((d, v) :: env) ds ops (j + 1) k cs) :
    TkO E N i l w b n env ds ops j k cs := by
  refine TkO.open ho fun a ha hds => ?_
  have hput : Has n ((d, v) :: env) (a.put o.dst v) ∧ (a.put o.dst v).defers = ds := by
    have := ha.put (d := o.dst) (by rw [hdd]; exact hd) v
    rw [hdd] at this ⊢
    exact ⟨this, hds⟩
  refine Tr.priv (runs_G _ _) W.wk.ch fun w₁ hv => ?_
  obtain ⟨w', es, h1, h2, h3, h4, h5, h6, h7, h8⟩ := h w₁ hv
  refine ⟨_, w', es, by rw [W.hP]; exact h1 a ha hds, rfl, ⟨Nat.le_of_eq h2.symm, fun c hc _ => h3 c hc, h4, h5, h6, fun e he => ?_⟩, fun hr => absurd hrel hr, ?_⟩
  · rcases h7 e he with ⟨ad, wr, s, x, y⟩ | ⟨r, wr, x, y⟩ | ⟨m, wr, s, x, y | ⟨ad, y, z⟩⟩
    · exact .inl ⟨ad, wr, s, x, .inl y⟩
    · exact .inr (.inl ⟨r, wr, x, .inl y⟩)
    · exact .inr (.inr ⟨m, wr, s, x, .inl y⟩)
    · exact .inr (.inr ⟨m, wr, s, x, .inr ⟨ad, y, .inl z⟩⟩)
  · rw [h2, Lo.grow_self]; exact h8 _ hput.1 hput.2
theorem own_rw2 {ad : Addr} (h : l.own ad.block) : ∀ e ∈ rw2 ad, PEv l.own e := fun e he => by
  rcases rw2_mem he with rfl | rfl
  · exact .inl ⟨ad, false, true, rfl, h⟩
  · exact .inl ⟨ad, true, true, rfl, h⟩
theorem TkO.paload (W : WkP P E l b) (hrel : l.rel = none) {x : Operand} {kk : IntKind} {ad : Addr} {v : Int} {d : Nat} (hown : l.own ad.block) (hc : w.cell? ad = some (.int kk v)) (ho : ops[j]? = some o) (hw : wantE ops env o = some true) (hdd : o.dst = some d) (hd : Nat.blt d n = true) (hop : o.op = .call { callee := .value (.func f), args := #[x], argTypes := ats }) (he : Ent P f (Extern.Atomic.loadT (.int kk))) (hx : env.ev x = some (.pointer (some ad)))
    (h : ∀ w₁, View l.own w w₁ → TkO E N i l w₁ b n ((d, .int kk v) :: env) ds ops (j + 1) k cs) : TkO E N i l w b n env ds ops j k cs := by
  refine TkO.pent W hrel ho hdd hd hop he fun w₁ hv => ⟨w₁, #[⟨.cell ad, false, true⟩], fun a ha _ => ?_, rfl, fun _ _ => rfl, rfl, rfl, rfl, fun e he => ?_, h w₁ hv⟩
  · obtain ⟨fn, f1, f2, f3, f4, f5⟩ := he.out
    exact stepG_load_atomic ho (ha.want hw) W.wk.kind hop f1 f2 f3 f4 kk f5 (ha.ev hx) (by rw [(cell_same (hv.2 _ hown)).1]; exact hc)
  · simp at he; subst he; exact .inl ⟨ad, false, true, rfl, hown⟩
theorem Tk.pastore {rest : List Nat} (W : Wk E l b) (hrel : l.rel = none) {x y : Operand} {kk : IntKind} {ad : Addr} {v : Int} {u : Value} (hown : l.own ad.block) (hc : w.cell? ad = some u) (hz : w.frozen? ad = false) (ho : ops[j]? = some o) (hw : wantE ops env o = some true) (hd : dstOk n o.dst = true) (hop : o.op = .call { callee := .value (.func f), args := #[x, y], argTypes := ats }) (he : Ent E.P f Extern.Atomic.storeT) (hx : env.ev x = some (.pointer (some ad))) (hy : env.ev y = some (.int kk v))
    (h : ∀ w₁, View l.own w w₁ → Tk E N i l (w₁.setCell ad (.int kk v)) b n (env.put o.dst (.tuple #[])) ds (.inRegion ops rest :: k) cs) : Tk E N i l w b n env ds (.inRegion ops (j :: rest) :: k) cs := by
  intro a ha hds
  refine Tr.priv (runs_G _ _) W.ch fun w₁ hv => ?_
  obtain ⟨e1, e2⟩ := cell_same (hv.2 _ hown)
  obtain ⟨fn, f1, f2, f3, f4, f5⟩ := he.out
  refine ⟨_, w₁.setCell ad (.int kk v), #[⟨.cell ad, true, true⟩], stepG_store_atomic ho (ha.want hw) W.kind hop f1 f2 f3 f4 f5 (ha.ev hx) (ha.ev hy) (by rw [e1]; exact hc) (by rw [e2]; exact hz), rfl, ⟨Nat.le_of_eq (setCell_size ..).symm, fun b hb _ => set_blk w₁ _ _ fun e => hb (e ▸ hown), rfl, rfl, rfl, fun e he => ?_⟩, fun hr => absurd hrel hr, ?_⟩
  · simp at he; subst he; exact .inl ⟨ad, true, true, rfl, .inl hown⟩
  · rw [setCell_size, Lo.grow_self]; exact h w₁ hv _ (ha.put hd _) (by cases o.dst <;> exact hds)
theorem TkO.paadd (W : WkP P E l b) (hrel : l.rel = none) {x y : Operand} {kk : IntKind} {ad : Addr} {v dl r : Int} {d : Nat} (hown : l.own ad.block) (hc : w.cell? ad = some (.int kk v)) (hz : w.frozen? ad = false) (ho : ops[j]? = some o) (hw : wantE ops env o = some true) (hdd : o.dst = some d) (hd : Nat.blt d n = true) (hop : o.op = .call { callee := .value (.func f), args := #[x, y], argTypes := ats }) (he : Ent P f (Extern.Atomic.update (Op.intArith .add) kk true)) (hx : env.ev x = some (.pointer (some ad))) (hy : env.ev y = some (.int kk dl)) (hr : kk.wrap (v + dl) = r)
    (h : ∀ w₁, View l.own w w₁ → TkO E N i l (w₁.setCell ad (.int kk r)) b n ((d, .int kk r) :: env) ds ops (j + 1) k cs) : TkO E N i l w b n env ds ops j k cs := by
  subst hr
  refine TkO.pent W hrel ho hdd hd hop he fun w₁ hv => ⟨w₁.setCell ad (.int kk (kk.wrap (v + dl))), rw2 ad, fun a ha _ => ?_, setCell_size .., fun b hb => set_blk w₁ _ _ fun e => hb (e ▸ hown), rfl, rfl, rfl, own_rw2 hown, h w₁ hv⟩
  obtain ⟨fn, f1, f2, f3, f4, f5⟩ := he.out
  obtain ⟨e1, e2⟩ := cell_same (hv.2 _ hown)
  exact stepG_add_atomic ho (ha.want hw) W.wk.kind hop f1 f2 f3 f4 kk f5 (ha.ev hx) (ha.ev hy) (by rw [e1]; exact hc) (by rw [e2]; exact hz)
theorem TkO.pcas (W : WkP P E l b) (hrel : l.rel = none) {x y z : Operand} {kk : IntKind} {ad : Addr} {v0 v1 : Int} {d : Nat} (hown : l.own ad.block) (hc : w.cell? ad = some (.int kk v0)) (hz : w.frozen? ad = false) (ho : ops[j]? = some o) (hw : wantE ops env o = some true) (hdd : o.dst = some d) (hd : Nat.blt d n = true) (hop : o.op = .call { callee := .value (.func f), args := #[x, y, z], argTypes := ats }) (he : Ent P f (Extern.Atomic.casT (.int kk))) (hx : env.ev x = some (.pointer (some ad))) (hy : env.ev y = some (.int kk v0)) (hzz : env.ev z = some (.int kk v1))
    (h : ∀ w₁, View l.own w w₁ → TkO E N i l (w₁.setCell ad (.int kk v1)) b n ((d, .bool true) :: env) ds ops (j + 1) k cs) : TkO E N i l w b n env ds ops j k cs := by
  refine TkO.pent W hrel ho hdd hd hop he fun w₁ hv => ⟨w₁.setCell ad (.int kk v1), rw2 ad, fun a ha _ => ?_, setCell_size .., fun b hb => set_blk w₁ _ _ fun e => hb (e ▸ hown), rfl, rfl, rfl, own_rw2 hown, h w₁ hv⟩
  obtain ⟨fn, f1, f2, f3, f4, f5⟩ := he.out
  obtain ⟨e1, e2⟩ := cell_same (hv.2 _ hown)
  exact stepG_cas_hit ho (ha.want hw) W.wk.kind hop f1 f2 f3 f4 kk f5 (ha.ev hx) (ha.ev hy) (ha.ev hzz) (by rw [e1]; exact hc) (by rw [e2]; exact hz)
theorem TkO.pmarkAt (W : WkP P E l b) (hrel : l.rel = none) {mk : Addr → Mark} (hm : mk = .acquire ∨ mk = .releaseMerge) {x : Operand} {ad : Addr} {d : Nat} (hown : l.own ad.block) (ho : ops[j]? = some o) (hw : wantE ops env o = some true) (hdd : o.dst = some d) (hd : Nat.blt d n = true) (hop : o.op = .call { callee := .value (.func f), args := #[x], argTypes := ats }) (he : Ent P f (Extern.Race.marked mk)) (hx : env.ev x = some (.pointer (some ad)))
    (h : ∀ w₁, View l.own w w₁ → TkO E N i l w₁ b n ((d, .tuple #[]) :: env) ds ops (j + 1) k cs) : TkO E N i l w b n env ds ops j k cs := by
  refine TkO.pent W hrel ho hdd hd hop he fun w₁ hv => ⟨w₁, #[⟨.mark (mk ad), false, true⟩], fun a ha _ => ?_, rfl, fun _ _ => rfl, rfl, rfl, rfl, fun e he => ?_, h w₁ hv⟩
  · obtain ⟨fn, f1, f2, f3, f4, f5⟩ := he.out
    exact stepG_markAt mk (by rcases hm with rfl | rfl <;> (intro ad g e; cases e)) ho (ha.want hw) W.wk.kind hop f1 f2 f3 f4 f5 (by simp [ha.ev hx])
  · simp at he; subst he
    refine .inr (.inr ⟨_, _, _, rfl, .inr ⟨ad, ?_, hown⟩⟩)
    rcases hm with rfl | rfl
    · exact .inl rfl
    · exact .inr rfl
theorem TkO.pconv (W : WkP P E l b) {s d te : TypeId} {x : Operand} {ad : Addr} {v : Value} {dd : Nat} (hown : l.own ad.block) (hc : w.cell? ad = some v) (ho : ops[j]? = some o) (hw : wantE ops env o = some true) (hdd : o.dst = some dd) (hd : Nat.blt dd n = true) (hop : o.op = .convert s d x) (hs : P.underlying s = some (.pointer te)) (hu : P.underlying d = some .unsafePointer) (hz : P.cellsOf te ≠ 0)
    (hx : env.ev x = some (.pointer (some ad))) (h : TkO E N i l w b n ((dd, .pointer (some ad)) :: env) ds ops (j + 1) k cs) : TkO E N i l w b n env ds ops j k cs := by
  refine TkO.open ho fun a ha hds => ?_
  have hput : Has n ((dd, .pointer (some ad)) :: env) (a.put o.dst (.pointer (some ad))) ∧ (a.put o.dst (.pointer (some ad))).defers = ds := by
    have := ha.put (d := o.dst) (by rw [hdd]; exact hd) (.pointer (some ad))
    rw [hdd] at this ⊢
    exact ⟨this, hds⟩
  refine Tr.still W.wk.fin (runs_G _ _) (g' := Conc.G (b.at (a.put o.dst (.pointer (some ad))) (.inRegion ops (List.range' (j + 1) (ops.size - (j + 1))) :: k)) cs) rfl W.wk.ch (fun w₁ hv => ?_) (h _ hput.1 hput.2)
  obtain ⟨r1, r2⟩ := exec_conv (P := E.P) (a := a) (w := w₁) hop (ha.ev hx) (by rw [W.hP]; exact hs) (by rw [W.hP]; exact hu) (by rw [W.hP]; exact hz) (by rw [(cell_same (hv.2 _ hown)).1]; exact hc)
  rw [stepG_value ho (ha.want hw) W.wk.kind r1]
  unfold listed
  rw [r2, seen_none]
end
end Go.Co

namespace Go.Co.F1
open Go Go.Conc Go.Proofs
open Go.Co
open Go.ConcN (upd upd_ne upd_same)
variable {E : Geo} {N i : Nat} {l : Lo} {w : World}
set_option maxRecDepth 10000
structure Pr (E : Geo) (l : Lo) : Prop where
  fin : E.FinV
  P : E.P = Try.prog
  live : l.live = true
  ch : l.ch = .no
  rel : l.rel = none
  deaf : l.deaf = 0
def Fr (own X : Nat → Prop) (w w' : World) : Prop := w.heap.size ≤ w'.heap.size ∧ ∀ b, own b → ¬ X b → w'.heap[b]? = w.heap[b]?
theorem Fr.refl (own X : Nat → Prop) (w : World) : Fr own X w w := ⟨Nat.le_refl _, fun _ _ _ => rfl⟩
theorem Fr.trans {own X : Nat → Prop} {a b c : World} (h : Fr own X a b) (k : Fr own X b c) : Fr own X a c := ⟨Nat.le_trans h.1 k.1, fun x hx hn => (k.2 x hx hn).trans (h.2 x hx hn)⟩
theorem Fr.view {own X : Nat → Prop} {w w' : World} (h : View own w w') : Fr own X w w' := ⟨h.1, fun b hb _ => h.2 b hb⟩
theorem Fr.set {own X : Nat → Prop} {w : World} {ad : Addr} {v : Value} (h : X ad.block) : Fr own X w (w.setCell ad v) := ⟨Nat.le_of_eq (setCell_size ..).symm, fun _b _ hn => set_blk w _ _ fun e => hn (e ▸ h)⟩
theorem heap_set {w : World} {b o : Nat} {c : Array Value} {e : TypeId} {fr : Nat × Nat} {v : Value} (h : w.heap[b]? = some (.cells c e fr)) : (w.setCell (adr b o) v).heap[b]? = some (.cells (c.setIfInBounds o v) e fr) := by
  unfold World.setCell
  simp [Array.getElem?_modify, h]
theorem cell_at {w : World} {b : Nat} {c : Array Value} {e : TypeId} {fr : Nat × Nat} (h : w.heap[b]? = some (.cells c e fr)) (o : Nat) : w.cell? (adr b o) = c[o]? := by
  unfold World.cell?; rw [show w.heap[(adr b o).block]? = _ from h]; rfl
structure CB (own : Nat → Prop) (w : World) (C : Nat) (d wd : Int) (S : Value) : Prop where
  own : own C
  c0 : w.cell? (adr C 0) = some (.int .u32 d)
  c1 : w.cell? (adr C 1) = some (.int .i32 wd)
  c3 : w.cell? (adr C 3) = some S
  fzz : ∀ o, o ≤ 3 → w.frozen? (adr C o) = false
section
variable {own : Nat → Prop} {w' : World} {C : Nat} {d wd : Int} {S : Value}
theorem CB.of (h : own C) (hh : w.heap[C]? = some (.cells #[.int .u32 d, .int .i32 wd, .int .u32 0, S] 38 (0, 0))) : CB own w C d wd S :=
  ⟨h, by rw [cell_at hh]; rfl, by rw [cell_at hh]; rfl, by rw [cell_at hh]; rfl, fun o _ => by unfold World.frozen?; rw [show w.heap[(adr C o).block]? = _ from hh]; simp⟩
theorem CB.mono {own' : Nat → Prop} (h : CB own w C d wd S) (ho : own' C) (hw : w'.heap[C]? = w.heap[C]?) : CB own' w' C d wd S :=
  ⟨ho, by rw [(cell_same (a := adr C 0) hw).1]; exact h.c0, by rw [(cell_same (a := adr C 1) hw).1]; exact h.c1, by rw [(cell_same (a := adr C 3) hw).1]; exact h.c3, fun o x => by rw [(cell_same (a := adr C o) hw).2]; exact h.fzz o x⟩
theorem CB.view (h : CB own w C d wd S) (hv : View own w w') : CB own w' C d wd S := h.mono h.own (hv.2 C h.own)
theorem CB.lt (h : CB own w C d wd S) : C < w.heap.size := cell_block h.c0
theorem CB.fz (h : CB own w C d wd S) (o : Nat) (ho : o ≤ 3 := by decide) : w.frozen? (adr C o) = false := h.fzz o ho
theorem adr_ne {b o p : Nat} (h : o ≠ p) : adr b o ≠ adr b p := fun e => h (by cases e; rfl)
theorem CB.s0 (h : CB own w C d wd S) (d' : Int) : CB own (w.setCell (adr C 0) (.int .u32 d')) C d' wd S :=
  ⟨h.own, set_self h.c0 _, by rw [set_other h.c0 _ (adr_ne (by decide))]; exact h.c1, by rw [set_other h.c0 _ (adr_ne (by decide))]; exact h.c3, fun o x => by rw [set_frz]; exact h.fzz o x⟩
theorem CB.s1 (h : CB own w C d wd S) (d' : Int) : CB own (w.setCell (adr C 1) (.int .i32 d')) C d d' S :=
  ⟨h.own, by rw [set_other h.c1 _ (adr_ne (by decide))]; exact h.c0, set_self h.c1 _, by rw [set_other h.c1 _ (adr_ne (by decide))]; exact h.c3, fun o x => by rw [set_frz]; exact h.fzz o x⟩
theorem CB.s3 (h : CB own w C d wd S) (S' : Value) : CB own (w.setCell (adr C 3) S') C d wd S' :=
  ⟨h.own, by rw [set_other h.c3 _ (adr_ne (by decide))]; exact h.c0, by rw [set_other h.c3 _ (adr_ne (by decide))]; exact h.c1, set_self h.c3 _, fun o x => by rw [set_frz]; exact h.fzz o x⟩
end
theorem hear_back (h : l.deaf = 0) : (l.hear 1).hear 0 = l := by unfold Lo.hear; rw [← h]
theorem boolLoadO {C : Nat} {d wd : Int} {S : Value} (A : Pr E l) (c : CB l.own w C d wd S) (hd : d = 0 ∨ d = 1) {fr : Frame} {cs : List Frame} (h : ∀ w', View l.own w w' → Tr E N i l (Conc.G (fr.finish (.bool (d == 1))) cs) w') :
    Tr E N i l (Conc.G (Frame.enter Try.prog 50 #[ptr C 0] .normal) (fr :: cs)) w := by
  have W : WkP Try.prog E l (base 50) := ⟨⟨A.fin, A.ch, by decide⟩, A.P⟩
  refine Tr.enterP A.P b50 (Nat.le_of_ble_eq_true rfl) ?_
  (repeat (first | refine TkO.done W (by rfl) ?_ | refine TkO.unwantedS W (by rfl) (by rfl) (by rfl) (by rfl) ?_ | refine TkO.pureS W (by rfl) (by rfl) (by rfl) (by rfl) (by first | exact pure_move (.inl rfl) rfl | exact pure_move (.inr rfl) rfl | exact pure_nilCheck rfl rfl | exact pure_field rfl rfl (by rfl) rfl (by decide +kernel) | exact pure_int rfl rfl rfl rfl | exact pure_not rfl rfl | exact pure_pickT rfl rfl rfl | exact pure_pickF rfl rfl rfl | exact pure_shift rfl rfl rfl rfl | exact pure_eqlNil rfl rfl rfl (by rfl) | exact pure_conv rfl rfl (by rfl) (by rfl)) ?_ | refine Tk.seq (WkP.wk W) ?_ | refine Tk.reg W ?_ | refine Tk.skip (WkP.wk W) ?_ | refine Tk.block (WkP.wk W) ?_ | refine Tk.condT (WkP.wk W) rfl ?_ | refine Tk.condF (WkP.wk W) rfl ?_ | refine Tk.exit (WkP.wk W) rfl ?_ | refine Tk.label (WkP.wk W) ?_))
  refine TkO.paload W A.rel (kk := .u32) (ad := adr C 0) (v := d) c.own c.c0 (by rfl) (by rfl) (by rfl) (by rfl) (by rfl) e52 (by rfl) fun w1 hv1 => ?_
  rcases hd with rfl | rfl
  · (repeat (first | refine TkO.done W (by rfl) ?_ | refine TkO.unwantedS W (by rfl) (by rfl) (by rfl) (by rfl) ?_ | refine TkO.pureS W (by rfl) (by rfl) (by rfl) (by rfl) (by first | exact pure_move (.inl rfl) rfl | exact pure_move (.inr rfl) rfl | exact pure_nilCheck rfl rfl | exact pure_field rfl rfl (by rfl) rfl (by decide +kernel) | exact pure_int rfl rfl rfl rfl | exact pure_not rfl rfl | exact pure_pickT rfl rfl rfl | exact pure_pickF rfl rfl rfl | exact pure_shift rfl rfl rfl rfl | exact pure_eqlNil rfl rfl rfl (by rfl) | exact pure_conv rfl rfl (by rfl) (by rfl)) ?_ | refine Tk.seq (WkP.wk W) ?_ | refine Tk.reg W ?_ | refine Tk.skip (WkP.wk W) ?_ | refine Tk.block (WkP.wk W) ?_ | refine Tk.condT (WkP.wk W) rfl ?_ | refine Tk.condF (WkP.wk W) rfl ?_ | refine Tk.exit (WkP.wk W) rfl ?_ | refine Tk.label (WkP.wk W) ?_))
    exact Tk.ret W.wk (TkR.leave1 W.wk (A.P ▸ b50) rfl (h _ hv1))
  · (repeat (first | refine TkO.done W (by rfl) ?_ | refine TkO.unwantedS W (by rfl) (by rfl) (by rfl) (by rfl) ?_ | refine TkO.pureS W (by rfl) (by rfl) (by rfl) (by rfl) (by first | exact pure_move (.inl rfl) rfl | exact pure_move (.inr rfl) rfl | exact pure_nilCheck rfl rfl | exact pure_field rfl rfl (by rfl) rfl (by decide +kernel) | exact pure_int rfl rfl rfl rfl | exact pure_not rfl rfl | exact pure_pickT rfl rfl rfl | exact pure_pickF rfl rfl rfl | exact pure_shift rfl rfl rfl rfl | exact pure_eqlNil rfl rfl rfl (by rfl) | exact pure_conv rfl rfl (by rfl) (by rfl)) ?_ | refine Tk.seq (WkP.wk W) ?_ | refine Tk.reg W ?_ | refine Tk.skip (WkP.wk W) ?_ | refine Tk.block (WkP.wk W) ?_ | refine Tk.condT (WkP.wk W) rfl ?_ | refine Tk.condF (WkP.wk W) rfl ?_ | refine Tk.exit (WkP.wk W) rfl ?_ | refine Tk.label (WkP.wk W) ?_))
    exact Tk.ret W.wk (TkR.leave1 W.wk (A.P ▸ b50) rfl (h _ hv1))
theorem lock56O {C : Nat} {d : Int} {S : Value} (A : Pr E l) (c : CB l.own w C d 0 S) {fr : Frame} {cs : List Frame}
    (h : ∀ w', CB l.own w' C d 1 S → Fr l.own (· = C) w w' → Tr E N i l (Conc.G (fr.finish (.tuple #[])) cs) w') :
    Tr E N i l (Conc.G (Frame.enter Try.prog 56 #[ptr C 1] .normal) (fr :: cs)) w := by
  have hP := A.P
  have W : WkP Try.prog E l (base 56) := ⟨⟨A.fin, A.ch, by decide⟩, hP⟩
  refine Tr.enterP hP b56 (Nat.le_of_ble_eq_true rfl) ?_
  (repeat (first | refine TkO.done W (by rfl) ?_ | refine TkO.unwantedS W (by rfl) (by rfl) (by rfl) (by rfl) ?_ | refine TkO.pureS W (by rfl) (by rfl) (by rfl) (by rfl) (by first | exact pure_move (.inl rfl) rfl | exact pure_move (.inr rfl) rfl | exact pure_nilCheck rfl rfl | exact pure_field rfl rfl (by rfl) rfl (by decide +kernel) | exact pure_int rfl rfl rfl rfl | exact pure_not rfl rfl | exact pure_pickT rfl rfl rfl | exact pure_pickF rfl rfl rfl | exact pure_shift rfl rfl rfl rfl | exact pure_eqlNil rfl rfl rfl (by rfl) | exact pure_conv rfl rfl (by rfl) (by rfl)) ?_ | refine Tk.seq (WkP.wk W) ?_ | refine Tk.reg W ?_ | refine Tk.skip (WkP.wk W) ?_ | refine Tk.block (WkP.wk W) ?_ | refine Tk.condT (WkP.wk W) rfl ?_ | refine Tk.condF (WkP.wk W) rfl ?_ | refine Tk.exit (WkP.wk W) rfl ?_ | refine Tk.label (WkP.wk W) ?_))
  refine TkO.mark0 W (m := .disable) (fun g e => by cases e) (by rfl) (by rfl) (by rfl) (by rfl) e26 fun G w1 t hg hact hlo hv1 => ?_
  refine ⟨_, false, goes_off hg hact hlo, TkOL.same (TkO.lay (rfl : Nv.put _ _ _ = (_, _) :: _) ?_)⟩
  rw [A.deaf]
  have W1 : WkP Try.prog E (l.hear 1) (base 56) := wkp W A.ch
  have c1 : CB (l.hear 1).own w1 C d 0 S := c.view hv1
  (repeat (first | refine TkO.done W1 (by rfl) ?_ | refine TkO.unwantedS W1 (by rfl) (by rfl) (by rfl) (by rfl) ?_ | refine TkO.pureS W1 (by rfl) (by rfl) (by rfl) (by rfl) (by first | exact pure_move (.inl rfl) rfl | exact pure_move (.inr rfl) rfl | exact pure_nilCheck rfl rfl | exact pure_field rfl rfl (by rfl) rfl (by decide +kernel) | exact pure_int rfl rfl rfl rfl | exact pure_not rfl rfl | exact pure_pickT rfl rfl rfl | exact pure_pickF rfl rfl rfl | exact pure_shift rfl rfl rfl rfl | exact pure_eqlNil rfl rfl rfl (by rfl) | exact pure_conv rfl rfl (by rfl) (by rfl)) ?_ | refine Tk.seq (WkP.wk W1) ?_ | refine Tk.reg W1 ?_ | refine Tk.skip (WkP.wk W1) ?_ | refine Tk.block (WkP.wk W1) ?_ | refine Tk.condT (WkP.wk W1) rfl ?_ | refine Tk.condF (WkP.wk W1) rfl ?_ | refine Tk.exit (WkP.wk W1) rfl ?_ | refine Tk.label (WkP.wk W1) ?_))
  refine TkO.pcas W1 A.rel (kk := .i32) (ad := adr C 1) (v0 := 0) (v1 := 1) c1.own c1.c1 (c1.fz 1) (by rfl) (by rfl) (by rfl) (by rfl) (by rfl) e60 rfl rfl rfl fun w2 hv2 => ?_
  have c2 : CB (l.hear 1).own (w2.setCell (adr C 1) (.int .i32 1)) C d 1 S := (c1.view hv2).s1 1
  (repeat (first | refine TkO.done W1 (by rfl) ?_ | refine TkO.unwantedS W1 (by rfl) (by rfl) (by rfl) (by rfl) ?_ | refine TkO.pureS W1 (by rfl) (by rfl) (by rfl) (by rfl) (by first | exact pure_move (.inl rfl) rfl | exact pure_move (.inr rfl) rfl | exact pure_nilCheck rfl rfl | exact pure_field rfl rfl (by rfl) rfl (by decide +kernel) | exact pure_int rfl rfl rfl rfl | exact pure_not rfl rfl | exact pure_pickT rfl rfl rfl | exact pure_pickF rfl rfl rfl | exact pure_shift rfl rfl rfl rfl | exact pure_eqlNil rfl rfl rfl (by rfl) | exact pure_conv rfl rfl (by rfl) (by rfl)) ?_ | refine Tk.seq (WkP.wk W1) ?_ | refine Tk.reg W1 ?_ | refine Tk.skip (WkP.wk W1) ?_ | refine Tk.block (WkP.wk W1) ?_ | refine Tk.condT (WkP.wk W1) rfl ?_ | refine Tk.condF (WkP.wk W1) rfl ?_ | refine Tk.exit (WkP.wk W1) rfl ?_ | refine Tk.label (WkP.wk W1) ?_))
  refine TkO.mark0 W1 (m := .enable) (fun g e => by cases e) (by rfl) (by rfl) (by rfl) (by rfl) e27 fun G w3 t hg hact hlo hv3 => ?_
  refine ⟨_, false, goes_on (d := 0) hg hact hlo rfl, TkOL.same (TkO.lay (rfl : Nv.put _ _ _ = (_, _) :: _) ?_)⟩
  rw [hear_back A.deaf]
  have c3 : CB l.own w3 C d 1 S := c2.view hv3
  (repeat (first | refine TkO.done W (by rfl) ?_ | refine TkO.unwantedS W (by rfl) (by rfl) (by rfl) (by rfl) ?_ | refine TkO.pureS W (by rfl) (by rfl) (by rfl) (by rfl) (by first | exact pure_move (.inl rfl) rfl | exact pure_move (.inr rfl) rfl | exact pure_nilCheck rfl rfl | exact pure_field rfl rfl (by rfl) rfl (by decide +kernel) | exact pure_int rfl rfl rfl rfl | exact pure_not rfl rfl | exact pure_pickT rfl rfl rfl | exact pure_pickF rfl rfl rfl | exact pure_shift rfl rfl rfl rfl | exact pure_eqlNil rfl rfl rfl (by rfl) | exact pure_conv rfl rfl (by rfl) (by rfl)) ?_ | refine Tk.seq (WkP.wk W) ?_ | refine Tk.reg W ?_ | refine Tk.skip (WkP.wk W) ?_ | refine Tk.block (WkP.wk W) ?_ | refine Tk.condT (WkP.wk W) rfl ?_ | refine Tk.condF (WkP.wk W) rfl ?_ | refine Tk.exit (WkP.wk W) rfl ?_ | refine Tk.label (WkP.wk W) ?_))
  refine TkO.pconv W (ad := adr C 1) c3.own c3.c1 (by rfl) (by rfl) (by rfl) (by rfl) (by rfl) (by rfl) (by rfl) (by decide +kernel) rfl ?_
  refine TkO.pmarkAt W A.rel (mk := .acquire) (.inl rfl) (ad := adr C 1) c3.own (by rfl) (by rfl) (by rfl) (by rfl) (by rfl) e38 rfl fun w4 hv4 => ?_
  (repeat (first | refine TkO.done W (by rfl) ?_ | refine TkO.unwantedS W (by rfl) (by rfl) (by rfl) (by rfl) ?_ | refine TkO.pureS W (by rfl) (by rfl) (by rfl) (by rfl) (by first | exact pure_move (.inl rfl) rfl | exact pure_move (.inr rfl) rfl | exact pure_nilCheck rfl rfl | exact pure_field rfl rfl (by rfl) rfl (by decide +kernel) | exact pure_int rfl rfl rfl rfl | exact pure_not rfl rfl | exact pure_pickT rfl rfl rfl | exact pure_pickF rfl rfl rfl | exact pure_shift rfl rfl rfl rfl | exact pure_eqlNil rfl rfl rfl (by rfl) | exact pure_conv rfl rfl (by rfl) (by rfl)) ?_ | refine Tk.seq (WkP.wk W) ?_ | refine Tk.reg W ?_ | refine Tk.skip (WkP.wk W) ?_ | refine Tk.block (WkP.wk W) ?_ | refine Tk.condT (WkP.wk W) rfl ?_ | refine Tk.condF (WkP.wk W) rfl ?_ | refine Tk.exit (WkP.wk W) rfl ?_ | refine Tk.label (WkP.wk W) ?_))
  refine Tk.ret W.wk (TkR.leave0 W.wk (hP ▸ b56) (h _ (c3.view hv4) ?_))
  exact (Fr.view hv1).trans ((Fr.view hv2).trans ((Fr.set (X := (· = C)) rfl).trans ((Fr.view hv3).trans (Fr.view hv4))))
theorem lock53O {C : Nat} {d : Int} {S : Value} (A : Pr E l) (c : CB l.own w C d 0 S) {fr : Frame} {cs : List Frame}
    (h : ∀ w', CB l.own w' C d 1 S → Fr l.own (· = C) w w' → Tr E N i l (Conc.G (fr.finish (.tuple #[])) cs) w') :
    Tr E N i l (Conc.G (Frame.enter Try.prog 53 #[ptr C 1] .normal) (fr :: cs)) w := by
  have W : WkP Try.prog E l (base 53) := ⟨⟨A.fin, A.ch, by decide⟩, A.P⟩
  refine Tr.enterP A.P b53 (Nat.le_of_ble_eq_true rfl) ?_
  (repeat (first | refine TkO.done W (by rfl) ?_ | refine TkO.unwantedS W (by rfl) (by rfl) (by rfl) (by rfl) ?_ | refine TkO.pureS W (by rfl) (by rfl) (by rfl) (by rfl) (by first | exact pure_move (.inl rfl) rfl | exact pure_move (.inr rfl) rfl | exact pure_nilCheck rfl rfl | exact pure_field rfl rfl (by rfl) rfl (by decide +kernel) | exact pure_int rfl rfl rfl rfl | exact pure_not rfl rfl | exact pure_pickT rfl rfl rfl | exact pure_pickF rfl rfl rfl | exact pure_shift rfl rfl rfl rfl | exact pure_eqlNil rfl rfl rfl (by rfl) | exact pure_conv rfl rfl (by rfl) (by rfl)) ?_ | refine Tk.seq (WkP.wk W) ?_ | refine Tk.reg W ?_ | refine Tk.skip (WkP.wk W) ?_ | refine Tk.block (WkP.wk W) ?_ | refine Tk.condT (WkP.wk W) rfl ?_ | refine Tk.condF (WkP.wk W) rfl ?_ | refine Tk.exit (WkP.wk W) rfl ?_ | refine Tk.label (WkP.wk W) ?_))
  refine TkO.call W (by rfl) (by rfl) (by rfl) (by rfl) b56 rfl fun fr' hk => ?_
  refine lock56O A c fun w' c' hf => hk _ _ _ (TkO.lay (rfl : Nv.put _ _ _ = (_, _) :: _) ?_)
  (repeat (first | refine TkO.done W (by rfl) ?_ | refine TkO.unwantedS W (by rfl) (by rfl) (by rfl) (by rfl) ?_ | refine TkO.pureS W (by rfl) (by rfl) (by rfl) (by rfl) (by first | exact pure_move (.inl rfl) rfl | exact pure_move (.inr rfl) rfl | exact pure_nilCheck rfl rfl | exact pure_field rfl rfl (by rfl) rfl (by decide +kernel) | exact pure_int rfl rfl rfl rfl | exact pure_not rfl rfl | exact pure_pickT rfl rfl rfl | exact pure_pickF rfl rfl rfl | exact pure_shift rfl rfl rfl rfl | exact pure_eqlNil rfl rfl rfl (by rfl) | exact pure_conv rfl rfl (by rfl) (by rfl)) ?_ | refine Tk.seq (WkP.wk W) ?_ | refine Tk.reg W ?_ | refine Tk.skip (WkP.wk W) ?_ | refine Tk.block (WkP.wk W) ?_ | refine Tk.condT (WkP.wk W) rfl ?_ | refine Tk.condF (WkP.wk W) rfl ?_ | refine Tk.exit (WkP.wk W) rfl ?_ | refine Tk.label (WkP.wk W) ?_))
  exact Tk.fall W.wk (TkR.leave0 W.wk (A.P ▸ b53) (h _ c' hf))
theorem unlock57O {C : Nat} {d : Int} {S : Value} (A : Pr E l) (c : CB l.own w C d 1 S) {fr : Frame} {cs : List Frame}
    (h : ∀ w', CB l.own w' C d 0 S → Fr l.own (· = C) w w' → Tr E N i l (Conc.G (fr.finish (.tuple #[])) cs) w') :
    Tr E N i l (Conc.G (Frame.enter Try.prog 57 #[ptr C 1] .normal) (fr :: cs)) w := by
  have hP := A.P
  have W : WkP Try.prog E l (base 57) := ⟨⟨A.fin, A.ch, by decide⟩, hP⟩
  refine Tr.enterP hP b57 (Nat.le_of_ble_eq_true rfl) ?_
  (repeat (first | refine TkO.done W (by rfl) ?_ | refine TkO.unwantedS W (by rfl) (by rfl) (by rfl) (by rfl) ?_ | refine TkO.pureS W (by rfl) (by rfl) (by rfl) (by rfl) (by first | exact pure_move (.inl rfl) rfl | exact pure_move (.inr rfl) rfl | exact pure_nilCheck rfl rfl | exact pure_field rfl rfl (by rfl) rfl (by decide +kernel) | exact pure_int rfl rfl rfl rfl | exact pure_not rfl rfl | exact pure_pickT rfl rfl rfl | exact pure_pickF rfl rfl rfl | exact pure_shift rfl rfl rfl rfl | exact pure_eqlNil rfl rfl rfl (by rfl) | exact pure_conv rfl rfl (by rfl) (by rfl)) ?_ | refine Tk.seq (WkP.wk W) ?_ | refine Tk.reg W ?_ | refine Tk.skip (WkP.wk W) ?_ | refine Tk.block (WkP.wk W) ?_ | refine Tk.condT (WkP.wk W) rfl ?_ | refine Tk.condF (WkP.wk W) rfl ?_ | refine Tk.exit (WkP.wk W) rfl ?_ | refine Tk.label (WkP.wk W) ?_))
  refine TkO.open (by rfl) (Tk.oload W.wk A.rel (x := .tmp 5) (ad := adr C 1) (v := .int .i32 1) (by rfl) (by rfl) (by rfl) (by rfl) (by rw [hP]; rfl) (by rfl) c.own c.c1 ?_)
  refine Tk.lay (rfl : Nv.put _ _ _ = (_, _) :: _) ?_
  show TkO _ _ _ _ _ _ _ _ _ _ 4 _ _
  (repeat (first | refine TkO.done W (by rfl) ?_ | refine TkO.unwantedS W (by rfl) (by rfl) (by rfl) (by rfl) ?_ | refine TkO.pureS W (by rfl) (by rfl) (by rfl) (by rfl) (by first | exact pure_move (.inl rfl) rfl | exact pure_move (.inr rfl) rfl | exact pure_nilCheck rfl rfl | exact pure_field rfl rfl (by rfl) rfl (by decide +kernel) | exact pure_int rfl rfl rfl rfl | exact pure_not rfl rfl | exact pure_pickT rfl rfl rfl | exact pure_pickF rfl rfl rfl | exact pure_shift rfl rfl rfl rfl | exact pure_eqlNil rfl rfl rfl (by rfl) | exact pure_conv rfl rfl (by rfl) (by rfl)) ?_ | refine Tk.seq (WkP.wk W) ?_ | refine Tk.reg W ?_ | refine Tk.skip (WkP.wk W) ?_ | refine Tk.block (WkP.wk W) ?_ | refine Tk.condT (WkP.wk W) rfl ?_ | refine Tk.condF (WkP.wk W) rfl ?_ | refine Tk.exit (WkP.wk W) rfl ?_ | refine Tk.label (WkP.wk W) ?_))
  refine TkO.pconv W (ad := adr C 1) c.own c.c1 (by rfl) (by rfl) (by rfl) (by rfl) (by rfl) (by rfl) (by rfl) (by decide +kernel) rfl ?_
  refine TkO.pmarkAt W A.rel (mk := .releaseMerge) (.inr rfl) (ad := adr C 1) c.own (by rfl) (by rfl) (by rfl) (by rfl) (by rfl) e25 rfl fun w1 hv1 => ?_
  have c1 : CB l.own w1 C d 1 S := c.view hv1
  (repeat (first | refine TkO.done W (by rfl) ?_ | refine TkO.unwantedS W (by rfl) (by rfl) (by rfl) (by rfl) ?_ | refine TkO.pureS W (by rfl) (by rfl) (by rfl) (by rfl) (by first | exact pure_move (.inl rfl) rfl | exact pure_move (.inr rfl) rfl | exact pure_nilCheck rfl rfl | exact pure_field rfl rfl (by rfl) rfl (by decide +kernel) | exact pure_int rfl rfl rfl rfl | exact pure_not rfl rfl | exact pure_pickT rfl rfl rfl | exact pure_pickF rfl rfl rfl | exact pure_shift rfl rfl rfl rfl | exact pure_eqlNil rfl rfl rfl (by rfl) | exact pure_conv rfl rfl (by rfl) (by rfl)) ?_ | refine Tk.seq (WkP.wk W) ?_ | refine Tk.reg W ?_ | refine Tk.skip (WkP.wk W) ?_ | refine Tk.block (WkP.wk W) ?_ | refine Tk.condT (WkP.wk W) rfl ?_ | refine Tk.condF (WkP.wk W) rfl ?_ | refine Tk.exit (WkP.wk W) rfl ?_ | refine Tk.label (WkP.wk W) ?_))
  refine TkO.mark0 W (m := .disable) (fun g e => by cases e) (by rfl) (by rfl) (by rfl) (by rfl) e26 fun G w2 t hg hact hlo hv2 => ?_
  refine ⟨_, false, goes_off hg hact hlo, TkOL.same (TkO.lay (rfl : Nv.put _ _ _ = (_, _) :: _) ?_)⟩
  rw [A.deaf]
  have W1 : WkP Try.prog E (l.hear 1) (base 57) := wkp W A.ch
  have c2 : CB (l.hear 1).own w2 C d 1 S := c1.view hv2
  (repeat (first | refine TkO.done W1 (by rfl) ?_ | refine TkO.unwantedS W1 (by rfl) (by rfl) (by rfl) (by rfl) ?_ | refine TkO.pureS W1 (by rfl) (by rfl) (by rfl) (by rfl) (by first | exact pure_move (.inl rfl) rfl | exact pure_move (.inr rfl) rfl | exact pure_nilCheck rfl rfl | exact pure_field rfl rfl (by rfl) rfl (by decide +kernel) | exact pure_int rfl rfl rfl rfl | exact pure_not rfl rfl | exact pure_pickT rfl rfl rfl | exact pure_pickF rfl rfl rfl | exact pure_shift rfl rfl rfl rfl | exact pure_eqlNil rfl rfl rfl (by rfl) | exact pure_conv rfl rfl (by rfl) (by rfl)) ?_ | refine Tk.seq (WkP.wk W1) ?_ | refine Tk.reg W1 ?_ | refine Tk.skip (WkP.wk W1) ?_ | refine Tk.block (WkP.wk W1) ?_ | refine Tk.condT (WkP.wk W1) rfl ?_ | refine Tk.condF (WkP.wk W1) rfl ?_ | refine Tk.exit (WkP.wk W1) rfl ?_ | refine Tk.label (WkP.wk W1) ?_))
  refine TkO.paadd W1 A.rel (kk := .i32) (ad := adr C 1) (v := 1) (dl := -1) (r := 0) c2.own c2.c1 (c2.fz 1) (by rfl) (by rfl) (by rfl) (by rfl) (by rfl) e62 rfl rfl (by decide) fun w3 hv3 => ?_
  have c3 : CB (l.hear 1).own (w3.setCell (adr C 1) (.int .i32 0)) C d 0 S := (c2.view hv3).s1 0
  (repeat (first | refine TkO.done W1 (by rfl) ?_ | refine TkO.unwantedS W1 (by rfl) (by rfl) (by rfl) (by rfl) ?_ | refine TkO.pureS W1 (by rfl) (by rfl) (by rfl) (by rfl) (by first | exact pure_move (.inl rfl) rfl | exact pure_move (.inr rfl) rfl | exact pure_nilCheck rfl rfl | exact pure_field rfl rfl (by rfl) rfl (by decide +kernel) | exact pure_int rfl rfl rfl rfl | exact pure_not rfl rfl | exact pure_pickT rfl rfl rfl | exact pure_pickF rfl rfl rfl | exact pure_shift rfl rfl rfl rfl | exact pure_eqlNil rfl rfl rfl (by rfl) | exact pure_conv rfl rfl (by rfl) (by rfl)) ?_ | refine Tk.seq (WkP.wk W1) ?_ | refine Tk.reg W1 ?_ | refine Tk.skip (WkP.wk W1) ?_ | refine Tk.block (WkP.wk W1) ?_ | refine Tk.condT (WkP.wk W1) rfl ?_ | refine Tk.condF (WkP.wk W1) rfl ?_ | refine Tk.exit (WkP.wk W1) rfl ?_ | refine Tk.label (WkP.wk W1) ?_))
  refine TkO.mark0 W1 (m := .enable) (fun g e => by cases e) (by rfl) (by rfl) (by rfl) (by rfl) e27 fun G w4 t hg hact hlo hv4 => ?_
  refine ⟨_, false, goes_on (d := 0) hg hact hlo rfl, TkOL.same (TkO.lay (rfl : Nv.put _ _ _ = (_, _) :: _) ?_)⟩
  rw [hear_back A.deaf]
  have c4 : CB l.own w4 C d 0 S := c3.view hv4
  (repeat (first | refine TkO.done W (by rfl) ?_ | refine TkO.unwantedS W (by rfl) (by rfl) (by rfl) (by rfl) ?_ | refine TkO.pureS W (by rfl) (by rfl) (by rfl) (by rfl) (by first | exact pure_move (.inl rfl) rfl | exact pure_move (.inr rfl) rfl | exact pure_nilCheck rfl rfl | exact pure_field rfl rfl (by rfl) rfl (by decide +kernel) | exact pure_int rfl rfl rfl rfl | exact pure_not rfl rfl | exact pure_pickT rfl rfl rfl | exact pure_pickF rfl rfl rfl | exact pure_shift rfl rfl rfl rfl | exact pure_eqlNil rfl rfl rfl (by rfl) | exact pure_conv rfl rfl (by rfl) (by rfl)) ?_ | refine Tk.seq (WkP.wk W) ?_ | refine Tk.reg W ?_ | refine Tk.skip (WkP.wk W) ?_ | refine Tk.block (WkP.wk W) ?_ | refine Tk.condT (WkP.wk W) rfl ?_ | refine Tk.condF (WkP.wk W) rfl ?_ | refine Tk.exit (WkP.wk W) rfl ?_ | refine Tk.label (WkP.wk W) ?_))
  refine Tk.fall W.wk (TkR.leave0 W.wk (hP ▸ b57) (h _ c4 ?_))
  exact (Fr.view hv1).trans ((Fr.view hv2).trans ((Fr.view hv3).trans ((Fr.set (X := (· = C)) rfl).trans (Fr.view hv4))))
theorem unlock54O {C : Nat} {d : Int} {S : Value} (A : Pr E l) (c : CB l.own w C d 1 S) {fr : Frame} {cs : List Frame} (hm : fr.mode = .returning)
    (h : ∀ w', CB l.own w' C d 0 S → Fr l.own (· = C) w w' → Tr E N i l (Conc.G fr cs) w') :
    Tk E N i l w (baseD 54) 6 (argsEnv [ptr C 1] 0) [] [.code c54] (fr :: cs) := by
  have W : WkP Try.prog E l (baseD 54) := ⟨⟨A.fin, A.ch, by decide⟩, A.P⟩
  (repeat (first | refine TkO.done W (by rfl) ?_ | refine TkO.unwantedS W (by rfl) (by rfl) (by rfl) (by rfl) ?_ | refine TkO.pureS W (by rfl) (by rfl) (by rfl) (by rfl) (by first | exact pure_move (.inl rfl) rfl | exact pure_move (.inr rfl) rfl | exact pure_nilCheck rfl rfl | exact pure_field rfl rfl (by rfl) rfl (by decide +kernel) | exact pure_int rfl rfl rfl rfl | exact pure_not rfl rfl | exact pure_pickT rfl rfl rfl | exact pure_pickF rfl rfl rfl | exact pure_shift rfl rfl rfl rfl | exact pure_eqlNil rfl rfl rfl (by rfl) | exact pure_conv rfl rfl (by rfl) (by rfl)) ?_ | refine Tk.seq (WkP.wk W) ?_ | refine Tk.reg W ?_ | refine Tk.skip (WkP.wk W) ?_ | refine Tk.block (WkP.wk W) ?_ | refine Tk.condT (WkP.wk W) rfl ?_ | refine Tk.condF (WkP.wk W) rfl ?_ | refine Tk.exit (WkP.wk W) rfl ?_ | refine Tk.label (WkP.wk W) ?_))
  refine TkO.call W (by rfl) (by rfl) (by rfl) (by rfl) b57 rfl fun fr' hk => ?_
  refine unlock57O A c fun w' c' hf => hk _ _ _ (TkO.lay (rfl : Nv.put _ _ _ = (_, _) :: _) ?_)
  (repeat (first | refine TkO.done W (by rfl) ?_ | refine TkO.unwantedS W (by rfl) (by rfl) (by rfl) (by rfl) ?_ | refine TkO.pureS W (by rfl) (by rfl) (by rfl) (by rfl) (by first | exact pure_move (.inl rfl) rfl | exact pure_move (.inr rfl) rfl | exact pure_nilCheck rfl rfl | exact pure_field rfl rfl (by rfl) rfl (by decide +kernel) | exact pure_int rfl rfl rfl rfl | exact pure_not rfl rfl | exact pure_pickT rfl rfl rfl | exact pure_pickF rfl rfl rfl | exact pure_shift rfl rfl rfl rfl | exact pure_eqlNil rfl rfl rfl (by rfl) | exact pure_conv rfl rfl (by rfl) (by rfl)) ?_ | refine Tk.seq (WkP.wk W) ?_ | refine Tk.reg W ?_ | refine Tk.skip (WkP.wk W) ?_ | refine Tk.block (WkP.wk W) ?_ | refine Tk.condT (WkP.wk W) rfl ?_ | refine Tk.condF (WkP.wk W) rfl ?_ | refine Tk.exit (WkP.wk W) rfl ?_ | refine Tk.label (WkP.wk W) ?_))
  exact Tk.fall W.wk (TkR.leaveD W.wk (A.P ▸ b54) hm (h _ c' hf))
theorem store55O {C : Nat} {S : Value} (A : Pr E l) (c : CB l.own w C 0 1 S) {fr : Frame} {cs : List Frame} (hm : fr.mode = .returning)
    (h : ∀ w', CB l.own w' C 1 1 S → Fr l.own (· = C) w w' → Tr E N i l (Conc.G fr cs) w') :
    Tk E N i l w (baseD 55) 10 (argsEnv [ptr C 0, .bool true] 0) [] [.code c55] (fr :: cs) := by
  have hP := A.P
  have W : WkP Try.prog E l (baseD 55) := ⟨⟨A.fin, A.ch, by decide⟩, hP⟩
  refine Tk.free W mixed (I := fun ops L l' w' env => l' = l ∧ Facts ops (val55 C 0) [0, 1] L env ∧ ((¬ Up L 5 ∧ w' = w) ∨ (Up L 5 ∧ Tr E N i l (Conc.G fr cs) w'))) (by decide +kernel) ?_ ?_ ?_ ?_
  · refine ⟨rfl, ⟨by simp, fun x hx => ?_, fun m o' d _ _ hu => absurd hu (not_up0 _ _)⟩, .inl ⟨not_up0 _ _, rfl⟩⟩
    have : x = 0 ∨ x = 1 := by simpa using hx
    rcases this with rfl | rfl <;> rfl
  · exact fun L l' w' env h => ⟨h.2.1.size, h.1 ▸ W⟩
  · intro L l' w' env j ⟨hl, F, hs⟩ hj hcl hu hb rest hk'
    subst hl
    have hj6 : j < 6 := hj
    have hcases : j = 0 ∨ j = 1 ∨ j = 2 ∨ j = 3 ∨ j = 4 ∨ j = 5 := by omega
    have hs' : ¬ Up L 5 ∧ w' = w := by
      rcases hs with h | ⟨h, _⟩
      · exact h
      · have u2 := hcl.up h (by rfl) 2 (by rfl)
        have u4 := hcl.up h (by rfl) 4 (by rfl)
        have u1 := hcl.up u2 (by rfl) 1 (by rfl)
        have u0 := hcl.up u1 (by rfl) 0 (by rfl)
        have u3 := hcl.up u4 (by rfl) 3 (by rfl)
        rcases hcases with rfl | rfl | rfl | rfl | rfl | rfl <;> exact absurd ‹_› hu
    obtain ⟨h5, rfl⟩ := hs'
    have f0 := F.base 0 rfl
    have f1 := F.base 1 rfl
    have still : ∀ j, j ≠ 5 → ¬ Up (L.setIfInBounds j true) 5 := fun j hj5 hu5 => h5 ((up_ne (Ne.symm hj5)).1 hu5)
    rcases hcases with rfl | rfl | rfl | rfl | rfl | rfl
    · refine Tk.pure W.wk (by rfl) (by rfl) (by rfl) (pure_move (x := .tmp 0) (.inl rfl) f0) ?_
      exact hk' _ _ _ ⟨rfl, F.step (j := 0) (d := 4) (by rfl) rfl rfl, .inl ⟨still _ (by decide), rfl⟩⟩
    · have g := F.get (j := 0) (d := 4) (by rfl) rfl (up_of hb (by rfl) 0 (by rfl))
      refine Tk.pure W.wk (by rfl) (by rfl) (by rfl) (pure_nilCheck (x := .tmp 4) rfl g) ?_
      exact hk' _ _ _ ⟨rfl, F.step (j := 1) (d := 5) (by rfl) rfl rfl, .inl ⟨still _ (by decide), rfl⟩⟩
    · have g := F.get (j := 1) (d := 5) (by rfl) rfl (up_of hb (by rfl) 1 (by rfl))
      refine Tk.pure W.wk (by rfl) (by rfl) (by rfl) (by rw [hP]; exact pure_field (x := .tmp 5) rfl g (by rfl) rfl (by decide +kernel)) ?_
      exact hk' _ _ _ ⟨rfl, F.step (j := 2) (d := 6) (by rfl) rfl rfl, .inl ⟨still _ (by decide), rfl⟩⟩
    · refine Tk.pure W.wk (by rfl) (by rfl) (by rfl) (pure_move (x := .tmp 1) (.inl rfl) f1) ?_
      exact hk' _ _ _ ⟨rfl, F.step (j := 3) (d := 7) (by rfl) rfl rfl, .inl ⟨still _ (by decide), rfl⟩⟩
    · have g := F.get (j := 3) (d := 7) (by rfl) rfl (up_of hb (by rfl) 3 (by rfl))
      refine Tk.call W.wk (vs := [.bool true]) (by rfl) (by rfl) (by rfl) (by rfl) (hP ▸ b59) (by show evsA env [.tmp 7] = _; unfold evsA; rw [show env.ev (.tmp 7) = _ from g]; rfl) fun fr' hk2 => ?_
      rw [hP]
      refine b32T A.fin hP A.ch (hk2 _ _ _ (hk' _ _ _ ⟨rfl, F.step (j := 4) (d := 8) (by rfl) rfl rfl, .inl ⟨still _ (by decide), rfl⟩⟩))
    · have g6 := F.get (j := 2) (d := 6) (by rfl) rfl (up_of hb (by rfl) 2 (by rfl))
      have g8 := F.get (j := 4) (d := 8) (by rfl) rfl (up_of hb (by rfl) 4 (by rfl))
      refine Tk.pastore W.wk A.rel (x := .tmp 6) (y := .tmp 8) (kk := .u32) (v := 1) (ad := adr C 0) c.own c.c0 (c.fz 0) (by rfl) (by rfl) (by rfl) (by rfl) (hP ▸ e58) g6 g8 fun w1 hv1 => ?_
      refine hk' _ _ _ ⟨rfl, F.step (j := 5) (d := 9) (by rfl) rfl rfl, .inr ⟨up_eq (by rw [F.size]; exact hj), h _ ((c.view hv1).s0 1) ((Fr.view hv1).trans (Fr.set (X := (· = C)) rfl))⟩⟩
  · intro L l' w' env ⟨hl, F, hs⟩ hall
    subst hl
    refine Tk.fall W.wk (TkR.leaveD W.wk (hP ▸ b55) hm ?_)
    rcases hs with ⟨h, _⟩ | ⟨_, h⟩
    · exact absurd (hall 5 (by decide)) h
    · exact h
theorem slow51O {C : Nat} {S : Value} (A : Pr E l) (c : CB l.own w C 0 0 S) {F nt : Nat} {cF : Code} (bF : Bod Try.prog F nt cF #[]) {cap : Array Value} {fr : Frame} {cs : List Frame} (Q : Lo → World → Value → Prop)
    (hQ : ∀ l' w' S', Q l' w' S' → Pr E l' ∧ CB l'.own w' C 0 1 S')
    (hmake : ∀ w' (fr' : Frame) cs', CB l.own w' C 0 1 S → Fr l.own (· = C) w w' → (∀ l2 w2 S', Q l2 w2 S' → Tr E N i l2 (Conc.G (fr'.finish (.tuple #[])) cs') w2) → Tr E N i l (Conc.G (Frame.enter Try.prog F cap .normal) (fr' :: cs')) w')
    (h : ∀ l2 w2 S' w', Q l2 w2 S' → CB l2.own w' C 1 0 S' → Fr l2.own (· = C) w2 w' → Tr E N i l2 (Conc.G (fr.finish (.tuple #[])) cs) w') :
    Tr E N i l (Conc.G (Frame.enter Try.prog 51 #[ptr C 0, .func (.func F) #[] cap] .normal) (fr :: cs)) w := by
  have hP := A.P
  have W : WkP Try.prog E l (base 51) := ⟨⟨A.fin, A.ch, by decide⟩, hP⟩
  refine Tr.enterP hP b51 (Nat.le_of_ble_eq_true rfl) ?_
  (repeat (first | refine TkO.done W (by rfl) ?_ | refine TkO.unwantedS W (by rfl) (by rfl) (by rfl) (by rfl) ?_ | refine TkO.pureS W (by rfl) (by rfl) (by rfl) (by rfl) (by first | exact pure_move (.inl rfl) rfl | exact pure_move (.inr rfl) rfl | exact pure_nilCheck rfl rfl | exact pure_field rfl rfl (by rfl) rfl (by decide +kernel) | exact pure_int rfl rfl rfl rfl | exact pure_not rfl rfl | exact pure_pickT rfl rfl rfl | exact pure_pickF rfl rfl rfl | exact pure_shift rfl rfl rfl rfl | exact pure_eqlNil rfl rfl rfl (by rfl) | exact pure_conv rfl rfl (by rfl) (by rfl)) ?_ | refine Tk.seq (WkP.wk W) ?_ | refine Tk.reg W ?_ | refine Tk.skip (WkP.wk W) ?_ | refine Tk.block (WkP.wk W) ?_ | refine Tk.condT (WkP.wk W) rfl ?_ | refine Tk.condF (WkP.wk W) rfl ?_ | refine Tk.exit (WkP.wk W) rfl ?_ | refine Tk.label (WkP.wk W) ?_))
  refine TkO.call W (by rfl) (by rfl) (by rfl) (by rfl) b53 rfl fun fr1 hk1 => ?_
  refine lock53O A c fun w1 c1 f1 => hk1 _ _ _ (TkO.lay (rfl : Nv.put _ _ _ = (_, _) :: _) ?_)
  (repeat (first | refine TkO.done W (by rfl) ?_ | refine TkO.unwantedS W (by rfl) (by rfl) (by rfl) (by rfl) ?_ | refine TkO.pureS W (by rfl) (by rfl) (by rfl) (by rfl) (by first | exact pure_move (.inl rfl) rfl | exact pure_move (.inr rfl) rfl | exact pure_nilCheck rfl rfl | exact pure_field rfl rfl (by rfl) rfl (by decide +kernel) | exact pure_int rfl rfl rfl rfl | exact pure_not rfl rfl | exact pure_pickT rfl rfl rfl | exact pure_pickF rfl rfl rfl | exact pure_shift rfl rfl rfl rfl | exact pure_eqlNil rfl rfl rfl (by rfl) | exact pure_conv rfl rfl (by rfl) (by rfl)) ?_ | refine Tk.seq (WkP.wk W) ?_ | refine Tk.reg W ?_ | refine Tk.skip (WkP.wk W) ?_ | refine Tk.block (WkP.wk W) ?_ | refine Tk.condT (WkP.wk W) rfl ?_ | refine Tk.condF (WkP.wk W) rfl ?_ | refine Tk.exit (WkP.wk W) rfl ?_ | refine Tk.label (WkP.wk W) ?_))
  refine TkO.defer W (by rfl) (by rfl) (by rfl) (by rfl) rfl ?_
  refine TkO.lay (rfl : Nv.put _ _ _ = _) ?_
  (repeat (first | refine TkO.done W (by rfl) ?_ | refine TkO.unwantedS W (by rfl) (by rfl) (by rfl) (by rfl) ?_ | refine TkO.pureS W (by rfl) (by rfl) (by rfl) (by rfl) (by first | exact pure_move (.inl rfl) rfl | exact pure_move (.inr rfl) rfl | exact pure_nilCheck rfl rfl | exact pure_field rfl rfl (by rfl) rfl (by decide +kernel) | exact pure_int rfl rfl rfl rfl | exact pure_not rfl rfl | exact pure_pickT rfl rfl rfl | exact pure_pickF rfl rfl rfl | exact pure_shift rfl rfl rfl rfl | exact pure_eqlNil rfl rfl rfl (by rfl) | exact pure_conv rfl rfl (by rfl) (by rfl)) ?_ | refine Tk.seq (WkP.wk W) ?_ | refine Tk.reg W ?_ | refine Tk.skip (WkP.wk W) ?_ | refine Tk.block (WkP.wk W) ?_ | refine Tk.condT (WkP.wk W) rfl ?_ | refine Tk.condF (WkP.wk W) rfl ?_ | refine Tk.exit (WkP.wk W) rfl ?_ | refine Tk.label (WkP.wk W) ?_))
  refine TkO.call W (by rfl) (by rfl) (by rfl) (by rfl) b50 rfl fun fr2 hk2 => ?_
  refine boolLoadO A c1 (.inl rfl) fun w2 hv2 => hk2 _ _ _ (TkO.lay (rfl : Nv.put _ _ _ = (_, _) :: _) ?_)
  (repeat (first | refine TkO.done W (by rfl) ?_ | refine TkO.unwantedS W (by rfl) (by rfl) (by rfl) (by rfl) ?_ | refine TkO.pureS W (by rfl) (by rfl) (by rfl) (by rfl) (by first | exact pure_move (.inl rfl) rfl | exact pure_move (.inr rfl) rfl | exact pure_nilCheck rfl rfl | exact pure_field rfl rfl (by rfl) rfl (by decide +kernel) | exact pure_int rfl rfl rfl rfl | exact pure_not rfl rfl | exact pure_pickT rfl rfl rfl | exact pure_pickF rfl rfl rfl | exact pure_shift rfl rfl rfl rfl | exact pure_eqlNil rfl rfl rfl (by rfl) | exact pure_conv rfl rfl (by rfl) (by rfl)) ?_ | refine Tk.seq (WkP.wk W) ?_ | refine Tk.reg W ?_ | refine Tk.skip (WkP.wk W) ?_ | refine Tk.block (WkP.wk W) ?_ | refine Tk.condT (WkP.wk W) rfl ?_ | refine Tk.condF (WkP.wk W) rfl ?_ | refine Tk.exit (WkP.wk W) rfl ?_ | refine Tk.label (WkP.wk W) ?_))
  refine TkO.defer W (by rfl) (by rfl) (by rfl) (by rfl) rfl ?_
  refine TkO.lay (rfl : Nv.put _ _ _ = _) ?_
  (repeat (first | refine TkO.done W (by rfl) ?_ | refine TkO.unwantedS W (by rfl) (by rfl) (by rfl) (by rfl) ?_ | refine TkO.pureS W (by rfl) (by rfl) (by rfl) (by rfl) (by first | exact pure_move (.inl rfl) rfl | exact pure_move (.inr rfl) rfl | exact pure_nilCheck rfl rfl | exact pure_field rfl rfl (by rfl) rfl (by decide +kernel) | exact pure_int rfl rfl rfl rfl | exact pure_not rfl rfl | exact pure_pickT rfl rfl rfl | exact pure_pickF rfl rfl rfl | exact pure_shift rfl rfl rfl rfl | exact pure_eqlNil rfl rfl rfl (by rfl) | exact pure_conv rfl rfl (by rfl) (by rfl)) ?_ | refine Tk.seq (WkP.wk W) ?_ | refine Tk.reg W ?_ | refine Tk.skip (WkP.wk W) ?_ | refine Tk.block (WkP.wk W) ?_ | refine Tk.condT (WkP.wk W) rfl ?_ | refine Tk.condF (WkP.wk W) rfl ?_ | refine Tk.exit (WkP.wk W) rfl ?_ | refine Tk.label (WkP.wk W) ?_))
  refine TkO.callV W (by rfl) (by rfl) (by rfl) (by rfl) bF rfl rfl fun fr3 hk3 => ?_
  have e : ([] : List Value).toArray ++ cap = cap := by simp
  rw [e]
  refine hmake w2 fr3 (fr :: cs) (c1.view hv2) (f1.trans (Fr.view hv2)) fun l2 w3 S' q => hk3 _ _ _ (TkO.lay (rfl : Nv.put _ _ _ = (_, _) :: _) ?_)
  obtain ⟨A2, c2⟩ := hQ _ _ _ q
  have W3 : WkP Try.prog E l2 (base 51) := wkp W A2.ch
  (repeat (first | refine TkO.done W3 (by rfl) ?_ | refine TkO.unwantedS W3 (by rfl) (by rfl) (by rfl) (by rfl) ?_ | refine TkO.pureS W3 (by rfl) (by rfl) (by rfl) (by rfl) (by first | exact pure_move (.inl rfl) rfl | exact pure_move (.inr rfl) rfl | exact pure_nilCheck rfl rfl | exact pure_field rfl rfl (by rfl) rfl (by decide +kernel) | exact pure_int rfl rfl rfl rfl | exact pure_not rfl rfl | exact pure_pickT rfl rfl rfl | exact pure_pickF rfl rfl rfl | exact pure_shift rfl rfl rfl rfl | exact pure_eqlNil rfl rfl rfl (by rfl) | exact pure_conv rfl rfl (by rfl) (by rfl)) ?_ | refine Tk.seq (WkP.wk W3) ?_ | refine Tk.reg W3 ?_ | refine Tk.skip (WkP.wk W3) ?_ | refine Tk.block (WkP.wk W3) ?_ | refine Tk.condT (WkP.wk W3) rfl ?_ | refine Tk.condF (WkP.wk W3) rfl ?_ | refine Tk.exit (WkP.wk W3) rfl ?_ | refine Tk.label (WkP.wk W3) ?_))
  refine Tk.fall W3.wk (TkR.call W3.wk (hP ▸ b55) (Nat.le_of_ble_eq_true rfl) fun fr4 hm4 hk4 => ?_)
  refine store55O A2 c2 hm4 fun w4 c4 f4 => hk4 _ _ ?_
  refine TkR.call W3.wk (hP ▸ b54) (Nat.le_of_ble_eq_true rfl) fun fr5 hm5 hk5 => ?_
  refine unlock54O A2 c4 hm5 fun w5 c5 f5 => hk5 _ _ ?_
  exact TkR.leave0 W3.wk (hP ▸ b51) (h _ _ _ _ q c5 (f4.trans f5))
end Go.Co.F1

namespace Go.Co.F1
open Go Go.Conc Go.Proofs
open Go.Co
open Go.ConcN (upd upd_ne upd_same)
variable {E : Geo} {N i : Nat} {l : Lo} {w : World}
set_option maxRecDepth 10000
def Sam (l0 l : Lo) : Prop := l = { l0 with own := l.own }
theorem Sam.refl (l : Lo) : Sam l l := rfl
theorem Sam.grow {l0 : Lo} {a b : Nat} (h : Sam l0 l) : Sam l0 (l.grow a b) := by
  unfold Sam at h ⊢
  unfold Lo.grow
  rw [h]
theorem Sam.trans {l0 l1 : Lo} (h : Sam l0 l1) (k : Sam l1 l) : Sam l0 l := by
  unfold Sam at h k ⊢
  rw [k, h]
theorem Pr.sam {l0 : Lo} (h : Pr E l0) (s : Sam l0 l) : Pr E l := by
  unfold Sam at s
  rw [s]
  exact ⟨h.fin, h.P, h.live, h.ch, h.rel, h.deaf⟩
def RowF (B0 : Nat) (S : Value) (ps : List Nat) : Prop := (∀ p ∈ ps, B0 ≤ p) ∧ ∀ g, S.ownBlock = some g → B0 ≤ g
structure Mem0 (E : Geo) (l0 l : Lo) (w0 w : World) (C : Nat) : Prop where
  pr : Pr E l
  sam : Sam l0 l
  own : ∀ b, l0.own b → l.own b
  fr : Fr l0.own (· = C) w0 w
  bnd : ∀ b, l0.own b → b < w0.heap.size
theorem Mem0.view {l0 : Lo} {w0 w' : World} {C : Nat} (h : Mem0 E l0 l w0 w C) (hv : View l.own w w') : Mem0 E l0 l w0 w' C := ⟨h.pr, h.sam, h.own, ⟨Nat.le_trans h.fr.1 hv.1, fun b hb hn => (hv.2 b (h.own b hb)).trans (h.fr.2 b hb hn)⟩, h.bnd⟩
def R44O (E : Geo) (l0 : Lo) (w0 : World) (X C n B0 : Nat) (S : Value) (ps : List Nat) (ops : Array Oper) (L : Array Bool) (l : Lo) (w : World) (env : Nv) : Prop :=
  Mem0 E l0 l w0 w C ∧ ∃ P Q S', Facts ops (val44 X C n S S' P Q) [0, 1] L env ∧ MI X C n S ps l.own w L P Q S' ∧ ((Up L 6 → B0 ≤ P) ∧ RowF B0 S ps ∧ (Up L 8 → RowF B0 S' (ps ++ [P]))) ∧ (¬ Up L 11 → CB l.own w C 0 1 S) ∧ (Up L 11 → CB l.own w C 0 1 S')
theorem R44O.keep {C X n j P Q B0 : Nat} {S S' : Value} {ps : List Nat} {l0 l : Lo} {w0 w w' : World} {L : Array Bool} {env' : Nv} {ops : Array Oper} (M : Mem0 E l0 l w0 w C) (mi : MI X C n S ps l.own w L P Q S') (hf : (Up L 6 → B0 ≤ P) ∧ RowF B0 S ps ∧ (Up L 8 → RowF B0 S' (ps ++ [P]))) (hk0 : ¬ Up L 11 → CB l.own w C 0 1 S) (hk1 : Up L 11 → CB l.own w C 0 1 S')
    (hv : View l.own w w') (h6 : j ≠ 6) (h7 : j ≠ 7) (h8 : j ≠ 8) (h11 : j ≠ 11)
    (F' : Facts ops (val44 X C n S S' P Q) [0, 1] (L.setIfInBounds j true) env') : R44O E l0 w0 X C n B0 S ps ops (L.setIfInBounds j true) l w' env' :=
  ⟨M.view hv, P, Q, S', F', (mi.mono (fun _b hb => hb) fun b hb _ => hv.2 b hb).set j ⟨h6, h7, h8⟩, ⟨fun x => hf.1 ((up_ne (Ne.symm h6)).1 x), hf.2.1, fun x => hf.2.2 ((up_ne (Ne.symm h8)).1 x)⟩, fun x => (hk0 fun y => x ((up_ne (Ne.symm h11)).2 y)).view hv, fun x => (hk1 ((up_ne (Ne.symm h11)).1 x)).view hv⟩
theorem Mem0.newer {l0 : Lo} {w0 w₁ : World} {C r : Nat} {ob : Obj} (h : Mem0 E l0 l w0 w C) (hv : View l.own w w₁) (_hr : r = w₁.heap.size) : Mem0 E l0 (l.grow r (r + 1)) w0 { w₁ with heap := w₁.heap.push ob } C := by
  have h1 := h.view hv
  refine ⟨⟨h.pr.fin, h.pr.P, h.pr.live, h.pr.ch, h.pr.rel, h.pr.deaf⟩, h.sam.grow, fun b hb => .inl (h.own b hb), ⟨?_, fun b hb hn => ?_⟩, h.bnd⟩
  · have := h1.fr.1
    show _ ≤ (w₁.heap.push ob).size
    simp; omega
  · have hlt : b < w₁.heap.size := Nat.lt_of_lt_of_le (h.bnd b hb) h1.fr.1
    rw [← h1.fr.2 b hb hn]
    simp [Array.getElem?_push, Nat.ne_of_lt hlt]
theorem CB.newer {w₁ : World} {C r : Nat} {d wd : Int} {S : Value} {ob : Obj} (h : CB l.own w C d wd S) (hv : View l.own w w₁) (_hr : r = w₁.heap.size) : CB (l.grow r (r + 1)).own { w₁ with heap := w₁.heap.push ob } C d wd S := by
  have h1 := h.view hv
  refine h1.mono (.inl h.own) ?_
  have := h1.lt
  simp [Array.getElem?_push, Nat.ne_of_lt this]
theorem MI.monoC {X C n : Nat} {S S' : Value} {ps : List Nat} {own own' : Nat → Prop} {w w' : World} {L : Array Bool} {P Q : Nat} (h : MI X C n S ps own w L P Q S') (hC : ∃ d, w.cell? (adr C 0) = some (.int .u32 d)) (hS : S.ownBlock ≠ some C) (hS' : Up L 8 → S'.ownBlock ≠ some C) (ho : ∀ b, own b → own' b) (hw : ∀ b, own b → b < w.heap.size → b ≠ C → w'.heap[b]? = w.heap[b]?) : MI X C n S ps own' w' L P Q S' := by
  obtain ⟨d, hC⟩ := hC
  have bad : ∀ {b : Nat} {v : Value} {e : TypeId}, w.heap[b]? = some (.cells #[v] e (0, 0)) → (∀ d, v ≠ .int .u32 d) → b ≠ C := fun {b v e} hb hv e2 => by
    subst e2
    rw [cell_at hb] at hC
    simp at hC
    exact hv d hC
  have rr : ∀ {m : Nat} {S : Value} {ps : List Nat}, S.ownBlock ≠ some C → RowI own w m S ps → RowI own' w' m S ps := fun {m S ps} hS h => by
    refine ⟨h.len, h.nodup, fun p hp => ⟨ho _ (h.cell p hp).1, ?_⟩, ⟨h.row.1, ?_⟩, fun g hg => ho _ (h.rown g hg)⟩
    · rw [hw p (h.cell p hp).1 (lt_of_heap (h.cell p hp).2) (bad (h.cell p hp).2 fun d e => by cases e)]
      exact (h.cell p hp).2
    · rcases h.row.2 with x | ⟨g, cap, cur, hv, h1, h2, h3⟩
      · exact .inl x
      · refine .inr ⟨g, cap, cur, hv, h1, ?_, h3⟩
        rw [hw g (h.rown g (by rw [hv]; rfl)) (lt_of_heap h2) fun e => hS (by rw [hv, ← e]; rfl)]
        exact h2
  refine ⟨⟨ho _ h.box.1, ?_⟩, fun a b => ⟨(h.pc a b).1, ho _ (h.pc a b).2.1, ?_⟩, fun a b => ⟨ho _ (h.qc a b).1, ?_⟩, fun a => rr hS (h.row a), fun a => rr (hS' a) (h.row' a)⟩
  · rw [hw X h.box.1 (lt_of_heap h.box.2) (bad h.box.2 fun d e => by cases e)]
    exact h.box.2
  · rw [hw P (h.pc a b).2.1 (lt_of_heap (h.pc a b).2.2) (bad (h.pc a b).2.2 fun d e => by cases e)]
    exact (h.pc a b).2.2
  · rw [hw Q (h.qc a b).1 (lt_of_heap (h.qc a b).2) (bad (h.qc a b).2 fun d e => by cases e)]
    exact (h.qc a b).2
set_option maxHeartbeats 8000000 in
theorem made44O {C X : Nat} (A : Pr E l) (hB : ∀ b, l.own b → b < w.heap.size) (hbox : l.own X ∧ w.heap[X]? = some (.cells #[ptr C 0] 50 (0, 0))) (hkn : CB l.own w C 0 1 (.slice none 0 0)) {fr : Frame} {cs : List Frame}
    (h : ∀ l' w' S ps, Mem0 E l l' w w' C → RowI l'.own w' 19 S ps → RowF w.heap.size S ps → CB l'.own w' C 0 1 S → Tr E N i l' (Conc.G (fr.finish (.tuple #[])) cs) w') :
    Tr E N i l (Conc.G (Frame.enter Try.prog 44 #[ptr X 0] .normal) (fr :: cs)) w := by
  have hP := A.P
  have Wl : ∀ l' : Lo, Pr E l' → WkP Try.prog E l' (base 44) := fun l' M => ⟨⟨M.fin, M.ch, by decide⟩, hP⟩
  refine Tr.enterP hP b44 (Nat.le_of_ble_eq_true rfl) ?_
  have W := Wl l A
  obtain ⟨l0, hl0⟩ : ∃ l0, l0 = l := ⟨l, rfl⟩
  obtain ⟨w0, hw0⟩ : ∃ w0, w0 = w := ⟨w, rfl⟩
  obtain ⟨B0, hB0⟩ : ∃ B0, B0 = w.heap.size := ⟨_, rfl⟩
  have M : Mem0 E l0 l w0 w C := by subst hl0; subst hw0; exact ⟨A, Sam.refl _, fun b hb => hb, Fr.refl _ _ _, hB⟩
  have h : ∀ l' w' S ps, Mem0 E l0 l' w0 w' C → RowI l'.own w' 19 S ps → RowF B0 S ps → CB l'.own w' C 0 1 S → Tr E N i l' (Conc.G (fr.finish (.tuple #[])) cs) w' := by subst hl0; subst hw0; subst hB0; exact h
  have hB0w : B0 = w0.heap.size := by rw [hB0, hw0]
  have hCB : C < B0 := by rw [hB0]; exact hkn.lt
  (repeat (first | refine TkO.done W (by rfl) ?_ | refine TkO.unwantedS W (by rfl) (by rfl) (by rfl) (by rfl) ?_ | refine TkO.pureS W (by rfl) (by rfl) (by rfl) (by rfl) (by first | exact pure_move (.inl rfl) rfl | exact pure_move (.inr rfl) rfl | exact pure_nilCheck rfl rfl | exact pure_field rfl rfl (by rfl) rfl (by decide +kernel) | exact pure_int rfl rfl rfl rfl | exact pure_not rfl rfl | exact pure_pickT rfl rfl rfl | exact pure_pickF rfl rfl rfl | exact pure_shift rfl rfl rfl rfl | exact pure_eqlNil rfl rfl rfl (by rfl) | exact pure_conv rfl rfl (by rfl) (by rfl)) ?_ | refine Tk.seq (WkP.wk W) ?_ | refine Tk.reg W ?_ | refine Tk.skip (WkP.wk W) ?_ | refine Tk.block (WkP.wk W) ?_ | refine Tk.condT (WkP.wk W) rfl ?_ | refine Tk.condF (WkP.wk W) rfl ?_ | refine Tk.exit (WkP.wk W) rfl ?_ | refine Tk.label (WkP.wk W) ?_))
  refine Tk.loop W.wk ?_
  refine Tk.cut fun K hK => ?_
  have HH : ∀ m n (l : Lo) (w : World) (S : Value) (ps : List Nat), n + m = 19 → Mem0 E l0 l w0 w C → (l.own X ∧ w.heap[X]? = some (.cells #[ptr C 0] 50 (0, 0))) → RowI l.own w n S ps → RowF B0 S ps → CB l.own w C 0 1 S →
      Tk E N i l w (base 44) 15 [(0, ptr X 0), (1, .int .u8 n)] [] K (fr :: cs) := by
    intro m
    induction m with
    | zero =>
      intro n l w S ps hn M hbox hrow hrf hkn
      have hn : n = 19 := by omega
      subst hn
      have W := Wl l M.pr
      rw [hK]
      (repeat (first | refine TkO.done W (by rfl) ?_ | refine TkO.unwantedS W (by rfl) (by rfl) (by rfl) (by rfl) ?_ | refine TkO.pureS W (by rfl) (by rfl) (by rfl) (by rfl) (by first | exact pure_move (.inl rfl) rfl | exact pure_move (.inr rfl) rfl | exact pure_nilCheck rfl rfl | exact pure_field rfl rfl (by rfl) rfl (by decide +kernel) | exact pure_int rfl rfl rfl rfl | exact pure_not rfl rfl | exact pure_pickT rfl rfl rfl | exact pure_pickF rfl rfl rfl | exact pure_shift rfl rfl rfl rfl | exact pure_eqlNil rfl rfl rfl (by rfl) | exact pure_conv rfl rfl (by rfl) (by rfl)) ?_ | refine Tk.seq (WkP.wk W) ?_ | refine Tk.reg W ?_ | refine Tk.skip (WkP.wk W) ?_ | refine Tk.block (WkP.wk W) ?_ | refine Tk.condT (WkP.wk W) rfl ?_ | refine Tk.condF (WkP.wk W) rfl ?_ | refine Tk.exit (WkP.wk W) rfl ?_ | refine Tk.label (WkP.wk W) ?_))
      exact Tk.fall W.wk (TkR.leave0 W.wk (hP ▸ b44) (h _ _ _ _ M hrow hrf hkn))
    | succ m ihm =>
      intro n l w S ps hn M hbox hrow hrf hkn
      have hn19 : n < 19 := by omega
      have W := Wl l M.pr
      rw [hK]
      refine Tk.seq W.wk ?_
      refine Tk.reg W ?_
      refine TkO.pureS W (by rfl) (by rfl) (by rfl) (by rfl) (by (first | exact pure_move (.inl rfl) rfl | exact pure_move (.inr rfl) rfl | exact pure_nilCheck rfl rfl | exact pure_field rfl rfl (by rfl) rfl (by decide +kernel) | exact pure_int rfl rfl rfl rfl | exact pure_not rfl rfl | exact pure_pickT rfl rfl rfl | exact pure_pickF rfl rfl rfl | exact pure_shift rfl rfl rfl rfl | exact pure_eqlNil rfl rfl rfl (by rfl) | exact pure_conv rfl rfl (by rfl) (by rfl))) ?_
      refine TkO.done W (by rfl) ?_
      refine Tk.seq W.wk ?_
      refine Tk.condT W.wk (congrArg (fun b => some (Value.bool b)) (decide_eq_true (show (n : Int) < 19 by omega))) ?_
      refine Tk.skip W.wk ?_
      refine Tk.seq W.wk ?_
      refine Tk.block W.wk ?_
      refine Tk.free W mixed (I := R44O E l0 w0 X C n B0 S ps) (by decide +kernel) ?_ ?_ ?_ ?_
      · refine ⟨M, 0, 0, S, ⟨by simp, fun x hx => ?_, fun m o' d _ _ hu => absurd hu (not_up0 _ _)⟩, ⟨hbox, fun hu => absurd hu (not_up0 _ _), fun hu => absurd hu (not_up0 _ _), fun _ => hrow, fun hu => absurd hu (not_up0 _ _)⟩, ⟨fun hu => absurd hu (not_up0 _ _), hrf, fun hu => absurd hu (not_up0 _ _)⟩, fun _ => hkn, fun hu => absurd hu (not_up0 _ _)⟩
        have : x = 0 ∨ x = 1 := by simpa using hx
        rcases this with rfl | rfl <;> rfl
      · exact fun L l' w' env h => ⟨h.2.choose_spec.choose_spec.choose_spec.1.size, Wl l' h.1.pr⟩
      · intro L l w env j ⟨M, P, Q, S', F, mi, hf, hk0, hk1⟩ hj hcl hu hb rest hk'
        have hj12 : j < 12 := hj
        have W := Wl l M.pr
        have hLs : L.size = 12 := F.size
        have f0 := F.base 0 rfl
        have hrel := M.pr.rel
        have hcases : j = 0 ∨ j = 1 ∨ j = 2 ∨ j = 3 ∨ j = 4 ∨ j = 5 ∨ j = 6 ∨ j = 7 ∨ j = 8 ∨ j = 9 ∨ j = 10 ∨ j = 11 := by omega
        have hbc : w.cell? (adr X 0) = some (ptr C 0) := by unfold World.cell?; rw [show w.heap[(adr X 0).block]? = _ from mi.box.2]; rfl
        rcases hcases with rfl | rfl | rfl | rfl | rfl | rfl | rfl | rfl | rfl | rfl | rfl | rfl
        · refine Tk.oload W.wk hrel (x := .tmp 0) (ad := adr X 0) (v := ptr C 0) (by rfl) (by rfl) (by rfl) (by rfl) (by rw [hP]; rfl) f0 mi.box.1 hbc ?_
          exact hk' _ _ _ (R44O.keep M mi hf hk0 hk1 (View.refl _ _) (by decide) (by decide) (by decide) (by decide) (F.step (j := 0) (d := 3) (by rfl) rfl rfl))
        · refine Tk.oload W.wk hrel (x := .tmp 0) (ad := adr X 0) (v := ptr C 0) (by rfl) (by rfl) (by rfl) (by rfl) (by rw [hP]; rfl) f0 mi.box.1 hbc ?_
          exact hk' _ _ _ (R44O.keep M mi hf hk0 hk1 (View.refl _ _) (by decide) (by decide) (by decide) (by decide) (F.step (j := 1) (d := 4) (by rfl) rfl rfl))
        · have g := F.get (j := 1) (d := 4) (by rfl) rfl (up_of hb (by rfl) 1 (by rfl))
          refine Tk.pure W.wk (by rfl) (by rfl) (by rfl) (pure_nilCheck (x := .tmp 4) rfl g) ?_
          exact hk' _ _ _ (R44O.keep M mi hf hk0 hk1 (View.refl _ _) (by decide) (by decide) (by decide) (by decide) (F.step (j := 2) (d := 5) (by rfl) rfl rfl))
        · have g := F.get (j := 2) (d := 5) (by rfl) rfl (up_of hb (by rfl) 2 (by rfl))
          refine Tk.pure W.wk (by rfl) (by rfl) (by rfl) (by rw [hP]; exact pure_field (x := .tmp 5) rfl g (by rfl) rfl (by decide +kernel)) ?_
          exact hk' _ _ _ (R44O.keep M mi hf hk0 hk1 (View.refl _ _) (by decide) (by decide) (by decide) (by decide) (F.step (j := 3) (d := 6) (by rfl) rfl rfl))
        · have g := F.get (j := 3) (d := 6) (by rfl) rfl (up_of hb (by rfl) 3 (by rfl))
          have h8 : ¬ Up L 8 := fun x => hu (hcl.up x (by rfl) 4 (by rfl))
          have h11 : ¬ Up L 11 := fun x => h8 (hcl.up x (by rfl) 8 (by rfl))
          have ck := hk0 h11
          refine Tk.oload W.wk hrel (x := .tmp 6) (ad := adr C 3) (v := S) (by rfl) (by rfl) (by rfl) (by rfl) (by rw [hP]; rfl) g ck.own ck.c3 ?_
          exact hk' _ _ _ (R44O.keep M mi hf hk0 hk1 (View.refl _ _) (by decide) (by decide) (by decide) (by decide) (F.step (j := 4) (d := 7) (by rfl) rfl rfl))
        · refine Tk.pure W.wk (by rfl) (by rfl) (by rfl) (by rw [hP]; exact pure_build66 rfl) ?_
          exact hk' _ _ _ (R44O.keep M mi hf hk0 hk1 (View.refl _ _) (by decide) (by decide) (by decide) (by decide) (F.step (j := 5) (d := 8) (by rfl) rfl rfl))
        · have g := F.get (j := 5) (d := 8) (by rfl) rfl (up_of hb (by rfl) 5 (by rfl))
          have h7 : ¬ Up L 7 := fun x => hu (hcl.up x (by rfl) 6 (by rfl))
          have h8 : ¬ Up L 8 := fun x => h7 (hcl.up x (by rfl) 7 (by rfl))
          refine Tk.newO W.wk hrel (d := 9) (by rfl) (by rfl) (by rfl) (by rfl) (fun r => ptr r 0) (.cells #[.int .i64 0] 66 (0, 0)) (fun a ha w₁ => by rw [hP]; exact exec_box (t := 66) (x := .tmp 8) (v := .agg #[.int .i64 0]) (by rfl) (ha.ev (x := .tmp 8) g)) fun w₁ hv r hr => hk' _ _ _ ?_
          have mi1 := (mi.mono (w' := w₁) (fun _ h => h) fun b hb _ => hv.2 b hb).newer (ob := .cells #[.int .i64 0] 66 (0, 0)) hr
          have e6 : Up (L.setIfInBounds 6 true) 8 ↔ Up L 8 := up_ne (by decide)
          have hr0 : B0 ≤ r := by rw [hB0w, hr]; exact Nat.le_trans M.fr.1 hv.1
          have e7 : Up (L.setIfInBounds 6 true) 7 ↔ Up L 7 := up_ne (by decide)
          refine ⟨M.newer hv hr, r, Q, S', (F.chg1 (val' := val44 X C n S S' r Q) (j := 6) (d := 9) (fun x hx => ?_) (by rfl) (by decide +kernel) hu).put (j := 6) (d := 9) (by rfl) rfl, ⟨mi1.box, fun _ _ => ⟨fun hp => ?_, .inr ⟨Nat.le_refl _, Nat.lt_succ_self _⟩, heap_push hr⟩, fun x => absurd (e7.1 x) h7, fun _ => mi1.row h8, fun x => absurd (e6.1 x) h8⟩, ⟨fun _ => hr0, hf.2.1, fun x => absurd (e6.1 x) h8⟩, fun x => (hk0 fun y => x ((up_ne (by decide)).2 y)).newer hv hr, fun x => (hk1 ((up_ne (by decide)).1 x)).newer hv hr⟩
          · unfold val44; split <;> first | rfl | exact absurd rfl hx
          · have := lt_of_heap ((mi.row h8).cell r hp).2
            have := hv.1; omega
        · have g := F.get (j := 6) (d := 9) (by rfl) rfl (up_of hb (by rfl) 6 (by rfl))
          have u6 := up_of hb (by rfl) 6 (by rfl)
          have h8 : ¬ Up L 8 := fun x => hu (hcl.up x (by rfl) 7 (by rfl))
          refine Tk.newO W.wk hrel (d := 10) (by rfl) (by rfl) (by rfl) (by rfl) (fun r => .slice (some (adr r 0)) 1 1) (.cells #[ptr P 0] 51 (0, 0)) (fun a ha w₁ => by rw [hP]; exact exec_slice1 (t := 36) (x := .tmp 9) (y := ptr P 0) (by rfl) (ha.ev (x := .tmp 9) g) (by rfl) (by rfl) (by rfl) (z := .pointer none) (by rfl) (by rfl) (by rfl)) fun w₁ hv r hr => hk' _ _ _ ?_
          have mi1 := (mi.mono (w' := w₁) (fun _ h => h) fun b hb _ => hv.2 b hb).newer (ob := .cells #[ptr P 0] 51 (0, 0)) hr
          have e8 : Up (L.setIfInBounds 7 true) 8 ↔ Up L 8 := up_ne (by decide)
          have e6 : Up (L.setIfInBounds 7 true) 6 ↔ Up L 6 := up_ne (by decide)
          refine ⟨M.newer hv hr, P, r, S', (F.chg1 (val' := val44 X C n S S' P r) (j := 7) (d := 10) (fun x hx => ?_) (by rfl) (by decide +kernel) hu).put (j := 7) (d := 10) (by rfl) rfl, ⟨mi1.box, fun _ _ => mi1.pc u6 h8, fun _ _ => ⟨.inr ⟨Nat.le_refl _, Nat.lt_succ_self _⟩, heap_push hr⟩, fun _ => mi1.row h8, fun x => absurd (e8.1 x) h8⟩, ⟨fun x => hf.1 (e6.1 x), hf.2.1, fun x => absurd (e8.1 x) h8⟩, fun x => (hk0 fun y => x ((up_ne (by decide)).2 y)).newer hv hr, fun x => (hk1 ((up_ne (by decide)).1 x)).newer hv hr⟩
          unfold val44; split <;> first | rfl | exact absurd rfl hx
        · have g7 := F.get (j := 4) (d := 7) (by rfl) rfl (up_of hb (by rfl) 4 (by rfl))
          have g10 := F.get (j := 7) (d := 10) (by rfl) rfl (up_of hb (by rfl) 7 (by rfl))
          have u7 := up_of hb (by rfl) 7 (by rfl)
          have u6 := hcl.up u7 (by rfl) 6 (by rfl)
          have h11 : ¬ Up L 11 := fun x => hu (hcl.up x (by rfl) 8 (by rfl))
          refine Tk.privO W.wk hrel (by rfl) (by rfl) (by rfl) fun w₁ hv => ?_
          have mi1 := mi.mono (w' := w₁) (fun _ h => h) fun b hb _ => hv.2 b hb
          have hrow1 := mi1.row hu
          have hq := mi1.qc u7 hu
          have hp := mi1.pc u6 hu
          have hnews : ∀ (j : Nat) (u : Value), [ptr P 0][j]? = some u → w₁.cell? ((adr Q 0).add j) = some u := fun j u hj => by
            cases j with
            | zero =>
              cases hj
              show w₁.cell? (adr Q 0) = _
              unfold World.cell?; rw [show w₁.heap[(adr Q 0).block]? = _ from hq.2]; rfl
            | succ j => simp at hj
          have h1 : ∀ u ∈ [ptr P 0], u.oneCell' = true := fun u hu => by simp at hu; subst hu; rfl
          have hmax : n + 1 ≤ maxLen := by unfold maxLen; omega
          have hby : (n + 1) * 8 ≤ 140737488355328 := by omega
          obtain ⟨v', w', r1, r2, r3, _, r5⟩ := run_append_own_at (P := Try.prog) (w := w₁) 0 36 36 51 _ (.pointer none) 1 8 (by rfl) (by rfl) (by rfl) (by rfl) (by rfl) (by rfl) (by decide) S n _ hrow1.row (adr Q 0) 1 1 [ptr P 0] rfl hnews h1 hmax hby (Nat.zero_le _)
          have re := events_append_where (P := Try.prog) w₁ 0 36 36 51 _ (.pointer none) 1 8 (by rfl) (by rfl) (by rfl) (by rfl) (by rfl) S n _ hrow1.row (adr Q 0) 1 1 [ptr P 0] rfl hnews h1 hmax hby
          have hblk : ∀ b, l.own b → b < w₁.heap.size → S.ownBlock ≠ some b → w'.heap[b]? = w₁.heap[b]? := fun b _ hlt hne => r3.block b hlt (fun e => hne e.symm)
          refine ⟨v', w', fun a ha => ⟨by rw [hP]; exact exec_append (.tmp 7) (.tmp 10) 36 (by rfl) (ha.ev (x := .tmp 7) g7) (ha.ev (x := .tmp 10) g10) r1, fun ev hev => ?_⟩, r3.size, fun b hb hlt => r3.block b hlt (fun e => hb (hrow1.rown b e.symm)), r3.tape, r3.os, r3.output, hk' _ _ _ ?_⟩
          · rw [hP, events_append_op (.tmp 7) (.tmp 10) 36 (by rfl) (ha.ev (x := .tmp 7) g7) (ha.ev (x := .tmp 10) g10)] at hev
            rcases re ev hev with ⟨ad, e1, e2⟩ | ⟨m, rfl, hm⟩
            · refine .inl ⟨ad, ev.write, ev.sync, ?_, .inl ?_⟩
              · cases ev; simp only at e1; subst e1; rfl
              · rcases e2 with ⟨_, e2⟩ | e2
                · rw [e2]; exact hq.1
                · exact hrow1.rown _ e2.symm
            · exact .inr (.inr ⟨m, false, true, rfl, .inl hm⟩)
          · have up8 : Up (L.setIfInBounds 8 true) 8 := up_eq (by rw [hLs]; decide)
            have ck1 := (hk0 h11).view hv
            have hSC : S.ownBlock ≠ some C := fun e => by
              have := hf.2.1.2 C e
              omega
            have M1 := M.view hv
            have ckn : CB (l.grow w₁.heap.size w'.heap.size).own w' C 0 1 S := ck1.mono (.inl ck1.own) (hblk C ck1.own ck1.lt hSC)
            have Mn : Mem0 E l0 (l.grow w₁.heap.size w'.heap.size) w0 w' C := by
              refine ⟨⟨M.pr.fin, M.pr.P, M.pr.live, M.pr.ch, M.pr.rel, M.pr.deaf⟩, M.sam.grow, fun b hb => .inl (M.own b hb), ⟨Nat.le_trans M1.fr.1 r3.size, fun b hb hn => ?_⟩, M.bnd⟩
              rw [hblk b (M.own b hb) (Nat.lt_of_lt_of_le (M.bnd b hb) M1.fr.1) fun e => ?_]
              · exact M1.fr.2 b hb hn
              · have := hf.2.1.2 b e
                have := M.bnd b hb
                omega
            have hfn : RowF B0 v' (ps ++ [P]) := by
              refine ⟨fun p hp' => ?_, fun g hg => ?_⟩
              · rcases List.mem_append.1 hp' with x | x
                · exact hf.2.1.1 p x
                · simp at x; subst x; exact hf.1 u6
              · rcases r5 with e | e
                · exact hf.2.1.2 g (e ▸ hg)
                · rw [e] at hg; cases hg
                  rw [hB0w]; exact M1.fr.1
            refine ⟨Mn, P, Q, v', (F.chg1 (val' := val44 X C n S v' P Q) (j := 8) (d := 11) (fun x hx => ?_) (by rfl) (by decide +kernel) hu).step (j := 8) (d := 11) (by rfl) rfl rfl, ⟨⟨.inl mi1.box.1, ?_⟩, fun _ x => absurd up8 x, fun _ x => absurd up8 x, fun x => absurd up8 x, fun _ => ⟨by simp [hrow1.len], ?_, fun p hp' => ?_, by rw [List.map_append]; exact r2, fun g hg => ?_⟩⟩, ⟨fun x => hf.1 u6, hf.2.1, fun _ => hfn⟩, fun _ => ckn, fun x => absurd ((up_ne (by decide)).1 x) h11⟩
            · unfold val44; split <;> first | rfl | exact absurd rfl hx
            · rw [hblk X mi1.box.1 (lt_of_heap mi1.box.2) fun e => ?_]
              · exact mi1.box.2
              · obtain ⟨cur, hc⟩ := hrow1.elem e
                rw [mi1.box.2] at hc; simp at hc
            · rw [List.nodup_append]
              exact ⟨hrow1.nodup, by simp, fun a ha b hb e => by simp at hb; subst hb; subst e; exact hp.1 ha⟩
            · have hx : l.own p ∧ w₁.heap[p]? = some (.cells #[.int .i64 0] 66 (0, 0)) := by
                rcases List.mem_append.1 hp' with x | x
                · exact hrow1.cell p x
                · simp at x; subst x; exact hp.2
              refine ⟨.inl hx.1, ?_⟩
              rw [hblk p hx.1 (lt_of_heap hx.2) fun e => ?_]
              · exact hx.2
              · obtain ⟨cur, hc⟩ := hrow1.elem e
                rw [hx.2] at hc; simp at hc
            · rcases r5 with e | e
              · exact .inl (hrow1.rown g (e ▸ hg))
              · rw [e] at hg; cases hg
                refine .inr ⟨Nat.le_refl _, ?_⟩
                rcases r2.2 with ⟨x, _⟩ | ⟨g, cap, cur, x, _, y, _⟩
                · rw [x] at e; cases e
                · rw [x] at e; cases e; exact lt_of_heap y
        · have g := F.get (j := 0) (d := 3) (by rfl) rfl (up_of hb (by rfl) 0 (by rfl))
          refine Tk.pure W.wk (by rfl) (by rfl) (by rfl) (pure_nilCheck (x := .tmp 3) rfl g) ?_
          exact hk' _ _ _ (R44O.keep M mi hf hk0 hk1 (View.refl _ _) (by decide) (by decide) (by decide) (by decide) (F.step (j := 9) (d := 12) (by rfl) rfl rfl))
        · have g := F.get (j := 9) (d := 12) (by rfl) rfl (up_of hb (by rfl) 9 (by rfl))
          refine Tk.pure W.wk (by rfl) (by rfl) (by rfl) (by rw [hP]; exact pure_field (x := .tmp 12) rfl g (by rfl) rfl (by decide +kernel)) ?_
          exact hk' _ _ _ (R44O.keep M mi hf hk0 hk1 (View.refl _ _) (by decide) (by decide) (by decide) (by decide) (F.step (j := 10) (d := 13) (by rfl) rfl rfl))
        · have g11 := F.get (j := 8) (d := 11) (by rfl) rfl (up_of hb (by rfl) 8 (by rfl))
          have g13 := F.get (j := 10) (d := 13) (by rfl) rfl (up_of hb (by rfl) 10 (by rfl))
          have u8 := up_of hb (by rfl) 8 (by rfl)
          have hS : S'.cells = #[S'] ∧ S'.oneCell' = true := by
            rcases (mi.row' u8).row.2 with ⟨x, _⟩ | ⟨g, cap, cur, x, _⟩ <;> rw [x] <;> exact ⟨rfl, rfl⟩
          have ck := hk0 hu
          refine Tk.ostore W.wk hrel (t := 36) (x := .tmp 13) (y := .tmp 11) (ad := adr C 3) (v := S') (by rfl) (by rfl) (by rfl) (by rfl) (by rw [hP]; exact ⟨_, by rfl, by rfl⟩) hS.1 hS.2 g13 g11 ck.own ck.c3 (ck.fz 3) fun w₁ hv => ?_
          have hset : ∀ b, b ≠ C → (w₁.setCell (adr C 3) S').heap[b]? = w₁.heap[b]? := fun b hb => set_blk w₁ _ _ fun e => hb e.symm
          have M1 := M.view hv
          refine hk' _ _ _ ⟨⟨M1.pr, M1.sam, M1.own, M1.fr.trans (Fr.set (X := (· = C)) rfl), M1.bnd⟩, P, Q, S', F.none (j := 11) (by rfl) rfl, ((mi.mono (fun _ h => h) fun b hb _ => hv.2 b hb).monoC ⟨_, (ck.view hv).c0⟩ (fun e => by have := hf.2.1.2 C e; omega) (fun u8 e => by have := (hf.2.2 u8).2 C e; omega) (fun _ h => h) fun b _ _ hb => hset b hb).set 11 (by decide), ⟨fun x => hf.1 ((up_ne (by decide)).1 x), hf.2.1, fun x => hf.2.2 ((up_ne (by decide)).1 x)⟩, fun x => absurd (up_eq (by rw [hLs]; decide)) x, fun _ => (ck.view hv).s3 S'⟩
      · intro L l' w' env ⟨M', P, Q, S', F, mi, hf, _, hk11⟩ hall
        have W' := Wl l' M'.pr
        refine Tk.sub (env' := [(0, ptr X 0), (1, .int .u8 n)]) ?_ (AllGet.sub ⟨F.base 0 rfl, F.base 1 rfl, trivial⟩)
        refine Tk.inBlock W'.wk ?_
        refine Tk.reg W' ?_
        refine TkO.pureS W' (by rfl) (by rfl) (by rfl) (by rfl) (by (first | exact pure_move (.inl rfl) rfl | exact pure_move (.inr rfl) rfl | exact pure_nilCheck rfl rfl | exact pure_field rfl rfl (by rfl) rfl (by decide +kernel) | exact pure_int rfl rfl rfl rfl | exact pure_not rfl rfl | exact pure_pickT rfl rfl rfl | exact pure_pickF rfl rfl rfl | exact pure_shift rfl rfl rfl rfl | exact pure_eqlNil rfl rfl rfl (by rfl) | exact pure_conv rfl rfl (by rfl) (by rfl))) ?_
        rw [show IntKind.u8.wrap ((n : Int) + 1) = ((n + 1 : Nat) : Int) from wrap8 hn19]
        (repeat (first | refine TkO.done W' (by rfl) ?_ | refine TkO.unwantedS W' (by rfl) (by rfl) (by rfl) (by rfl) ?_ | refine TkO.pureS W' (by rfl) (by rfl) (by rfl) (by rfl) (by first | exact pure_move (.inl rfl) rfl | exact pure_move (.inr rfl) rfl | exact pure_nilCheck rfl rfl | exact pure_field rfl rfl (by rfl) rfl (by decide +kernel) | exact pure_int rfl rfl rfl rfl | exact pure_not rfl rfl | exact pure_pickT rfl rfl rfl | exact pure_pickF rfl rfl rfl | exact pure_shift rfl rfl rfl rfl | exact pure_eqlNil rfl rfl rfl (by rfl) | exact pure_conv rfl rfl (by rfl) (by rfl)) ?_ | refine Tk.seq (WkP.wk W') ?_ | refine Tk.reg W' ?_ | refine Tk.skip (WkP.wk W') ?_ | refine Tk.block (WkP.wk W') ?_ | refine Tk.condT (WkP.wk W') rfl ?_ | refine Tk.condF (WkP.wk W') rfl ?_ | refine Tk.exit (WkP.wk W') rfl ?_ | refine Tk.label (WkP.wk W') ?_))
        refine Tk.inLoop W'.wk ?_
        rw [← hK]
        exact Tk.sub (ihm (n + 1) l' w' S' (ps ++ [P]) (by omega) M' mi.box (mi.row' (hall 8 (by decide))) (hf.2.2 (hall 8 (by decide))) (hk11 (hall 11 (by decide)))) (AllGet.sub ⟨rfl, rfl, trivial⟩)
  exact Tk.sub (HH 19 0 l w (.slice none 0 0) [] rfl M hbox ⟨rfl, List.nodup_nil, (by simp), ⟨rfl, .inl ⟨rfl, rfl⟩⟩, by intro g hg; cases hg⟩ ⟨by simp, by intro g hg; cases hg⟩ hkn) (AllGet.sub ⟨rfl, rfl, trivial⟩)
end Go.Co.F1
