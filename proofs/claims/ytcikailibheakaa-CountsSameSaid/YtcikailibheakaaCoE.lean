/- A theory of many goroutines that count at once (a channel, a wait group, once, a mutex), the walks of the program's functions in it, and the law CountsSame of the seat, proved out of them. No condition beyond those that stand in each statement. -/
import Derived.Test.YtcikailibheakaaCoD
import Derived.Conc.CompanyDraw
import Derived.Conc.Listed
import Derived.Laws.Tables
import Derived.Maps.AppendAt
import Derived.Conc.AppendEvents3
import Derived.Conc.AppendWalk
import Derived.Conc.QuitsD
import Derived.Conc.SmallLaws
namespace Go.Co.F1
open Go Go.Conc Go.Proofs
open Go.Co
variable {E : Geo} {N i : Nat} {l : Lo} {w : World}
set_option maxRecDepth 10000
noncomputable def c53 : Code := (Try.f53.body).getD .skip
theorem b53 : Bod Try.prog 53 6 c53 #[] := ⟨Try.f53, Try.func53, by decide +kernel, rfl, rfl, rfl⟩
noncomputable def c54 : Code := (Try.f54.body).getD .skip
theorem b54 : Bod Try.prog 54 6 c54 #[] := ⟨Try.f54, Try.func54, by decide +kernel, rfl, rfl, rfl⟩
theorem lock53 {k B o : Nat} (hf : E.FinV) (hP : E.P = Try.prog) (O : OnceAt E k B o) (A : Lk E i k l none) (hp : l.pas k = false) (hdf : l.deaf = 0) {fr : Frame} {cs : List Frame}
    (h : ∀ w', View l.own w w' → Tr E N i (l.mu k (some .held) none) (Conc.G (fr.finish (.tuple #[])) cs) w') :
    Tr E N i l (Conc.G (Frame.enter Try.prog 53 #[.pointer (some ⟨B, o + 1, none⟩)] .normal) (fr :: cs)) w := by
  have W : WkP Try.prog E l (base 53) := ⟨⟨hf, A.ch, by decide⟩, hP⟩
  refine Tr.enterP hP b53 (Nat.le_of_ble_eq_true rfl) ?_
  (repeat (first | refine TkO.done W (by rfl) ?_ | refine TkO.unwantedS W (by rfl) (by rfl) (by rfl) (by rfl) ?_ | refine TkO.pureS W (by rfl) (by rfl) (by rfl) (by rfl) (by first | exact pure_move (.inl rfl) rfl | exact pure_move (.inr rfl) rfl | exact p_bit5 rfl rfl (by dsimp only; omega) | exact p_bit1 rfl rfl (by dsimp only; omega) | exact p_bit2 rfl rfl (by dsimp only; omega) | exact p_bit3 rfl rfl (by dsimp only; omega) | exact p_bit4 rfl rfl (by dsimp only; omega) | exact p_bit7 rfl rfl (by dsimp only; omega) | exact p_or1 rfl rfl (by dsimp only; omega) | exact p_or2 rfl rfl (by dsimp only; omega) | exact p_or4 rfl rfl (by dsimp only; omega) | exact p_clr2 rfl rfl (by dsimp only; omega) | exact p_add8 rfl rfl (by dsimp only; omega) | exact p_shr3 rfl rfl rfl (by dsimp only; omega) | exact pure_nilCheck rfl rfl | exact pure_field rfl rfl (by rfl) rfl (by decide +kernel) | exact pure_int rfl rfl rfl rfl | exact pure_not rfl rfl | exact pure_pickT rfl rfl rfl | exact pure_pickF rfl rfl rfl | exact pure_shift rfl rfl rfl rfl | exact pure_eqlNil rfl rfl rfl (by rfl) | exact pure_conv rfl rfl (by rfl) (by rfl)) ?_ | refine Tk.seq (WkP.wk W) ?_ | refine Tk.reg W ?_ | refine Tk.skip (WkP.wk W) ?_ | refine Tk.block (WkP.wk W) ?_ | refine Tk.condT (WkP.wk W) rfl ?_ | refine Tk.condF (WkP.wk W) rfl ?_ | refine Tk.exit (WkP.wk W) rfl ?_ | refine Tk.label (WkP.wk W) ?_))
  refine TkO.call W (by rfl) (by rfl) (by rfl) (by rfl) b56 rfl fun fr' hk => ?_
  refine lock56 hf hP O (slow61 hP O) A hp hdf fun w' hv => hk _ _ _ (TkO.lay (rfl : Nv.put _ _ _ = (_, _) :: _) ?_)
  have W2 : WkP Try.prog E (l.mu k (some .held) none) (base 53) := wkp W A.ch
  (repeat (first | refine TkO.done W2 (by rfl) ?_ | refine TkO.unwantedS W2 (by rfl) (by rfl) (by rfl) (by rfl) ?_ | refine TkO.pureS W2 (by rfl) (by rfl) (by rfl) (by rfl) (by first | exact pure_move (.inl rfl) rfl | exact pure_move (.inr rfl) rfl | exact p_bit5 rfl rfl (by dsimp only; omega) | exact p_bit1 rfl rfl (by dsimp only; omega) | exact p_bit2 rfl rfl (by dsimp only; omega) | exact p_bit3 rfl rfl (by dsimp only; omega) | exact p_bit4 rfl rfl (by dsimp only; omega) | exact p_bit7 rfl rfl (by dsimp only; omega) | exact p_or1 rfl rfl (by dsimp only; omega) | exact p_or2 rfl rfl (by dsimp only; omega) | exact p_or4 rfl rfl (by dsimp only; omega) | exact p_clr2 rfl rfl (by dsimp only; omega) | exact p_add8 rfl rfl (by dsimp only; omega) | exact p_shr3 rfl rfl rfl (by dsimp only; omega) | exact pure_nilCheck rfl rfl | exact pure_field rfl rfl (by rfl) rfl (by decide +kernel) | exact pure_int rfl rfl rfl rfl | exact pure_not rfl rfl | exact pure_pickT rfl rfl rfl | exact pure_pickF rfl rfl rfl | exact pure_shift rfl rfl rfl rfl | exact pure_eqlNil rfl rfl rfl (by rfl) | exact pure_conv rfl rfl (by rfl) (by rfl)) ?_ | refine Tk.seq (WkP.wk W2) ?_ | refine Tk.reg W2 ?_ | refine Tk.skip (WkP.wk W2) ?_ | refine Tk.block (WkP.wk W2) ?_ | refine Tk.condT (WkP.wk W2) rfl ?_ | refine Tk.condF (WkP.wk W2) rfl ?_ | refine Tk.exit (WkP.wk W2) rfl ?_ | refine Tk.label (WkP.wk W2) ?_))
  exact Tk.fall W2.wk (TkR.leave0 W2.wk (hP ▸ b53) (h _ hv))
theorem unlock54 {k B o : Nat} (hf : E.FinV) (hP : E.P = Try.prog) (O : OnceAt E k B o) (A : Lk E i k l (some .held)) (hp : l.pas k = true) (hdf : l.deaf = 0) {fr : Frame} {cs : List Frame}
    (hm : fr.mode = .returning) (h : ∀ o' w', View l.own w w' → Tr E N i (l.mu k none o') (Conc.G fr cs) w') :
    Tk E N i l w (baseD 54) 6 (argsEnv [.pointer (some ⟨B, o + 1, none⟩)] 0) [] [.code c54] (fr :: cs) := by
  have W : WkP Try.prog E l (baseD 54) := ⟨⟨hf, A.ch, by decide⟩, hP⟩
  (repeat (first | refine TkO.done W (by rfl) ?_ | refine TkO.unwantedS W (by rfl) (by rfl) (by rfl) (by rfl) ?_ | refine TkO.pureS W (by rfl) (by rfl) (by rfl) (by rfl) (by first | exact pure_move (.inl rfl) rfl | exact pure_move (.inr rfl) rfl | exact p_bit5 rfl rfl (by dsimp only; omega) | exact p_bit1 rfl rfl (by dsimp only; omega) | exact p_bit2 rfl rfl (by dsimp only; omega) | exact p_bit3 rfl rfl (by dsimp only; omega) | exact p_bit4 rfl rfl (by dsimp only; omega) | exact p_bit7 rfl rfl (by dsimp only; omega) | exact p_or1 rfl rfl (by dsimp only; omega) | exact p_or2 rfl rfl (by dsimp only; omega) | exact p_or4 rfl rfl (by dsimp only; omega) | exact p_clr2 rfl rfl (by dsimp only; omega) | exact p_add8 rfl rfl (by dsimp only; omega) | exact p_shr3 rfl rfl rfl (by dsimp only; omega) | exact pure_nilCheck rfl rfl | exact pure_field rfl rfl (by rfl) rfl (by decide +kernel) | exact pure_int rfl rfl rfl rfl | exact pure_not rfl rfl | exact pure_pickT rfl rfl rfl | exact pure_pickF rfl rfl rfl | exact pure_shift rfl rfl rfl rfl | exact pure_eqlNil rfl rfl rfl (by rfl) | exact pure_conv rfl rfl (by rfl) (by rfl)) ?_ | refine Tk.seq (WkP.wk W) ?_ | refine Tk.reg W ?_ | refine Tk.skip (WkP.wk W) ?_ | refine Tk.block (WkP.wk W) ?_ | refine Tk.condT (WkP.wk W) rfl ?_ | refine Tk.condF (WkP.wk W) rfl ?_ | refine Tk.exit (WkP.wk W) rfl ?_ | refine Tk.label (WkP.wk W) ?_))
  refine TkO.call W (by rfl) (by rfl) (by rfl) (by rfl) b57 rfl fun fr' hk => ?_
  refine unlock57 hf hP O A hp hdf fun o' w' hv => hk _ _ _ (TkO.lay (rfl : Nv.put _ _ _ = (_, _) :: _) ?_)
  have W2 : WkP Try.prog E (l.mu k none o') (baseD 54) := wkp W A.ch
  (repeat (first | refine TkO.done W2 (by rfl) ?_ | refine TkO.unwantedS W2 (by rfl) (by rfl) (by rfl) (by rfl) ?_ | refine TkO.pureS W2 (by rfl) (by rfl) (by rfl) (by rfl) (by first | exact pure_move (.inl rfl) rfl | exact pure_move (.inr rfl) rfl | exact p_bit5 rfl rfl (by dsimp only; omega) | exact p_bit1 rfl rfl (by dsimp only; omega) | exact p_bit2 rfl rfl (by dsimp only; omega) | exact p_bit3 rfl rfl (by dsimp only; omega) | exact p_bit4 rfl rfl (by dsimp only; omega) | exact p_bit7 rfl rfl (by dsimp only; omega) | exact p_or1 rfl rfl (by dsimp only; omega) | exact p_or2 rfl rfl (by dsimp only; omega) | exact p_or4 rfl rfl (by dsimp only; omega) | exact p_clr2 rfl rfl (by dsimp only; omega) | exact p_add8 rfl rfl (by dsimp only; omega) | exact p_shr3 rfl rfl rfl (by dsimp only; omega) | exact pure_nilCheck rfl rfl | exact pure_field rfl rfl (by rfl) rfl (by decide +kernel) | exact pure_int rfl rfl rfl rfl | exact pure_not rfl rfl | exact pure_pickT rfl rfl rfl | exact pure_pickF rfl rfl rfl | exact pure_shift rfl rfl rfl rfl | exact pure_eqlNil rfl rfl rfl (by rfl) | exact pure_conv rfl rfl (by rfl) (by rfl)) ?_ | refine Tk.seq (WkP.wk W2) ?_ | refine Tk.reg W2 ?_ | refine Tk.skip (WkP.wk W2) ?_ | refine Tk.block (WkP.wk W2) ?_ | refine Tk.condT (WkP.wk W2) rfl ?_ | refine Tk.condF (WkP.wk W2) rfl ?_ | refine Tk.exit (WkP.wk W2) rfl ?_ | refine Tk.label (WkP.wk W2) ?_))
  exact Tk.fall W2.wk (TkR.leaveD W2.wk (hP ▸ b54) hm (h _ _ hv))
end Go.Co.F1

namespace Go.Co.F1
open Go Go.Conc Go.Proofs
open Go.Co
def stN (n m : Nat) : Int := ((n * 4294967296 + m : Nat) : Int)
def isV (k : IntKind) (r : Option Value) (n : Int) : Bool := match r with
  | some (.int k' m) => decide (k' = k) && (m == n)
  | _ => false
theorem isV_eq {k : IntKind} {r : Option Value} {n : Int} (h : isV k r n = true) : r = some (.int k n) := by
  unfold isV at h
  split at h
  · rename_i k' m; simp at h; rw [h.1, h.2]
  · cases h
theorem st_lift {p : Nat → Nat → Prop} (h : ∀ (n : Fin 64) (m : Fin 2), p n.val m.val) {n m : Nat} (hn : n < 64) (hm : m ≤ 1) : p n m := h ⟨n, hn⟩ ⟨m, by omega⟩
theorem st_flag {n m : Nat} (hn : n < 64) (hm : m ≤ 1) : intV .and .u64 (stN n m) 2147483648 = some (.int .u64 0) :=
  isV_eq (st_lift (p := fun n m => isV .u64 (intV .and .u64 (stN n m) 2147483648) 0 = true) (by decide +kernel) hn hm)
theorem st_hi {n m : Nat} (hn : n < 64) (hm : m ≤ 1) : shiftV .shr .u64 (stN n m) 32 = some (.int .u64 (n : Int)) :=
  isV_eq (st_lift (p := fun n m => isV .u64 (shiftV .shr .u64 (stN n m) 32) (n : Int) = true) (by decide +kernel) hn hm)
theorem st_lo {n m : Nat} (hn : n < 64) (hm : m ≤ 1) : intV .and .u64 (stN n m) 2147483647 = some (.int .u64 (m : Int)) :=
  isV_eq (st_lift (p := fun n m => isV .u64 (intV .and .u64 (stN n m) 2147483647) (m : Int) = true) (by decide +kernel) hn hm)
theorem st_i32 {n : Nat} (hn : n < 64) : IntKind.i32.wrap (n : Int) = (n : Int) :=
  st_lift (p := fun n _ => IntKind.i32.wrap (n : Int) = (n : Int)) (by decide +kernel) hn (Nat.zero_le 1)
theorem st_u32 {m : Nat} (hm : m ≤ 1) : IntKind.u32.wrap (m : Int) = (m : Int) :=
  st_lift (p := fun _ m => IntKind.u32.wrap (m : Int) = (m : Int)) (by decide +kernel) (show 0 < 64 by omega) hm
theorem st_inc {n m : Nat} (hn : n < 64) (hm : m ≤ 1) : IntKind.u64.wrap (stN n m + 4294967296) = stN (n + 1) m :=
  st_lift (p := fun n m => IntKind.u64.wrap (stN n m + 4294967296) = stN (n + 1) m) (by decide +kernel) hn hm
theorem st_dec {n m : Nat} (hn : n < 64) (hm : m ≤ 1) (h1 : 1 ≤ n) : IntKind.u64.wrap (stN n m + 18446744069414584320) = stN (n - 1) m :=
  st_lift (p := fun n m => 1 ≤ n → IntKind.u64.wrap (stN n m + 18446744069414584320) = stN (n - 1) m) (by decide +kernel) hn hm h1
theorem st_wait {n : Nat} (hn : n < 64) : intV .add .u64 (stN n 0) 1 = some (.int .u64 (stN n 1)) :=
  isV_eq (st_lift (p := fun n _ => isV .u64 (intV .add .u64 (stN n 0) 1) (stN n 1) = true) (by decide +kernel) hn (Nat.zero_le 1))
theorem st_delta1 : shiftV .shl .u64 (IntKind.u64.wrap 1) 32 = some (.int .u64 4294967296) := isV_eq (by decide +kernel)
theorem st_deltaN : shiftV .shl .u64 (IntKind.u64.wrap (-1)) 32 = some (.int .u64 18446744069414584320) := isV_eq (by decide +kernel)
variable {E : Geo} {N i : Nat} {l : Lo} {w : World}
set_option maxRecDepth 10000
noncomputable def c16 : Code := (Try.f16.body).getD .skip
theorem b16 : Bod Try.prog 16 10 c16 #[.tmp 4] := ⟨Try.f16, Try.func16, by decide +kernel, rfl, rfl, rfl⟩
theorem e23 : Ent Try.prog 23 (Extern.Atomic.update (Op.intArith .add) .i64 true) := ⟨Try.f23, Try.func23, by decide +kernel, rfl, by rfl, by rfl⟩
theorem add16 {B o k r j : Nat} (hf : E.FinV) (hP : E.P = Try.prog) (hlive : l.live = true) (hch : l.ch = .no) (hrel : l.rel = none) (hjob : l.job = some j) (hrs : E.rs j = some r) (hpk : l.pas k = true)
    (happ : ∀ G w t, GI E G w t → (G.th i).live = true → G.th i = l → ∃ v : Int, G.app ⟨B, o, none⟩ = some (.int .i64 v, .ctr k) ∧ E.App (setApp G.app ⟨B, o, none⟩ (.int .i64 (IntKind.i64.wrap (v + 1)), .ctr k)) G.dn (Go.ConcN.upd G.cv r (G.cv r + 1)))
    {fr : Frame} {cs : List Frame} (h : ∀ v w', View l.own w w' → Tr E N i { l with job := none } (Conc.G (fr.finish v) cs) w') :
    Tr E N i l (Conc.G (Frame.enter Try.prog 16 #[.pointer (some ⟨B, o, none⟩), .int .i64 1] .normal) (fr :: cs)) w := by
  have W : WkP Try.prog E l (base 16) := ⟨⟨hf, hch, by decide⟩, hP⟩
  refine Tr.enterP hP b16 (Nat.le_of_ble_eq_true rfl) ?_
  (repeat (first | refine TkO.done W (by rfl) ?_ | refine TkO.unwantedS W (by rfl) (by rfl) (by rfl) (by rfl) ?_ | refine TkO.pureS W (by rfl) (by rfl) (by rfl) (by rfl) (by first | exact pure_move (.inl rfl) rfl | exact pure_move (.inr rfl) rfl | exact p_bit5 rfl rfl (by dsimp only; omega) | exact p_bit1 rfl rfl (by dsimp only; omega) | exact p_bit2 rfl rfl (by dsimp only; omega) | exact p_bit3 rfl rfl (by dsimp only; omega) | exact p_bit4 rfl rfl (by dsimp only; omega) | exact p_bit7 rfl rfl (by dsimp only; omega) | exact p_or1 rfl rfl (by dsimp only; omega) | exact p_or2 rfl rfl (by dsimp only; omega) | exact p_or4 rfl rfl (by dsimp only; omega) | exact p_clr2 rfl rfl (by dsimp only; omega) | exact p_add8 rfl rfl (by dsimp only; omega) | exact p_shr3 rfl rfl rfl (by dsimp only; omega) | exact pure_nilCheck rfl rfl | exact pure_field rfl rfl (by rfl) rfl (by decide +kernel) | exact pure_int rfl rfl rfl rfl | exact pure_not rfl rfl | exact pure_pickT rfl rfl rfl | exact pure_pickF rfl rfl rfl | exact pure_shift rfl rfl rfl rfl | exact pure_eqlNil rfl rfl rfl (by rfl) | exact pure_conv rfl rfl (by rfl) (by rfl)) ?_ | refine Tk.seq (WkP.wk W) ?_ | refine Tk.reg W ?_ | refine Tk.skip (WkP.wk W) ?_ | refine Tk.block (WkP.wk W) ?_ | refine Tk.condT (WkP.wk W) rfl ?_ | refine Tk.condF (WkP.wk W) rfl ?_ | refine Tk.exit (WkP.wk W) rfl ?_ | refine Tk.label (WkP.wk W) ?_))
  refine TkO.aadd W (kk := .i64) (ad := ⟨B, o, none⟩) (d := 1) (by rfl) (by rfl) (by rfl) (by rfl) e23 (by rfl) rfl fun G w₁ t hg hact hlo hv => ?_
  obtain ⟨v, ha, more⟩ := happ G w₁ t hg hact hlo
  obtain ⟨c1, c2, _⟩ := hg.m.app _ _ _ ha
  have hvw : View l.own w₁ (w₁.setCell ⟨B, o, none⟩ (.int .i64 (IntKind.i64.wrap (v + 1)))) := by
    refine ⟨by rw [setCell_size]; exact Nat.le_refl _, fun b hb => set_blk w₁ _ _ fun e => ?_⟩
    exact hg.app_away ha i hact (by rw [hlo]; rw [e]; exact hb)
  refine ⟨v, { l with job := none }, false, c1, c2, fun fn pos => ?_, TkOL.same (TkO.lay (rfl : Nv.put _ _ _ = (_, _) :: _) ?_)⟩
  · obtain ⟨G', d, c, _⟩ := hg.count (.int .i64 (IntKind.i64.wrap (v + 1))) fn pos hact (by rw [hlo]; exact hrel) (by rw [hlo]; exact hjob) hrs ha (by rw [hlo]; exact hpk) more
    rw [hlo] at d
    exact ⟨G', d, .inl rfl, hlive, fun e => by cases e⟩
  · have W2 : WkP Try.prog E { l with job := none } (base 16) := wkp W hch
    (repeat (first | refine TkO.done W2 (by rfl) ?_ | refine TkO.unwantedS W2 (by rfl) (by rfl) (by rfl) (by rfl) ?_ | refine TkO.pureS W2 (by rfl) (by rfl) (by rfl) (by rfl) (by first | exact pure_move (.inl rfl) rfl | exact pure_move (.inr rfl) rfl | exact p_bit5 rfl rfl (by dsimp only; omega) | exact p_bit1 rfl rfl (by dsimp only; omega) | exact p_bit2 rfl rfl (by dsimp only; omega) | exact p_bit3 rfl rfl (by dsimp only; omega) | exact p_bit4 rfl rfl (by dsimp only; omega) | exact p_bit7 rfl rfl (by dsimp only; omega) | exact p_or1 rfl rfl (by dsimp only; omega) | exact p_or2 rfl rfl (by dsimp only; omega) | exact p_or4 rfl rfl (by dsimp only; omega) | exact p_clr2 rfl rfl (by dsimp only; omega) | exact p_add8 rfl rfl (by dsimp only; omega) | exact p_shr3 rfl rfl rfl (by dsimp only; omega) | exact pure_nilCheck rfl rfl | exact pure_field rfl rfl (by rfl) rfl (by decide +kernel) | exact pure_int rfl rfl rfl rfl | exact pure_not rfl rfl | exact pure_pickT rfl rfl rfl | exact pure_pickF rfl rfl rfl | exact pure_shift rfl rfl rfl rfl | exact pure_eqlNil rfl rfl rfl (by rfl) | exact pure_conv rfl rfl (by rfl) (by rfl)) ?_ | refine Tk.seq (WkP.wk W2) ?_ | refine Tk.reg W2 ?_ | refine Tk.skip (WkP.wk W2) ?_ | refine Tk.block (WkP.wk W2) ?_ | refine Tk.condT (WkP.wk W2) rfl ?_ | refine Tk.condF (WkP.wk W2) rfl ?_ | refine Tk.exit (WkP.wk W2) rfl ?_ | refine Tk.label (WkP.wk W2) ?_))
    exact Tk.ret W2.wk (TkR.leave1 W2.wk (hP ▸ b16) rfl (h _ _ (hv.trans hvw)))
end Go.Co.F1

namespace Go.Co
open Go Go.Conc
variable {E : Geo} {N i : Nat} {l : Lo} {w : World}
def TkS (E : Geo) (N i : Nat) (fuel : Nat) (listed : Array Bool) (l : Lo) (w : World) (b : Frame) (n : Nat) (env : Nv) (ds : List Deferred) (ops : Array Oper) (k : List Item) (cs : List Frame) : Prop :=
  ∀ t, Tk E N i l w b n env ds (.inRegion ops (Region.linearise.go .any ops fuel t listed []) :: k) cs
section
variable {P : Program} {b : Frame} {n : Nat} {env : Nv} {ds : List Deferred} {k : List Item} {cs : List Frame} {ops : Array Oper} {fuel : Nat} {listed : Array Bool}
theorem Tk.draw (W : WkP P E l b) {x : Nat} (hm : P.follows .mixedOrders = true) (h : TkS E N i ops.size (Array.replicate ops.size false) l w b n env ds ops k cs) : Tk E N i l w b n env ds (.code (.region x ops true) :: k) cs := by
  intro a ha hds
  refine Tr.priv (runs_G _ _) W.wk.ch fun w₁ hv => ?_
  refine ⟨_, { w₁ with drawn := w₁.drawn + 1 }, #[], stepG_region_draw, rfl, ⟨Nat.le_refl _, fun _ _ _ => rfl, rfl, rfl, rfl, fun e he => by simp at he⟩, fun _ e he => by simp at he, ?_⟩
  show Tr E N i (l.grow w₁.heap.size w₁.heap.size) _ _
  rw [Lo.grow_self]
  have hs : ∀ t, Region.schedule (E.P.follows .mixedOrders) ops t = Region.linearise.go .any ops ops.size t (Array.replicate ops.size false) [] := fun t => by
    rw [W.hP]; simp only [Region.schedule, hm, Bool.true_or, if_true]; rfl
  rw [hs]
  exact Tr.view W.wk.fin (h _ a ha hds) (hv.trans ⟨Nat.le_refl _, fun _ _ => rfl⟩)
theorem TkS.done (W : WkP P E l b) (hr : Region.ready .any ops listed = []) (h : Tk E N i l w b n env ds k cs) : TkS E N i fuel listed l w b n env ds ops k cs := by
  intro t
  have : Region.linearise.go .any ops fuel t listed [] = [] := by
    cases fuel with
    | zero => simp [Region.linearise.go]
    | succ f =>
      simp only [Region.linearise.go]
      change (match (Region.ready .any ops listed)[t % (Region.ready .any ops listed).length]? with
        | some i => Region.linearise.go .any ops f (t / (Region.ready .any ops listed).length) (listed.setIfInBounds i true) [i]
        | none => [].reverse) = []
      rw [hr]
      rfl
  rw [this]
  exact Tk.regionEnd W.wk h
theorem TkS.step {rs : List Nat} (hr : Region.ready .any ops listed = rs) (hne : rs ≠ [])
    (h : ∀ j ∈ rs, ∀ L : List Nat, (∀ l' w' env' ds', TkS E N i fuel (listed.setIfInBounds j true) l' w' b n env' ds' ops k cs → Tk E N i l' w' b n env' ds' (.inRegion ops L :: k) cs) → Tk E N i l w b n env ds (.inRegion ops (j :: L) :: k) cs) :
    TkS E N i (fuel + 1) listed l w b n env ds ops k cs := by
  intro t
  simp only [Region.linearise.go]
  change Tk E N i l w b n env ds (.inRegion ops (match (Region.ready .any ops listed)[t % (Region.ready .any ops listed).length]? with
      | some i => Region.linearise.go .any ops fuel (t / (Region.ready .any ops listed).length) (listed.setIfInBounds i true) [i]
      | none => [].reverse) :: k) cs
  rw [hr]
  have hlt : t % rs.length < rs.length := Nat.mod_lt _ (List.length_pos_iff.2 hne)
  have hget : rs[t % rs.length]? = some rs[t % rs.length] := List.getElem?_eq_getElem hlt
  rw [hget]
  simp only
  rw [linearise_go_acc, List.reverse_singleton, List.singleton_append]
  exact h _ (List.getElem_mem hlt) _ fun l' w' env' ds' hs => hs _
end
end Go.Co

namespace Go.Co.F1
open Go Go.Conc Go.Proofs
open Go.Co
variable {E : Geo} {N i : Nat} {l : Lo} {w : World}
set_option maxRecDepth 10000
noncomputable def c59 : Code := (Try.f59.body).getD .skip
theorem b59 : Bod Try.prog 59 4 c59 #[.tmp 2] := ⟨Try.f59, Try.func59, by decide +kernel, rfl, rfl, rfl⟩
theorem mixed : Try.prog.follows .mixedOrders = true := by decide +kernel
theorem b32T (hf : E.FinV) (hP : E.P = Try.prog) (hch : l.ch = .no) {fr : Frame} {cs : List Frame} (h : Tr E N i l (Conc.G (fr.finish (.int .u32 1)) cs) w) :
    Tr E N i l (Conc.G (Frame.enter Try.prog 59 #[.bool true] .normal) (fr :: cs)) w := by
  have W : WkP Try.prog E l (base 59) := ⟨⟨hf, hch, by decide⟩, hP⟩
  refine Tr.enterP hP b59 (Nat.le_of_ble_eq_true rfl) ?_
  (repeat (first | refine TkO.done W (by rfl) ?_ | refine TkO.unwantedS W (by rfl) (by rfl) (by rfl) (by rfl) ?_ | refine TkO.pureS W (by rfl) (by rfl) (by rfl) (by rfl) (by first | exact pure_move (.inl rfl) rfl | exact pure_move (.inr rfl) rfl | exact pure_nilCheck rfl rfl | exact pure_field rfl rfl (by rfl) rfl (by decide +kernel) | exact pure_int rfl rfl rfl rfl | exact pure_not rfl rfl | exact pure_pickT rfl rfl rfl | exact pure_pickF rfl rfl rfl | exact pure_shift rfl rfl rfl rfl | exact pure_eqlNil rfl rfl rfl (by rfl) | exact pure_conv rfl rfl (by rfl) (by rfl)) ?_ | refine Tk.seq (WkP.wk W) ?_ | refine Tk.reg W ?_ | refine Tk.skip (WkP.wk W) ?_ | refine Tk.block (WkP.wk W) ?_ | refine Tk.condT (WkP.wk W) rfl ?_ | refine Tk.condF (WkP.wk W) rfl ?_ | refine Tk.exit (WkP.wk W) rfl ?_ | refine Tk.label (WkP.wk W) ?_))
  exact Tk.ret W.wk (TkR.leave1 W.wk (hP ▸ b59) rfl h)
end Go.Co.F1

namespace Go.Co
open Go Go.Conc
open Go.ConcN (upd upd_ne upd_same)
variable {E : Geo} {N i : Nat} {l : Lo} {w : World}
def Up (L : Array Bool) (j : Nat) : Prop := L[j]? = some true
theorem up_set {L : Array Bool} {j m : Nat} : Up (L.setIfInBounds j true) m ↔ (m = j ∧ j < L.size) ∨ Up L m := by
  unfold Up
  rw [Array.getElem?_setIfInBounds]
  split
  · rename_i e; subst e
    split
    · rename_i h; simp [h]
    · rename_i h
      simp [h]
  · rename_i e
    exact ⟨.inr, fun h => h.resolve_left fun x => e x.1.symm⟩
theorem mem_ready {ops : Array Oper} {L : Array Bool} {j : Nat} : j ∈ Region.ready .any ops L ↔ j < ops.size ∧ L.getD j true = false ∧ ((ops[j]?).map (·.after.all fun e => !Region.binds .any e || L.getD e.on false)).getD false = true := by
  unfold Region.ready
  simp [List.mem_filter, List.mem_range]
def Ahead (ops : Array Oper) : Bool := (List.range ops.size).all fun j => ((ops[j]?).map (·.after.all fun e => Nat.blt e.on j)).getD true
theorem all_up {ops : Array Oper} {L : Array Bool} (ha : Ahead ops = true) (hs : L.size = ops.size) (hr : Region.ready .any ops L = []) : ∀ j, j < ops.size → Up L j := by
  intro j
  induction j using Nat.strongRecOn with
  | _ j ih =>
    intro hj
    unfold Up
    have hlt : j < L.size := by omega
    rw [Array.getElem?_eq_getElem hlt]
    cases hv : L[j] with
    | true => rfl
    | false =>
      exfalso
      have : j ∈ Region.ready .any ops L := by
        rw [mem_ready]
        refine ⟨hj, by simp [Array.getD, hlt, hv], ?_⟩
        have h1 := List.all_eq_true.1 ha j (List.mem_range.2 hj)
        have ho : ops[j]? = some ops[j] := Array.getElem?_eq_getElem hj
        rw [ho] at h1 ⊢
        simp only [Option.map_some, Option.getD_some] at h1 ⊢
        rw [Array.all_eq_true_iff_forall_mem] at h1 ⊢
        intro e he
        have h2 : e.on < j := by have := h1 e he; simpa using this
        have h3 := ih e.on h2 (by omega)
        unfold Up at h3
        simp [Array.getD_eq_getD_getElem?, h3]
      rw [hr] at this; cases this
def down (L : Array Bool) : Nat := L.toList.count false
theorem down_set {L : Array Bool} {j : Nat} (h : L.getD j true = false) : down (L.setIfInBounds j true) + 1 = down L := by
  obtain ⟨l⟩ := L
  unfold down
  have hlt : j < l.length := by
    by_cases x : j < l.length
    · exact x
    · simp [Array.getD_eq_getD_getElem?, Array.getElem?_eq_none (show (List.toArray l).size ≤ j by simpa using x)] at h
  have hv : l[j] = false := by simpa [Array.getD_eq_getD_getElem?, hlt] using h
  simp only [List.setIfInBounds_toArray]
  induction l generalizing j with
  | nil => simp at hlt
  | cons x l ih =>
    cases j with
    | zero => simp at hv; subst hv; simp
    | succ j =>
      simp only [List.getElem_cons_succ] at hv
      have := ih (j := j) (by simpa using h) (by simpa using hlt) hv
      simp only [List.set_cons_succ, List.count_cons]
      omega
def Closed (ops : Array Oper) (L : Array Bool) : Prop := ∀ j o, Up L j → ops[j]? = some o → ∀ e ∈ o.after, Region.binds .any e = true → Up L e.on
theorem Closed.up {ops : Array Oper} {L : Array Bool} {j : Nat} {o : Oper} (h : Closed ops L) (hu : Up L j) (ho : ops[j]? = some o) (m : Nat) (hm : (o.after.toList.any fun e => Nat.beq e.on m && Region.binds .any e) = true) : Up L m := by
  rw [List.any_eq_true] at hm
  obtain ⟨x, hx, he⟩ := hm
  rw [Bool.and_eq_true] at he
  have := h j o hu ho _ (Array.mem_toList_iff.1 hx) he.2
  rwa [Nat.eq_of_beq_eq_true he.1] at this
theorem Closed.set {ops : Array Oper} {L : Array Bool} {j : Nat} (h : Closed ops L) (hb : ∀ o, ops[j]? = some o → ∀ e ∈ o.after, Region.binds .any e = true → Up L e.on) : Closed ops (L.setIfInBounds j true) := fun m o hu ho e he hbi => by
  rcases up_set.1 hu with ⟨rfl, _⟩ | hu
  · exact up_set.2 (.inr (hb o ho e he hbi))
  · exact up_set.2 (.inr (h m o hu ho e he hbi))
theorem not_up0 (n m : Nat) : ¬ Up (Array.replicate n false) m := fun h => by unfold Up at h; simp [Array.getElem?_replicate] at h
section
variable {P : Program} {b : Frame} {n : Nat} {ds : List Deferred} {k : List Item} {cs : List Frame} {ops : Array Oper}
theorem TkS.free {I : Array Bool → Lo → World → Nv → Prop} (ha : Ahead ops = true) (hw : ∀ L l w env, I L l w env → L.size = ops.size ∧ WkP P E l b)
    (hstep : ∀ L l w env j, I L l w env → j < ops.size → Closed ops L → ¬ Up L j → (∀ o, ops[j]? = some o → ∀ e ∈ o.after, Region.binds .any e = true → Up L e.on) → ∀ rest, (∀ l' w' env', I (L.setIfInBounds j true) l' w' env' → Tk E N i l' w' b n env' ds (.inRegion ops rest :: k) cs) → Tk E N i l w b n env ds (.inRegion ops (j :: rest) :: k) cs)
    (hend : ∀ L l w env, I L l w env → (∀ j, j < ops.size → Up L j) → Tk E N i l w b n env ds k cs) :
    ∀ fuel L l w env, I L l w env → Closed ops L → down L ≤ fuel → TkS E N i fuel L l w b n env ds ops k cs := by
  intro fuel
  induction fuel with
  | zero =>
    intro L l w env hI hcl hd
    obtain ⟨hs, W⟩ := hw _ _ _ _ hI
    have hr : Region.ready .any ops L = [] := by
      rw [List.eq_nil_iff_forall_not_mem]
      intro j hj
      have := down_set (mem_ready.1 hj).2.1
      omega
    exact TkS.done W hr (hend _ _ _ _ hI (all_up ha hs hr))
  | succ fuel ih =>
    intro L l w env hI hcl hd
    obtain ⟨hs, W⟩ := hw _ _ _ _ hI
    by_cases hr : Region.ready .any ops L = []
    · exact TkS.done W hr (hend _ _ _ _ hI (all_up ha hs hr))
    · refine TkS.step (rs := Region.ready .any ops L) rfl hr fun j hj rest hk => ?_
      obtain ⟨h1, h2, h3⟩ := mem_ready.1 hj
      have hds := down_set h2
      have hb : ∀ o, ops[j]? = some o → ∀ e ∈ o.after, Region.binds .any e = true → Up L e.on := fun o ho e he hb => by
        rw [ho] at h3
        simp only [Option.map_some, Option.getD_some] at h3
        rw [Array.all_eq_true_iff_forall_mem] at h3
        have := h3 e he
        rw [hb] at this
        simp only [Bool.not_true, Bool.false_or] at this
        unfold Up
        rw [Array.getD_eq_getD_getElem?] at this
        cases hx : L[e.on]? with
        | none => rw [hx] at this; cases this
        | some x => rw [hx] at this; simp at this; rw [this]
      refine hstep L l w env j hI h1 hcl (fun hu => ?_) hb rest fun l' w' env' hI' => hk _ _ _ _ (ih _ _ _ _ hI' (hcl.set hb) (by omega))
      · unfold Up at hu
        simp [Array.getD_eq_getD_getElem?, hu] at h2
theorem Tk.free (W : WkP P E l b) {x : Nat} (hm : P.follows .mixedOrders = true) {env : Nv} {I : Array Oper → Array Bool → Lo → World → Nv → Prop} (ha : Ahead ops = true) (h0 : I ops (Array.replicate ops.size false) l w env)
    (hw : ∀ L l w env, I ops L l w env → L.size = ops.size ∧ WkP P E l b)
    (hstep : ∀ L l w env j, I ops L l w env → j < ops.size → Closed ops L → ¬ Up L j → (∀ o, ops[j]? = some o → ∀ e ∈ o.after, Region.binds .any e = true → Up L e.on) → ∀ rest, (∀ l' w' env', I ops (L.setIfInBounds j true) l' w' env' → Tk E N i l' w' b n env' ds (.inRegion ops rest :: k) cs) → Tk E N i l w b n env ds (.inRegion ops (j :: rest) :: k) cs)
    (hend : ∀ L l w env, I ops L l w env → (∀ j, j < ops.size → Up L j) → Tk E N i l w b n env ds k cs) : Tk E N i l w b n env ds (.code (.region x ops true) :: k) cs :=
  Tk.draw W hm (TkS.free (I := I ops) ha hw hstep hend _ _ _ _ _ h0 (fun j o hu => absurd hu (not_up0 _ _)) (by unfold down; simp))
variable {env : Nv} {j : Nat} {rest : List Nat} {o : Oper}
theorem Tk.privO (W : Wk E l b) (hrel : l.rel = none) (ho : ops[j]? = some o) (hw : wantE ops env o = some true) (hd : dstOk n o.dst = true)
    (h : ∀ w₁, View l.own w w₁ → ∃ v w', (∀ a, Has n env a → (execOp a.eval o).run E.P w₁ = .ok (.value v) w' ∧ ∀ e ∈ (execOp a.eval o).events E.P w₁ #[], PEv (fun b => l.own b ∨ (w₁.heap.size ≤ b ∧ b < w'.heap.size)) e) ∧
      w₁.heap.size ≤ w'.heap.size ∧ (∀ b, ¬ l.own b → b < w₁.heap.size → w'.heap[b]? = w₁.heap[b]?) ∧ w'.tape = w₁.tape ∧ w'.os = w₁.os ∧ w'.output = w₁.output ∧
      Tk E N i (l.grow w₁.heap.size w'.heap.size) w' b n (env.put o.dst v) ds (.inRegion ops rest :: k) cs) : Tk E N i l w b n env ds (.inRegion ops (j :: rest) :: k) cs := by
  intro a ha hds
  refine Tr.priv (runs_G _ _) W.ch fun w₁ hv => ?_
  obtain ⟨v, w', h1, h2, h3, h4, h5, h6, h7⟩ := h w₁ hv
  obtain ⟨r1, r2⟩ := h1 a ha
  exact ⟨Conc.G (b.at (a.put o.dst v) (.inRegion ops rest :: k)) cs, w', _, stepG_value ho (ha.want hw) W.kind r1, rfl, ⟨h2, h3, h4, h5, h6, fun e he => r2 e (mem_listed he)⟩, fun hr => absurd hrel hr, h7 _ (ha.put hd v) (by cases o.dst <;> exact hds)⟩
theorem Tk.newO (W : Wk E l b) (hrel : l.rel = none) {d : Nat} (ho : ops[j]? = some o) (hw : wantE ops env o = some true) (hdd : o.dst = some d) (hd : Nat.blt d n = true) (v : Nat → Value) (x : Obj)
    (hx : ∀ a, Has n env a → ∀ w₁ : World, (execOp a.eval o).run E.P w₁ = .ok (.value (v w₁.heap.size)) { w₁ with heap := w₁.heap.push x } ∧ (execOp a.eval o).events E.P w₁ #[] = #[])
    (h : ∀ w₁, View l.own w w₁ → ∀ r, r = w₁.heap.size → Tk E N i (l.grow r (r + 1)) { w₁ with heap := w₁.heap.push x } b n ((d, v r) :: env) ds (.inRegion ops rest :: k) cs) :
    Tk E N i l w b n env ds (.inRegion ops (j :: rest) :: k) cs := by
  refine Tk.privO W hrel ho hw (by rw [hdd]; exact hd) fun w₁ hv => ⟨v w₁.heap.size, { w₁ with heap := w₁.heap.push x }, fun a ha => ?_, by simp, fun b hb hlt => ?_, rfl, rfl, rfl, ?_⟩
  · obtain ⟨h1, h2⟩ := hx a ha w₁
    exact ⟨h1, fun e he => by rw [h2] at he; simp at he⟩
  · simp [Array.getElem?_push, Nat.ne_of_lt hlt]
  · rw [hdd]
    have := h w₁ hv _ rfl
    simpa [Nv.put] using this
end
structure Facts (ops : Array Oper) (val : Nat → Value) (keep : List Nat) (L : Array Bool) (env : Nv) : Prop where
  size : L.size = ops.size
  base : ∀ x, keep.contains x = true → env.get x = some (val x)
  op : ∀ m o d, ops[m]? = some o → o.dst = some d → Up L m → env.get d = some (val d)
section
variable {ops : Array Oper} {val val' : Nat → Value} {keep : List Nat} {L : Array Bool} {env : Nv} {j d : Nat} {o : Oper}
theorem Facts.put (h : Facts ops val keep L env) (ho : ops[j]? = some o) (hd : o.dst = some d) : Facts ops val keep (L.setIfInBounds j true) ((d, val d) :: env) := by
  refine ⟨by simp [h.size], fun x hx => ?_, fun m o' d' ho' hd' hu => ?_⟩
  · rw [Nv.get_put]
    split
    · rename_i e; subst e; rfl
    · exact h.base x hx
  · rw [Nv.get_put]
    split
    · rename_i e; subst e; rfl
    · rename_i e
      rcases up_set.1 hu with ⟨rfl, _⟩ | hu
      · rw [ho] at ho'; cases ho'; rw [hd] at hd'; cases hd'; exact absurd rfl e
      · exact h.op m o' d' ho' hd' hu
theorem Facts.step {v : Value} (h : Facts ops val keep L env) (ho : ops[j]? = some o) (hd : o.dst = some d) (hv : v = val d) : Facts ops val keep (L.setIfInBounds j true) (env.put o.dst v) := by
  rw [hd, hv]; exact h.put ho hd
theorem Facts.none (h : Facts ops val keep L env) (ho : ops[j]? = some o) (hd : o.dst = none) : Facts ops val keep (L.setIfInBounds j true) env := by
  refine ⟨by simp [h.size], h.base, fun m o' d' ho' hd' hu => ?_⟩
  rcases up_set.1 hu with ⟨rfl, _⟩ | hu
  · rw [ho] at ho'; cases ho'; rw [hd] at hd'; cases hd'
  · exact h.op m o' d' ho' hd' hu
theorem Facts.chg (h : Facts ops val keep L env) (hk : ∀ x, keep.contains x = true → val' x = val x) (ho : ∀ m o d, ops[m]? = some o → o.dst = some d → Up L m → val' d = val d) : Facts ops val' keep L env :=
  ⟨h.size, fun x hx => by rw [hk x hx]; exact h.base x hx, fun m o d h1 h2 h3 => by rw [ho m o d h1 h2 h3]; exact h.op m o d h1 h2 h3⟩
theorem Facts.get (h : Facts ops val keep L env) (ho : ops[j]? = some o) (hd : o.dst = some d) (hu : Up L j) : env.get d = some (val d) := h.op j o d ho hd hu
theorem up_of (h : ∀ o, ops[j]? = some o → ∀ e ∈ o.after, Region.binds .any e = true → Up L e.on) (ho : ops[j]? = some o) (m : Nat) (hm : (o.after.toList.any fun e => Nat.beq e.on m && Region.binds .any e) = true) : Up L m := by
  rw [List.any_eq_true] at hm
  obtain ⟨x, hx, he⟩ := hm
  rw [Bool.and_eq_true] at he
  have := h o ho _ (Array.mem_toList_iff.1 hx) he.2
  rwa [Nat.eq_of_beq_eq_true he.1] at this
end
end Go.Co

namespace Go.Co.F1
open Go Go.Conc Go.Proofs
open Go.Co
open Go.ConcN (upd upd_ne upd_same)
variable {E : Geo} {N i : Nat} {l : Lo} {w : World}
set_option maxRecDepth 10000
noncomputable def c55 : Code := (Try.f55.body).getD .skip
theorem b55 : Bod Try.prog 55 10 c55 #[] := ⟨Try.f55, Try.func55, by decide +kernel, rfl, rfl, rfl⟩
theorem e58 : Ent Try.prog 58 Extern.Atomic.storeT := ⟨Try.f58, Try.func58, by decide +kernel, rfl, by rfl, by rfl⟩
def val55 (B o : Nat) (x : Nat) : Value := match x with
  | 0 | 4 | 5 => .pointer (some ⟨B, o, none⟩)
  | 6 => .pointer (some ⟨B, o, none⟩)
  | 1 | 7 => .bool true
  | 8 => .int .u32 1
  | _ => .tuple #[]
theorem store55 {k B o : Nat} (hf : E.FinV) (hP : E.P = Try.prog) (hk : k < E.K) (hO : E.sc (.done k) = ⟨B, o, none⟩) (hch : l.ch = .no) (hlive : l.live = true) (hdf : l.deaf = 0) (hrel : l.rel = none) (hrun : l.run = some k) {fr : Frame} {cs : List Frame} (hm : fr.mode = .returning)
    (hpub : ∀ G w₁ t, GI E G w₁ t → (G.th i).live = true → G.th i = l → View l.own w w₁ → ∃ PB app', PubTo G w₁ i k PB app' ∧ E.App app' (upd G.dn k true) G.cv ∧ Tr E N i (l.pub k PB app') (Conc.G fr cs) (w₁.setCell (E.sc (.done k)) (.int .u32 1))) :
    Tk E N i l w (baseD 55) 10 (argsEnv [.pointer (some ⟨B, o, none⟩), .bool true] 0) [] [.code c55] (fr :: cs) := by
  have W : WkP Try.prog E l (baseD 55) := ⟨⟨hf, hch, by decide⟩, hP⟩
  have W' : ∀ l' : Lo, l'.ch = .no → WkP Try.prog E l' (baseD 55) := fun l' h => ⟨⟨hf, h, by decide⟩, hP⟩
  refine Tk.free W mixed (I := fun ops L l' w' env => l'.ch = .no ∧ Facts ops (val55 B o) [0, 1] L env ∧ ((¬ Up L 5 ∧ l' = l ∧ View l.own w w') ∨ (Up L 5 ∧ Tr E N i l' (Conc.G fr cs) w'))) (by decide +kernel) ?_ ?_ ?_ ?_
  · refine ⟨hch, ⟨by simp, fun x hx => ?_, fun m o' d _ _ hu => ?_⟩, .inl ⟨fun hu => ?_, rfl, View.refl _ _⟩⟩
    · have : x = 0 ∨ x = 1 := by simpa using hx
      rcases this with rfl | rfl <;> rfl
    · exact absurd hu (not_up0 _ _)
    · exact absurd hu (not_up0 _ _)
  · exact fun L l' w' env h => ⟨h.2.1.size, W' l' h.1⟩
  · intro L l' w' env j ⟨hc, F, hs⟩ hj hcl hu hb rest hk'
    have hj6 : j < 6 := hj
    have hs' : ¬ Up L 5 ∧ l' = l ∧ View l.own w w' := by
      rcases hs with h | ⟨h, _⟩
      · exact h
      · have u2 := hcl.up h (by rfl) 2 (by rfl)
        have u4 := hcl.up h (by rfl) 4 (by rfl)
        have u1 := hcl.up u2 (by rfl) 1 (by rfl)
        have u0 := hcl.up u1 (by rfl) 0 (by rfl)
        have u3 := hcl.up u4 (by rfl) 3 (by rfl)
        have hcases : j = 0 ∨ j = 1 ∨ j = 2 ∨ j = 3 ∨ j = 4 ∨ j = 5 := by omega
        rcases hcases with rfl | rfl | rfl | rfl | rfl | rfl <;> exact absurd ‹_› hu
    obtain ⟨h5, rfl, hv⟩ := hs'
    have f0 := F.base 0 rfl
    have f1 := F.base 1 rfl
    have hcases : j = 0 ∨ j = 1 ∨ j = 2 ∨ j = 3 ∨ j = 4 ∨ j = 5 := by omega
    rcases hcases with rfl | rfl | rfl | rfl | rfl | rfl
    · refine Tk.pure W.wk (by rfl) (by rfl) (by rfl) (pure_move (x := .tmp 0) (.inl rfl) f0) ?_
      exact hk' _ _ _ ⟨hc, F.step (j := 0) (d := 4) (by rfl) rfl rfl, .inl ⟨fun h => h5 ((up_set.1 h).resolve_left fun x => by simp at x), rfl, hv⟩⟩
    · have g := F.get (j := 0) (d := 4) (by rfl) rfl (up_of hb (by rfl) 0 (by rfl))
      refine Tk.pure W.wk (by rfl) (by rfl) (by rfl) (pure_nilCheck (x := .tmp 4) rfl g) ?_
      exact hk' _ _ _ ⟨hc, F.step (j := 1) (d := 5) (by rfl) rfl rfl, .inl ⟨fun h => h5 ((up_set.1 h).resolve_left fun x => by simp at x), rfl, hv⟩⟩
    · have g := F.get (j := 1) (d := 5) (by rfl) rfl (up_of hb (by rfl) 1 (by rfl))
      refine Tk.pure W.wk (by rfl) (by rfl) (by rfl) (by rw [hP]; exact pure_field (x := .tmp 5) rfl g (by rfl) rfl (by decide +kernel)) ?_
      exact hk' _ _ _ ⟨hc, F.step (j := 2) (d := 6) (by rfl) rfl rfl, .inl ⟨fun h => h5 ((up_set.1 h).resolve_left fun x => by simp at x), rfl, hv⟩⟩
    · refine Tk.pure W.wk (by rfl) (by rfl) (by rfl) (pure_move (x := .tmp 1) (.inl rfl) f1) ?_
      exact hk' _ _ _ ⟨hc, F.step (j := 3) (d := 7) (by rfl) rfl rfl, .inl ⟨fun h => h5 ((up_set.1 h).resolve_left fun x => by simp at x), rfl, hv⟩⟩
    · have g := F.get (j := 3) (d := 7) (by rfl) rfl (up_of hb (by rfl) 3 (by rfl))
      refine Tk.call W.wk (vs := [.bool true]) (by rfl) (by rfl) (by rfl) (by rfl) (hP ▸ b59) (by show evsA env [.tmp 7] = _; unfold evsA; rw [show env.ev (.tmp 7) = _ from g]; rfl) fun fr' hk2 => ?_
      rw [hP]
      refine b32T hf hP hc (hk2 _ _ _ (hk' _ _ _ ⟨hc, F.step (j := 4) (d := 8) (by rfl) rfl rfl, .inl ⟨fun h => h5 ((up_set.1 h).resolve_left fun x => by simp at x), rfl, hv⟩⟩))
    · have g6 := F.get (j := 2) (d := 6) (by rfl) rfl (up_of hb (by rfl) 2 (by rfl))
      have g8 := F.get (j := 4) (d := 8) (by rfl) rfl (up_of hb (by rfl) 4 (by rfl))
      refine Tk.astore W.wk (x := .tmp 6) (y := .tmp 8) (kk := .u32) (v := 1) (ad := E.sc (.done k)) (by rfl) (by rfl) (by rfl) (by rfl) (hP ▸ e58) (by rw [hO]; exact g6) g8 fun G w₁ t hg hact hlo hv1 => ?_
      obtain ⟨PB, app', hp, hA, hT⟩ := hpub G w₁ t hg hact hlo (hv.trans hv1)
      obtain ⟨c1, c2⟩ := hg.m.sync (.done k) hk
      refine ⟨_, l'.pub k PB app', false, c1, c2, fun fn pos => ?_, TkL.same (hk' _ _ _ ⟨hch, F.step (j := 5) (d := 9) (by rfl) rfl rfl, .inr ⟨up_set.2 (.inl ⟨rfl, by rw [F.size]; exact hj⟩), hT⟩⟩)⟩
      · obtain ⟨G', dd, c, _, _⟩ := hg.publish fn pos hact (by rw [hlo]; exact hdf) (by rw [hlo]; exact hrel) (by rw [hlo]; exact hrun) hp hA
        rw [hlo] at dd
        exact ⟨G', dd, .inl rfl, hlive, fun e => by cases e⟩
  · intro L l' w' env ⟨hc, F, hs⟩ hall
    have W2 := W' l' hc
    refine Tk.fall W2.wk (TkR.leaveD W2.wk (hP ▸ b55) hm ?_)
    rcases hs with ⟨h, _⟩ | ⟨_, h⟩
    · exact absurd (hall 5 (by decide)) h
    · exact h
end Go.Co.F1

namespace Go.Co
open Go Go.Conc
variable {E : Geo} {N i : Nat} {l : Lo} {w : World}
def Lo.begin (E : Geo) (l : Lo) (k : Nat) : Lo := { l with run := some k, kn := E.kn0 k l.kn }
theorem run_call_fn {P : Program} {a : Act} {w : World} {o : Oper} {x : Operand} {f : FuncId} {fn : Func} {args : Array Operand} {ats : Array TypeId} {cap : Array Value} (hop : o.op = .call { callee := .value x, args, argTypes := ats }) (hx : a.eval x = .func (.func f) #[] cap)
    (hf : P.funcs[f]? = some fn) (hname : (fn.name == "runtime.NumGoroutine") = false) (hb : fn.body.isNone = false) : (execOp a.eval o).run P w = .ok (.enter f (args.map a.eval ++ cap)) w ∧ (execOp a.eval o).events P w #[] = #[] := by
  have h1 : ¬ fn.name = "runtime.NumGoroutine" := by simpa using hname
  have h2 : ¬ fn.body = none := by cases hx : fn.body <;> simp_all
  unfold execOp
  simp [hop, resolve, Deferred.ofValue, invoke, callFunc, hf, h1, h2, hx]
section
variable {P : Program} {b : Frame} {n : Nat} {env : Nv} {ds : List Deferred} {k : List Item} {cs : List Frame}
variable {ops : Array Oper} {j : Nat} {rest : List Nat} {o : Oper} {f : FuncId} {ats : Array TypeId}
theorem TkO.callV (W : WkP P E l b) {x : Operand} {xs : Array Operand} {vs : List Value} {nt : Nat} {c : Code} {rs : Array ResultVar} {cap : Array Value} (ho : ops[j]? = some o) (hw : wantE ops env o = some true) (hd : dstOk n o.dst = true) (hop : o.op = .call { callee := .value x, args := xs, argTypes := ats }) (hb : Bod P f nt c rs)
    (hv : env.ev x = some (.func (.func f) #[] cap)) (hx : evsA env xs.toList = some vs) (h : ∀ fr : Frame, (∀ l' w' v, TkO E N i l' w' b n (env.put o.dst v) ds ops (j + 1) k cs → Tr E N i l' (Conc.G (fr.finish v) cs) w') → Tr E N i l (Conc.G (Frame.enter P f (vs.toArray ++ cap) .normal) (fr :: cs)) w) :
    TkO E N i l w b n env ds ops j k cs := by
  refine TkO.open ho ?_
  intro a ha hds
  obtain ⟨fn, f1, f2, f3, _⟩ := hb.out
  have hm : xs.map a.eval = vs.toArray := by
    apply Array.toList_inj.1
    simp only [Array.toList_map]
    exact ha.evsA hx
  have hr := fun w₁ => run_call_fn (a := a) (P := P) (w := w₁) hop (ha.ev hv) f1 f2 (by rw [f3]; rfl)
  refine Tr.still W.wk.fin (runs_G _ _) (g' := Conc.G (Frame.enter P f (vs.toArray ++ cap) .normal) (b.at a (.inRegion ops (j :: List.range' (j + 1) (ops.size - (j + 1))) :: k) :: cs)) rfl W.wk.ch (fun w₁ _ => ?_) (h _ fun l' w' v hk => ?_)
  · rw [W.hP, stepG_enter ho (ha.want hw) W.wk.kind (hr w₁).1, hm]
    unfold listed
    rw [(hr w₁).2, seen_none]
  · rw [show (b.at a (.inRegion ops (j :: List.range' (j + 1) (ops.size - (j + 1))) :: k)).finish v = b.at (a.put o.dst v) (.inRegion ops (List.range' (j + 1) (ops.size - (j + 1))) :: k) by rw [Frame.finish_at, ho]; rfl]
    exact hk _ (ha.put hd v) (by cases o.dst <;> exact hds)
end
end Go.Co
namespace Go.Co.F1
open Go Go.Conc Go.Proofs
open Go.Co
open Go.ConcN (upd upd_ne upd_same)
variable {E : Geo} {N i : Nat} {l : Lo} {w : World}
set_option maxRecDepth 10000
theorem boolLoadH {k B o : Nat} (W : WkP Try.prog E l (base 50)) (hk : k < E.K) (hO : E.sc (.done k) = ⟨B, o, none⟩) (hlive : l.live = true) (hrel : l.rel = none) (hdf : l.deaf = 0) (hmr : l.mr = some (k, .held)) (hrun : l.run = none) {fr : Frame} {cs : List Frame}
    (h0 : ∀ w', View l.own w w' → Tr E N i (l.begin E k) (G (fr.finish (.bool false)) cs) w') (h1 : ∀ w', View l.own w w' → Tr E N i { l with pas := upd l.pas k true } (G (fr.finish (.bool true)) cs) w') :
    Tr E N i l (G (Frame.enter Try.prog 50 #[.pointer (some ⟨B, o, none⟩)] .normal) (fr :: cs)) w := by
  refine Tr.enterP W.hP b50 (Nat.le_of_ble_eq_true rfl) ?_
  (repeat (first | refine TkO.done W (by rfl) ?_ | refine TkO.pureS W (by rfl) (by rfl) (by rfl) (by rfl) (by first | exact pure_move (.inl rfl) rfl | exact pure_move (.inr rfl) rfl | exact pure_nilCheck rfl rfl | exact pure_field rfl rfl (by rfl) rfl (by decide +kernel) | exact pure_int rfl rfl rfl rfl | exact pure_not rfl rfl | exact pure_pickT rfl rfl rfl | exact pure_pickF rfl rfl rfl | exact pure_shift rfl rfl rfl rfl | exact pure_eqlNil rfl rfl rfl (by rfl) | exact pure_conv rfl rfl (by rfl) (by rfl)) ?_ | refine TkO.unwantedS W (by rfl) (by rfl) (by rfl) (by rfl) ?_ | refine Tk.seq (WkP.wk W) ?_ | refine Tk.reg W ?_ | refine Tk.skip (WkP.wk W) ?_ | refine Tk.block (WkP.wk W) ?_ | refine Tk.inBlock (WkP.wk W) ?_ | refine Tk.loop (WkP.wk W) ?_ | refine Tk.condT (WkP.wk W) rfl ?_ | refine Tk.condF (WkP.wk W) rfl ?_ | refine Tk.exit (WkP.wk W) rfl ?_ | refine Tk.label (WkP.wk W) ?_))
  refine TkO.aload W (kk := .u32) (ad := E.sc (.done k)) (by rfl) (by rfl) (by rfl) (by rfl) e52 (by rw [hO]; rfl) fun G w₁ t hg hact hlo hv => ?_
  have hcell := (hg.m.sync (.done k) hk).1
  cases hd : G.dn k with
  | false =>
    refine ⟨0, l.begin E k, false, ?_, fun fn pos => ?_, TkOL.same (TkO.lay (rfl : Nv.put _ _ _ = (_, _) :: _) ?_)⟩
    · rw [hcell]; show some (Value.int .u32 (G.dn k).toNat) = _; rw [hd]; rfl
    · obtain ⟨s1, s2⟩ := hg.setRun hact (by rw [hlo]; exact hmr) hd (by rw [hlo]; exact hrun)
      rw [hlo] at s1 s2
      have hact' : (upd G.th i { l with run := some k, kn := E.kn0 k l.kn } i).live = true := by rw [upd_same]; exact hlive
      refine ⟨{ G with th := upd G.th i { l with run := some k, kn := E.kn0 k l.kn } }, ?_, .inl rfl, hlive, fun e => by cases e⟩
      exact ⟨s1.seenOpen fn pos hact' hk (by show (upd G.th i _ i).rel = none; rw [upd_same]; exact hrel), upd_same .., fun j hj => upd_ne _ _ hj, rfl, fun _ _ _ => View.refl _ _, s2⟩
    · have W' : WkP Try.prog E (l.begin E k) (base 50) := ⟨⟨W.wk.fin, W.wk.ch, W.wk.kind⟩, W.hP⟩
      (repeat (first | refine TkO.done W' (by rfl) ?_ | refine TkO.pureS W' (by rfl) (by rfl) (by rfl) (by rfl) (by first | exact pure_move (.inl rfl) rfl | exact pure_move (.inr rfl) rfl | exact pure_nilCheck rfl rfl | exact pure_field rfl rfl (by rfl) rfl (by decide +kernel) | exact pure_int rfl rfl rfl rfl | exact pure_not rfl rfl | exact pure_pickT rfl rfl rfl | exact pure_pickF rfl rfl rfl | exact pure_shift rfl rfl rfl rfl | exact pure_eqlNil rfl rfl rfl (by rfl) | exact pure_conv rfl rfl (by rfl) (by rfl)) ?_ | refine TkO.unwantedS W' (by rfl) (by rfl) (by rfl) (by rfl) ?_ | refine Tk.seq (WkP.wk W') ?_ | refine Tk.reg W' ?_ | refine Tk.skip (WkP.wk W') ?_ | refine Tk.block (WkP.wk W') ?_ | refine Tk.inBlock (WkP.wk W') ?_ | refine Tk.loop (WkP.wk W') ?_ | refine Tk.condT (WkP.wk W') rfl ?_ | refine Tk.condF (WkP.wk W') rfl ?_ | refine Tk.exit (WkP.wk W') rfl ?_ | refine Tk.label (WkP.wk W') ?_))
      refine Tk.ret W'.wk (TkR.leave1 W'.wk (W.hP ▸ b50) rfl (h0 _ hv))
  | true =>
    refine ⟨1, { l with pas := upd l.pas k true }, false, ?_, fun fn pos => ?_, TkOL.same (TkO.lay (rfl : Nv.put _ _ _ = (_, _) :: _) ?_)⟩
    · rw [hcell]; show some (Value.int .u32 (G.dn k).toNat) = _; rw [hd]; rfl
    · obtain ⟨G', d, c⟩ := hg.seenDone fn pos hact hk (by rw [hlo]; exact hdf) (by rw [hlo]; exact hrel) hd
      rw [hlo] at d
      exact ⟨G', d, .inl rfl, hlive, fun e => by cases e⟩
    · have W' : WkP Try.prog E { l with pas := upd l.pas k true } (base 50) := ⟨⟨W.wk.fin, W.wk.ch, W.wk.kind⟩, W.hP⟩
      (repeat (first | refine TkO.done W' (by rfl) ?_ | refine TkO.pureS W' (by rfl) (by rfl) (by rfl) (by rfl) (by first | exact pure_move (.inl rfl) rfl | exact pure_move (.inr rfl) rfl | exact pure_nilCheck rfl rfl | exact pure_field rfl rfl (by rfl) rfl (by decide +kernel) | exact pure_int rfl rfl rfl rfl | exact pure_not rfl rfl | exact pure_pickT rfl rfl rfl | exact pure_pickF rfl rfl rfl | exact pure_shift rfl rfl rfl rfl | exact pure_eqlNil rfl rfl rfl (by rfl) | exact pure_conv rfl rfl (by rfl) (by rfl)) ?_ | refine TkO.unwantedS W' (by rfl) (by rfl) (by rfl) (by rfl) ?_ | refine Tk.seq (WkP.wk W') ?_ | refine Tk.reg W' ?_ | refine Tk.skip (WkP.wk W') ?_ | refine Tk.block (WkP.wk W') ?_ | refine Tk.inBlock (WkP.wk W') ?_ | refine Tk.loop (WkP.wk W') ?_ | refine Tk.condT (WkP.wk W') rfl ?_ | refine Tk.condF (WkP.wk W') rfl ?_ | refine Tk.exit (WkP.wk W') rfl ?_ | refine Tk.label (WkP.wk W') ?_))
      exact Tk.ret W'.wk (TkR.leave1 W'.wk (W.hP ▸ b50) rfl (h1 _ hv))
noncomputable def c51 : Code := (Try.f51.body).getD .skip
theorem b51 : Bod Try.prog 51 21 c51 #[] := ⟨Try.f51, Try.func51, by decide +kernel, rfl, rfl, rfl⟩
noncomputable def c43 : Code := (Try.f43.body).getD .skip
theorem b43 : Bod Try.prog 43 12 c43 #[] := ⟨Try.f43, Try.func43, by decide +kernel, rfl, rfl, rfl⟩
structure MadeOk (E : Geo) (N i k : Nat) (l2 : Lo) (w2 : World) (fr : Frame) (cs : List Frame) : Prop where
  lk : Lk E i k { l2 with run := none } (some .held)
  run : l2.run = some k
  deaf : l2.deaf = 0
  say : ∀ G w₁ t, GI E G w₁ t → (G.th i).live = true → G.th i = l2 → View l2.own w2 w₁ → ∃ PB app', PubTo G w₁ i k PB app' ∧ E.App app' (upd G.dn k true) G.cv ∧
    ∀ o' w', View (l2.pub k PB app').own (w₁.setCell (E.sc (.done k)) (.int .u32 1)) w' → Tr E N i ((l2.pub k PB app').mu k none o') (Conc.G (fr.finish (.tuple #[])) cs) w'
set_option maxHeartbeats 4000000 in
theorem slow51 {k B o : Nat} (hf : E.FinV) (hP : E.P = Try.prog) (O : OnceAt E k B o) (A : Lk E i k l none) (hp : l.pas k = false) (hdf : l.deaf = 0) {F nt : Nat} {c : Code} (bF : Bod Try.prog F nt c #[]) {cap : Array Value} {fr : Frame} {cs : List Frame}
    (hdone : ∀ o' w', View l.own w w' → Tr E N i { l.mu k none o' with pas := upd l.pas k true } (Conc.G (fr.finish (.tuple #[])) cs) w')
    (hmake : ∀ w' (fr' : Frame) cs', View l.own w w' → (∀ l2 w2, MadeOk E N i k l2 w2 fr cs → Tr E N i l2 (Conc.G (fr'.finish (.tuple #[])) cs') w2) → Tr E N i ((l.mu k (some .held) none).begin E k) (Conc.G (Frame.enter Try.prog F cap .normal) (fr' :: cs')) w') :
    Tr E N i l (Conc.G (Frame.enter Try.prog 51 #[.pointer (some ⟨B, o, none⟩), .func (.func F) #[] cap] .normal) (fr :: cs)) w := by
  have W : WkP Try.prog E l (base 51) := ⟨⟨hf, A.ch, by decide⟩, hP⟩
  refine Tr.enterP hP b51 (Nat.le_of_ble_eq_true rfl) ?_
  (repeat (first | refine TkO.done W (by rfl) ?_ | refine TkO.unwantedS W (by rfl) (by rfl) (by rfl) (by rfl) ?_ | refine TkO.pureS W (by rfl) (by rfl) (by rfl) (by rfl) (by first | exact pure_move (.inl rfl) rfl | exact pure_move (.inr rfl) rfl | exact pure_nilCheck rfl rfl | exact pure_field rfl rfl (by rfl) rfl (by decide +kernel) | exact pure_int rfl rfl rfl rfl | exact pure_not rfl rfl | exact pure_pickT rfl rfl rfl | exact pure_pickF rfl rfl rfl | exact pure_shift rfl rfl rfl rfl | exact pure_eqlNil rfl rfl rfl (by rfl) | exact pure_conv rfl rfl (by rfl) (by rfl)) ?_ | refine Tk.seq (WkP.wk W) ?_ | refine Tk.reg W ?_ | refine Tk.skip (WkP.wk W) ?_ | refine Tk.block (WkP.wk W) ?_ | refine Tk.condT (WkP.wk W) rfl ?_ | refine Tk.condF (WkP.wk W) rfl ?_ | refine Tk.exit (WkP.wk W) rfl ?_ | refine Tk.label (WkP.wk W) ?_))
  refine TkO.call W (by rfl) (by rfl) (by rfl) (by rfl) b53 rfl fun fr1 hk1 => ?_
  refine lock53 hf hP O A hp hdf fun w1 hv1 => hk1 _ _ _ (TkO.lay (rfl : Nv.put _ _ _ = (_, _) :: _) ?_)
  have W1 : WkP Try.prog E (l.mu k (some .held) none) (base 51) := wkp W A.ch
  (repeat (first | refine TkO.done W1 (by rfl) ?_ | refine TkO.unwantedS W1 (by rfl) (by rfl) (by rfl) (by rfl) ?_ | refine TkO.pureS W1 (by rfl) (by rfl) (by rfl) (by rfl) (by first | exact pure_move (.inl rfl) rfl | exact pure_move (.inr rfl) rfl | exact pure_nilCheck rfl rfl | exact pure_field rfl rfl (by rfl) rfl (by decide +kernel) | exact pure_int rfl rfl rfl rfl | exact pure_not rfl rfl | exact pure_pickT rfl rfl rfl | exact pure_pickF rfl rfl rfl | exact pure_shift rfl rfl rfl rfl | exact pure_eqlNil rfl rfl rfl (by rfl) | exact pure_conv rfl rfl (by rfl) (by rfl)) ?_ | refine Tk.seq (WkP.wk W1) ?_ | refine Tk.reg W1 ?_ | refine Tk.skip (WkP.wk W1) ?_ | refine Tk.block (WkP.wk W1) ?_ | refine Tk.condT (WkP.wk W1) rfl ?_ | refine Tk.condF (WkP.wk W1) rfl ?_ | refine Tk.exit (WkP.wk W1) rfl ?_ | refine Tk.label (WkP.wk W1) ?_))
  refine TkO.defer W1 (by rfl) (by rfl) (by rfl) (by rfl) rfl ?_
  refine TkO.lay (rfl : Nv.put _ _ _ = _) ?_
  (repeat (first | refine TkO.done W1 (by rfl) ?_ | refine TkO.unwantedS W1 (by rfl) (by rfl) (by rfl) (by rfl) ?_ | refine TkO.pureS W1 (by rfl) (by rfl) (by rfl) (by rfl) (by first | exact pure_move (.inl rfl) rfl | exact pure_move (.inr rfl) rfl | exact pure_nilCheck rfl rfl | exact pure_field rfl rfl (by rfl) rfl (by decide +kernel) | exact pure_int rfl rfl rfl rfl | exact pure_not rfl rfl | exact pure_pickT rfl rfl rfl | exact pure_pickF rfl rfl rfl | exact pure_shift rfl rfl rfl rfl | exact pure_eqlNil rfl rfl rfl (by rfl) | exact pure_conv rfl rfl (by rfl) (by rfl)) ?_ | refine Tk.seq (WkP.wk W1) ?_ | refine Tk.reg W1 ?_ | refine Tk.skip (WkP.wk W1) ?_ | refine Tk.block (WkP.wk W1) ?_ | refine Tk.condT (WkP.wk W1) rfl ?_ | refine Tk.condF (WkP.wk W1) rfl ?_ | refine Tk.exit (WkP.wk W1) rfl ?_ | refine Tk.label (WkP.wk W1) ?_))
  refine TkO.call W1 (by rfl) (by rfl) (by rfl) (by rfl) b50 rfl fun fr2 hk2 => ?_
  refine boolLoadH (l := l.mu k (some .held) none) ⟨⟨hf, A.ch, by decide⟩, hP⟩ A.kK O.d A.live A.rel hdf rfl A.run (fun w2 hv2 => ?_) (fun w2 hv2 => ?_)
  · refine hk2 _ _ _ (TkO.lay (rfl : Nv.put _ _ _ = (_, _) :: _) ?_)
    have W2 : WkP Try.prog E ((l.mu k (some .held) none).begin E k) (base 51) := wkp W A.ch
    (repeat (first | refine TkO.done W2 (by rfl) ?_ | refine TkO.unwantedS W2 (by rfl) (by rfl) (by rfl) (by rfl) ?_ | refine TkO.pureS W2 (by rfl) (by rfl) (by rfl) (by rfl) (by first | exact pure_move (.inl rfl) rfl | exact pure_move (.inr rfl) rfl | exact pure_nilCheck rfl rfl | exact pure_field rfl rfl (by rfl) rfl (by decide +kernel) | exact pure_int rfl rfl rfl rfl | exact pure_not rfl rfl | exact pure_pickT rfl rfl rfl | exact pure_pickF rfl rfl rfl | exact pure_shift rfl rfl rfl rfl | exact pure_eqlNil rfl rfl rfl (by rfl) | exact pure_conv rfl rfl (by rfl) (by rfl)) ?_ | refine Tk.seq (WkP.wk W2) ?_ | refine Tk.reg W2 ?_ | refine Tk.skip (WkP.wk W2) ?_ | refine Tk.block (WkP.wk W2) ?_ | refine Tk.condT (WkP.wk W2) rfl ?_ | refine Tk.condF (WkP.wk W2) rfl ?_ | refine Tk.exit (WkP.wk W2) rfl ?_ | refine Tk.label (WkP.wk W2) ?_))
    refine TkO.defer W2 (by rfl) (by rfl) (by rfl) (by rfl) rfl ?_
    refine TkO.lay (rfl : Nv.put _ _ _ = _) ?_
    (repeat (first | refine TkO.done W2 (by rfl) ?_ | refine TkO.unwantedS W2 (by rfl) (by rfl) (by rfl) (by rfl) ?_ | refine TkO.pureS W2 (by rfl) (by rfl) (by rfl) (by rfl) (by first | exact pure_move (.inl rfl) rfl | exact pure_move (.inr rfl) rfl | exact pure_nilCheck rfl rfl | exact pure_field rfl rfl (by rfl) rfl (by decide +kernel) | exact pure_int rfl rfl rfl rfl | exact pure_not rfl rfl | exact pure_pickT rfl rfl rfl | exact pure_pickF rfl rfl rfl | exact pure_shift rfl rfl rfl rfl | exact pure_eqlNil rfl rfl rfl (by rfl) | exact pure_conv rfl rfl (by rfl) (by rfl)) ?_ | refine Tk.seq (WkP.wk W2) ?_ | refine Tk.reg W2 ?_ | refine Tk.skip (WkP.wk W2) ?_ | refine Tk.block (WkP.wk W2) ?_ | refine Tk.condT (WkP.wk W2) rfl ?_ | refine Tk.condF (WkP.wk W2) rfl ?_ | refine Tk.exit (WkP.wk W2) rfl ?_ | refine Tk.label (WkP.wk W2) ?_))
    refine TkO.callV W2 (by rfl) (by rfl) (by rfl) (by rfl) bF rfl rfl fun fr3 hk3 => ?_
    have e : ([] : List Value).toArray ++ cap = cap := by simp
    rw [e]
    refine hmake w2 fr3 (fr :: cs) (hv1.trans hv2) fun l2 w3 M => hk3 _ _ _ (TkO.lay (rfl : Nv.put _ _ _ = (_, _) :: _) ?_)
    have W3 : WkP Try.prog E l2 (base 51) := wkp W M.lk.ch
    (repeat (first | refine TkO.done W3 (by rfl) ?_ | refine TkO.unwantedS W3 (by rfl) (by rfl) (by rfl) (by rfl) ?_ | refine TkO.pureS W3 (by rfl) (by rfl) (by rfl) (by rfl) (by first | exact pure_move (.inl rfl) rfl | exact pure_move (.inr rfl) rfl | exact pure_nilCheck rfl rfl | exact pure_field rfl rfl (by rfl) rfl (by decide +kernel) | exact pure_int rfl rfl rfl rfl | exact pure_not rfl rfl | exact pure_pickT rfl rfl rfl | exact pure_pickF rfl rfl rfl | exact pure_shift rfl rfl rfl rfl | exact pure_eqlNil rfl rfl rfl (by rfl) | exact pure_conv rfl rfl (by rfl) (by rfl)) ?_ | refine Tk.seq (WkP.wk W3) ?_ | refine Tk.reg W3 ?_ | refine Tk.skip (WkP.wk W3) ?_ | refine Tk.block (WkP.wk W3) ?_ | refine Tk.condT (WkP.wk W3) rfl ?_ | refine Tk.condF (WkP.wk W3) rfl ?_ | refine Tk.exit (WkP.wk W3) rfl ?_ | refine Tk.label (WkP.wk W3) ?_))
    refine Tk.fall W3.wk (TkR.call W3.wk (hP ▸ b55) (Nat.le_of_ble_eq_true rfl) fun fr4 hm4 hk4 => ?_)
    refine store55 (l := l2) hf hP A.kK O.d M.lk.ch M.lk.live M.deaf M.lk.rel M.run hm4 fun G w₁ t hg hact hlo hv => ?_
    obtain ⟨PB, app', p1, p2, p3⟩ := M.say G w₁ t hg hact hlo hv
    refine ⟨PB, app', p1, p2, hk4 _ _ ?_⟩
    have W4 : WkP Try.prog E (l2.pub k PB app') (base 51) := wkp W M.lk.ch
    refine TkR.call W4.wk (hP ▸ b54) (Nat.le_of_ble_eq_true rfl) fun fr5 hm5 hk5 => ?_
    refine unlock54 (l := l2.pub k PB app') hf hP O (⟨M.lk.i0, M.lk.kK, M.lk.live, M.lk.mr, M.lk.ch, M.lk.gr, M.lk.rel, rfl⟩) (upd_same ..) M.deaf hm5 fun o' w' hv' => hk5 _ _ ?_
    have W5 : WkP Try.prog E ((l2.pub k PB app').mu k none o') (base 51) := wkp W M.lk.ch
    exact TkR.leave0 W5.wk (hP ▸ b51) (p3 _ _ hv')
  · refine hk2 _ _ _ (TkO.lay (rfl : Nv.put _ _ _ = (_, _) :: _) ?_)
    have W2 : WkP Try.prog E { l.mu k (some .held) none with pas := upd l.pas k true } (base 51) := wkp W A.ch
    (repeat (first | refine TkO.done W2 (by rfl) ?_ | refine TkO.unwantedS W2 (by rfl) (by rfl) (by rfl) (by rfl) ?_ | refine TkO.pureS W2 (by rfl) (by rfl) (by rfl) (by rfl) (by first | exact pure_move (.inl rfl) rfl | exact pure_move (.inr rfl) rfl | exact pure_nilCheck rfl rfl | exact pure_field rfl rfl (by rfl) rfl (by decide +kernel) | exact pure_int rfl rfl rfl rfl | exact pure_not rfl rfl | exact pure_pickT rfl rfl rfl | exact pure_pickF rfl rfl rfl | exact pure_shift rfl rfl rfl rfl | exact pure_eqlNil rfl rfl rfl (by rfl) | exact pure_conv rfl rfl (by rfl) (by rfl)) ?_ | refine Tk.seq (WkP.wk W2) ?_ | refine Tk.reg W2 ?_ | refine Tk.skip (WkP.wk W2) ?_ | refine Tk.block (WkP.wk W2) ?_ | refine Tk.condT (WkP.wk W2) rfl ?_ | refine Tk.condF (WkP.wk W2) rfl ?_ | refine Tk.exit (WkP.wk W2) rfl ?_ | refine Tk.label (WkP.wk W2) ?_))
    refine Tk.fall W2.wk (TkR.call W2.wk (hP ▸ b54) (Nat.le_of_ble_eq_true rfl) fun fr5 hm5 hk5 => ?_)
    refine unlock54 (l := { l.mu k (some .held) none with pas := upd l.pas k true }) hf hP O (⟨A.i0, A.kK, A.live, rfl, A.ch, A.gr, A.rel, A.run⟩) (upd_same ..) hdf hm5 fun o' w' hv' => hk5 _ _ ?_
    have W5 : WkP Try.prog E (({ l.mu k (some .held) none with pas := upd l.pas k true } : Lo).mu k none o') (base 51) := wkp W A.ch
    exact TkR.leave0 W5.wk (hP ▸ b51) (hdone o' w' (hv1.trans (hv2.trans hv')))
end Go.Co.F1

namespace Go.Co.F1
open Go Go.Conc Go.Proofs
open Go.Co
open Go.ConcN (upd upd_ne upd_same)
variable {E : Geo} {N i : Nat} {l : Lo} {w : World}
set_option maxRecDepth 10000
theorem boolLoadP {k B o : Nat} (W : WkP Try.prog E l (base 50)) (hk : k < E.K) (hO : E.sc (.done k) = ⟨B, o, none⟩) (hlive : l.live = true) (hrel : l.rel = none) (hdf : l.deaf = 0) {fr : Frame} {cs : List Frame}
    (h0 : l.pas k = false → ∀ w', View l.own w w' → Tr E N i l (G (fr.finish (.bool false)) cs) w') (h1 : ∀ w', View l.own w w' → Tr E N i { l with pas := upd l.pas k true } (G (fr.finish (.bool true)) cs) w') :
    Tr E N i l (G (Frame.enter Try.prog 50 #[.pointer (some ⟨B, o, none⟩)] .normal) (fr :: cs)) w := by
  refine Tr.enterP W.hP b50 (Nat.le_of_ble_eq_true rfl) ?_
  (repeat (first | refine TkO.done W (by rfl) ?_ | refine TkO.pureS W (by rfl) (by rfl) (by rfl) (by rfl) (by first | exact pure_move (.inl rfl) rfl | exact pure_move (.inr rfl) rfl | exact pure_nilCheck rfl rfl | exact pure_field rfl rfl (by rfl) rfl (by decide +kernel) | exact pure_int rfl rfl rfl rfl | exact pure_not rfl rfl | exact pure_pickT rfl rfl rfl | exact pure_pickF rfl rfl rfl | exact pure_shift rfl rfl rfl rfl | exact pure_eqlNil rfl rfl rfl (by rfl) | exact pure_conv rfl rfl (by rfl) (by rfl)) ?_ | refine TkO.unwantedS W (by rfl) (by rfl) (by rfl) (by rfl) ?_ | refine Tk.seq (WkP.wk W) ?_ | refine Tk.reg W ?_ | refine Tk.skip (WkP.wk W) ?_ | refine Tk.block (WkP.wk W) ?_ | refine Tk.inBlock (WkP.wk W) ?_ | refine Tk.loop (WkP.wk W) ?_ | refine Tk.condT (WkP.wk W) rfl ?_ | refine Tk.condF (WkP.wk W) rfl ?_ | refine Tk.exit (WkP.wk W) rfl ?_ | refine Tk.label (WkP.wk W) ?_))
  refine TkO.aload W (kk := .u32) (ad := E.sc (.done k)) (by rfl) (by rfl) (by rfl) (by rfl) e52 (by rw [hO]; rfl) fun G w₁ t hg hact hlo hv => ?_
  have hcell := (hg.m.sync (.done k) hk).1
  cases hd : G.dn k with
  | false =>
    have hpf : l.pas k = false := by
      cases hp : l.pas k with
      | false => rfl
      | true =>
        have := (hg.k.pas i k hact (by rw [hlo]; exact hp)).2
        rw [hd] at this; cases this
    refine ⟨0, l, false, ?_, fun fn pos => ?_, TkOL.same (TkO.lay (rfl : Nv.put _ _ _ = (_, _) :: _) ?_)⟩
    · rw [hcell]; show some (Value.int .u32 (G.dn k).toNat) = _; rw [hd]; rfl
    · exact ⟨G, hlo ▸ (Did.id (hg.seenOpen fn pos hact hk (by rw [hlo]; exact hrel))) , .inl rfl, hlive, fun e => by cases e⟩
    · (repeat (first | refine TkO.done W (by rfl) ?_ | refine TkO.pureS W (by rfl) (by rfl) (by rfl) (by rfl) (by first | exact pure_move (.inl rfl) rfl | exact pure_move (.inr rfl) rfl | exact pure_nilCheck rfl rfl | exact pure_field rfl rfl (by rfl) rfl (by decide +kernel) | exact pure_int rfl rfl rfl rfl | exact pure_not rfl rfl | exact pure_pickT rfl rfl rfl | exact pure_pickF rfl rfl rfl | exact pure_shift rfl rfl rfl rfl | exact pure_eqlNil rfl rfl rfl (by rfl) | exact pure_conv rfl rfl (by rfl) (by rfl)) ?_ | refine TkO.unwantedS W (by rfl) (by rfl) (by rfl) (by rfl) ?_ | refine Tk.seq (WkP.wk W) ?_ | refine Tk.reg W ?_ | refine Tk.skip (WkP.wk W) ?_ | refine Tk.block (WkP.wk W) ?_ | refine Tk.inBlock (WkP.wk W) ?_ | refine Tk.loop (WkP.wk W) ?_ | refine Tk.condT (WkP.wk W) rfl ?_ | refine Tk.condF (WkP.wk W) rfl ?_ | refine Tk.exit (WkP.wk W) rfl ?_ | refine Tk.label (WkP.wk W) ?_))
      refine Tk.ret W.wk (TkR.leave1 W.wk (W.hP ▸ b50) rfl (h0 hpf _ hv))
  | true =>
    refine ⟨1, { l with pas := upd l.pas k true }, false, ?_, fun fn pos => ?_, TkOL.same (TkO.lay (rfl : Nv.put _ _ _ = (_, _) :: _) ?_)⟩
    · rw [hcell]; show some (Value.int .u32 (G.dn k).toNat) = _; rw [hd]; rfl
    · obtain ⟨G', d, c⟩ := hg.seenDone fn pos hact hk (by rw [hlo]; exact hdf) (by rw [hlo]; exact hrel) hd
      rw [hlo] at d
      exact ⟨G', d, .inl rfl, hlive, fun e => by cases e⟩
    · have W' : WkP Try.prog E { l with pas := upd l.pas k true } (base 50) := ⟨⟨W.wk.fin, W.wk.ch, W.wk.kind⟩, W.hP⟩
      (repeat (first | refine TkO.done W' (by rfl) ?_ | refine TkO.pureS W' (by rfl) (by rfl) (by rfl) (by rfl) (by first | exact pure_move (.inl rfl) rfl | exact pure_move (.inr rfl) rfl | exact pure_nilCheck rfl rfl | exact pure_field rfl rfl (by rfl) rfl (by decide +kernel) | exact pure_int rfl rfl rfl rfl | exact pure_not rfl rfl | exact pure_pickT rfl rfl rfl | exact pure_pickF rfl rfl rfl | exact pure_shift rfl rfl rfl rfl | exact pure_eqlNil rfl rfl rfl (by rfl) | exact pure_conv rfl rfl (by rfl) (by rfl)) ?_ | refine TkO.unwantedS W' (by rfl) (by rfl) (by rfl) (by rfl) ?_ | refine Tk.seq (WkP.wk W') ?_ | refine Tk.reg W' ?_ | refine Tk.skip (WkP.wk W') ?_ | refine Tk.block (WkP.wk W') ?_ | refine Tk.inBlock (WkP.wk W') ?_ | refine Tk.loop (WkP.wk W') ?_ | refine Tk.condT (WkP.wk W') rfl ?_ | refine Tk.condF (WkP.wk W') rfl ?_ | refine Tk.exit (WkP.wk W') rfl ?_ | refine Tk.label (WkP.wk W') ?_))
      exact Tk.ret W'.wk (TkR.leave1 W'.wk (W.hP ▸ b50) rfl (h1 _ hv))
structure Kept (l l' : Lo) : Prop where
  job : l'.job = l.job
  wk : l'.wk = l.wk
  me : l'.me = l.me
  sc : l'.sc = l.sc
structure Thru (E : Geo) (i k : Nat) (l l' : Lo) : Prop where
  lk : Lk E i k l' none
  deaf : l'.deaf = 0
  pas : l'.pas k = true
  kept : Kept l l'
structure Made (E : Geo) (i k : Nat) (l l2 : Lo) (w2 : World) : Prop where
  lk : Lk E i k { l2 with run := none } (some .held)
  run : l2.run = some k
  deaf : l2.deaf = 0
  kept : Kept l l2
  say : ∀ G w₁ t, GI E G w₁ t → (G.th i).live = true → G.th i = l2 → View l2.own w2 w₁ → ∃ PB app', PubTo G w₁ i k PB app' ∧ E.App app' (upd G.dn k true) G.cv
set_option maxHeartbeats 4000000 in
theorem do43 {k B o : Nat} (hf : E.FinV) (hP : E.P = Try.prog) (O : OnceAt E k B o) (A : Lk E i k l none) (hdf : l.deaf = 0) {F nt : Nat} {c : Code} (bF : Bod Try.prog F nt c #[]) {cap : Array Value} {fr : Frame} {cs : List Frame}
    (hthru : ∀ l' w', Thru E i k l l' → Tr E N i l' (Conc.G (fr.finish (.tuple #[])) cs) w')
    (hmake : ∀ w' (fr' : Frame) cs', View l.own w w' → (∀ l2 w2, Made E i k l l2 w2 → Tr E N i l2 (Conc.G (fr'.finish (.tuple #[])) cs') w2) → Tr E N i ((l.mu k (some .held) none).begin E k) (Conc.G (Frame.enter Try.prog F cap .normal) (fr' :: cs')) w') :
    Tr E N i l (Conc.G (Frame.enter Try.prog 43 #[.pointer (some ⟨B, o, none⟩), .func (.func F) #[] cap] .normal) (fr :: cs)) w := by
  have W : WkP Try.prog E l (base 43) := ⟨⟨hf, A.ch, by decide⟩, hP⟩
  refine Tr.enterP hP b43 (Nat.le_of_ble_eq_true rfl) ?_
  (repeat (first | refine TkO.done W (by rfl) ?_ | refine TkO.unwantedS W (by rfl) (by rfl) (by rfl) (by rfl) ?_ | refine TkO.pureS W (by rfl) (by rfl) (by rfl) (by rfl) (by first | exact pure_move (.inl rfl) rfl | exact pure_move (.inr rfl) rfl | exact pure_nilCheck rfl rfl | exact pure_field rfl rfl (by rfl) rfl (by decide +kernel) | exact pure_int rfl rfl rfl rfl | exact pure_not rfl rfl | exact pure_pickT rfl rfl rfl | exact pure_pickF rfl rfl rfl | exact pure_shift rfl rfl rfl rfl | exact pure_eqlNil rfl rfl rfl (by rfl) | exact pure_conv rfl rfl (by rfl) (by rfl)) ?_ | refine Tk.seq (WkP.wk W) ?_ | refine Tk.reg W ?_ | refine Tk.skip (WkP.wk W) ?_ | refine Tk.block (WkP.wk W) ?_ | refine Tk.condT (WkP.wk W) rfl ?_ | refine Tk.condF (WkP.wk W) rfl ?_ | refine Tk.exit (WkP.wk W) rfl ?_ | refine Tk.label (WkP.wk W) ?_))
  refine TkO.call W (by rfl) (by rfl) (by rfl) (by rfl) b50 rfl fun fr1 hk1 => ?_
  refine boolLoadP ⟨⟨hf, A.ch, by decide⟩, hP⟩ A.kK O.d A.live A.rel hdf (fun hp w1 hv1 => ?_) (fun w1 hv1 => ?_)
  · refine hk1 _ _ _ (TkO.lay (rfl : Nv.put _ _ _ = (_, _) :: _) ?_)
    (repeat (first | refine TkO.done W (by rfl) ?_ | refine TkO.unwantedS W (by rfl) (by rfl) (by rfl) (by rfl) ?_ | refine TkO.pureS W (by rfl) (by rfl) (by rfl) (by rfl) (by first | exact pure_move (.inl rfl) rfl | exact pure_move (.inr rfl) rfl | exact pure_nilCheck rfl rfl | exact pure_field rfl rfl (by rfl) rfl (by decide +kernel) | exact pure_int rfl rfl rfl rfl | exact pure_not rfl rfl | exact pure_pickT rfl rfl rfl | exact pure_pickF rfl rfl rfl | exact pure_shift rfl rfl rfl rfl | exact pure_eqlNil rfl rfl rfl (by rfl) | exact pure_conv rfl rfl (by rfl) (by rfl)) ?_ | refine Tk.seq (WkP.wk W) ?_ | refine Tk.reg W ?_ | refine Tk.skip (WkP.wk W) ?_ | refine Tk.block (WkP.wk W) ?_ | refine Tk.condT (WkP.wk W) rfl ?_ | refine Tk.condF (WkP.wk W) rfl ?_ | refine Tk.exit (WkP.wk W) rfl ?_ | refine Tk.label (WkP.wk W) ?_))
    refine TkO.call W (by rfl) (by rfl) (by rfl) (by rfl) b51 rfl fun fr2 hk2 => ?_
    have back : ∀ l' w', Thru E i k l l' → Tr E N i l' (Conc.G (fr2.finish (.tuple #[])) (fr :: cs)) w' := fun l' w' T => by
      refine hk2 _ _ _ (TkO.lay (rfl : Nv.put _ _ _ = (_, _) :: _) ?_)
      have W2 : WkP Try.prog E l' (base 43) := wkp W T.lk.ch
      (repeat (first | refine TkO.done W2 (by rfl) ?_ | refine TkO.unwantedS W2 (by rfl) (by rfl) (by rfl) (by rfl) ?_ | refine TkO.pureS W2 (by rfl) (by rfl) (by rfl) (by rfl) (by first | exact pure_move (.inl rfl) rfl | exact pure_move (.inr rfl) rfl | exact pure_nilCheck rfl rfl | exact pure_field rfl rfl (by rfl) rfl (by decide +kernel) | exact pure_int rfl rfl rfl rfl | exact pure_not rfl rfl | exact pure_pickT rfl rfl rfl | exact pure_pickF rfl rfl rfl | exact pure_shift rfl rfl rfl rfl | exact pure_eqlNil rfl rfl rfl (by rfl) | exact pure_conv rfl rfl (by rfl) (by rfl)) ?_ | refine Tk.seq (WkP.wk W2) ?_ | refine Tk.reg W2 ?_ | refine Tk.skip (WkP.wk W2) ?_ | refine Tk.block (WkP.wk W2) ?_ | refine Tk.condT (WkP.wk W2) rfl ?_ | refine Tk.condF (WkP.wk W2) rfl ?_ | refine Tk.exit (WkP.wk W2) rfl ?_ | refine Tk.label (WkP.wk W2) ?_))
      exact Tk.fall W2.wk (TkR.leave0 W2.wk (hP ▸ b43) (hthru _ _ T))
    refine slow51 hf hP O A hp hdf bF (fun o' w' hv' => ?_) (fun w' fr' cs' hv' hM => ?_)
    · exact back _ _ ⟨⟨A.i0, A.kK, A.live, rfl, A.ch, A.gr, A.rel, A.run⟩, hdf, upd_same .., ⟨rfl, rfl, rfl, rfl⟩⟩
    · refine hmake w' fr' cs' (hv1.trans hv') fun l2 w2 M => hM l2 w2 ⟨M.lk, M.run, M.deaf, fun G w₁ t hg hact hlo hv => ?_⟩
      obtain ⟨PB, app', p1, p2⟩ := M.say G w₁ t hg hact hlo hv
      refine ⟨PB, app', p1, p2, fun o' w' _ => back _ _ ⟨⟨A.i0, A.kK, M.lk.live, rfl, M.lk.ch, M.lk.gr, M.lk.rel, rfl⟩, M.deaf, upd_same .., ⟨M.kept.job, M.kept.wk, M.kept.me, M.kept.sc⟩⟩⟩
  · refine hk1 _ _ _ (TkO.lay (rfl : Nv.put _ _ _ = (_, _) :: _) ?_)
    have W2 : WkP Try.prog E { l with pas := upd l.pas k true } (base 43) := wkp W A.ch
    (repeat (first | refine TkO.done W2 (by rfl) ?_ | refine TkO.unwantedS W2 (by rfl) (by rfl) (by rfl) (by rfl) ?_ | refine TkO.pureS W2 (by rfl) (by rfl) (by rfl) (by rfl) (by first | exact pure_move (.inl rfl) rfl | exact pure_move (.inr rfl) rfl | exact pure_nilCheck rfl rfl | exact pure_field rfl rfl (by rfl) rfl (by decide +kernel) | exact pure_int rfl rfl rfl rfl | exact pure_not rfl rfl | exact pure_pickT rfl rfl rfl | exact pure_pickF rfl rfl rfl | exact pure_shift rfl rfl rfl rfl | exact pure_eqlNil rfl rfl rfl (by rfl) | exact pure_conv rfl rfl (by rfl) (by rfl)) ?_ | refine Tk.seq (WkP.wk W2) ?_ | refine Tk.reg W2 ?_ | refine Tk.skip (WkP.wk W2) ?_ | refine Tk.block (WkP.wk W2) ?_ | refine Tk.condT (WkP.wk W2) rfl ?_ | refine Tk.condF (WkP.wk W2) rfl ?_ | refine Tk.exit (WkP.wk W2) rfl ?_ | refine Tk.label (WkP.wk W2) ?_))
    exact Tk.fall W2.wk (TkR.leave0 W2.wk (hP ▸ b43) (hthru _ _ ⟨⟨A.i0, A.kK, A.live, A.mr, A.ch, A.gr, A.rel, A.run⟩, hdf, upd_same .., ⟨rfl, rfl, rfl, rfl⟩⟩))
end Go.Co.F1

namespace Go.Co
open Go Go.Conc
open Go.ConcN (upd upd_ne upd_same)
variable {E : Geo} {N i : Nat} {l : Lo} {w : World}
section
variable {P : Program} {a : Act} {o : Oper} {t : TypeId} {x : Operand} {v : Value} {w : World}
theorem exec_box (ho : o.op = .box t x) (hx : a.eval x = v) : (execOp a.eval o).run P w = .ok (.value (.pointer (some ⟨w.heap.size, 0, none⟩))) { w with heap := w.heap.push (.cells v.cells t (0, 0)) } ∧ (execOp a.eval o).events P w #[] = #[] := by
  simp [execOp, ho, Instr.box, newVar, newRow, hx]
theorem run_zero {i : TypeInfo} {z : Value} (hi : P.info? t = some i) (hz : i.zero = some z) : (zeroValue t).run P w = .ok z w := by
  simp [zeroValue, typeInfo, hi, hz]
theorem exec_alloc {i : TypeInfo} {z : Value} (ho : o.op = .alloc t) (hi : P.info? t = some i) (hz : i.zero = some z) : (execOp a.eval o).run P w = .ok (.value (.pointer (some ⟨w.heap.size, 0, none⟩))) { w with heap := w.heap.push (.cells z.cells t (0, 0)) } ∧ (execOp a.eval o).events P w #[] = #[] := by
  have h1 := run_zero (w := w) hi hz
  simp [execOp, ho, Instr.alloc, newVar, newRow, h1]
theorem exec_slice1 {elem : TypeId} {i : TypeInfo} {z y : Value} (ho : o.op = .buildSlice t 1 #[(0, x)]) (hx : a.eval x = y) (hu : P.underlying t = some (.slice elem)) (hi : P.info? elem = some i) (hs : i.size = 1) (hz : i.zero = some z) (_hzc : z.cells.size = 1) (hy : y.cells = #[y]) :
    (execOp a.eval o).run P w = .ok (.value (.slice (some ⟨w.heap.size, 0, none⟩) 1 1)) { w with heap := w.heap.push (.cells #[y] elem (0, 0)) } ∧ (execOp a.eval o).events P w #[] = #[] := by
  have h1 := run_zero (w := w) hi hz
  have h2 : (underlying t).run P w = .ok (.slice elem) w := run_underlying hu w
  have h3 := sizeOf_run hi w
  have h4 : P.cellsOf elem = 1 := by simp [Program.cellsOf, hi, hs]
  rw [h4] at h3
  have h5 : Instr.fill (fun i => some (i * 1, 1)) (Array.map (fun j => z.cells[j % z.cells.size]!) (Array.range (1 * 1))) [(0, y)] = some #[y] := by
    have e : Array.map (fun j => z.cells[j % z.cells.size]!) (Array.range (1 * 1)) = #[z.cells[0 % z.cells.size]!] := by
      apply Array.ext
      · simp
      · intro i h1 h2
        have : i = 0 := by simpa using h2
        subst this
        simp
    rw [e]
    unfold Instr.fill
    simp only [hy]
    simp [Instr.fill]
  simp only [Nat.mul_one] at h5
  constructor
  · simp [execOp, ho, Instr.buildSlice, newRow, h1, h2, h3, hx, h5]
  · simp [execOp, ho, Instr.buildSlice, newRow, h1, h2, h3, hx, h5, events_underlying, events_sizeOf]
end
section
variable {b : Frame} {n : Nat} {env : Nv} {ds : List Deferred} {k : List Item} {cs : List Frame} {ops : Array Oper} {j : Nat} {rest : List Nat} {o : Oper}
theorem exec_store {P : Program} {a : Act} {o : Oper} {t : TypeId} {x y : Operand} {ad : Addr} {u v : Value} {w : World} (ho : o.op = .store t x y) (hx : a.eval x = .pointer (some ad)) (hy : a.eval y = v) (hi : ∃ i, P.info? t = some i ∧ i.size = 1) (hv1 : v.cells = #[v]) (h1 : v.oneCell' = true) (hc : w.cell? ad = some u) (hz : w.frozen? ad = false) :
    (execOp a.eval o).run P w = .ok .skip (w.setCell ad v) ∧ (execOp a.eval o).events P w #[] = #[⟨.cell ad, true, false⟩] := by
  obtain ⟨inf, hi, hs⟩ := hi
  have h3 : (sizeOf t).run P w = .ok 1 w := by
    have := sizeOf_run hi w
    simpa [Program.cellsOf, hi, hs] using this
  have r1 := run_store P w (ad.add 0) v .plain h1
  have r2 := events_store (P := P) (w := w) (es := #[]) (ad.add 0) v .plain h1
  have e0 : ad.add 0 = ad := rfl
  rw [e0] at r1 r2
  simp only [hc, hz] at r1 r2
  constructor
  · simp [execOp, ho, hx, hy, Instr.storeAt, Instr.sureAddr, storeVar, hv1, h3, storeCells, e0, r1]
  · simp [execOp, ho, hx, hy, Instr.storeAt, Instr.sureAddr, storeVar, hv1, h3, storeCells, e0, r2, events_sizeOf]
end
end Go.Co
namespace Go.Co
open Go Go.Conc
theorem up_ne {L : Array Bool} {j m : Nat} (h : m ≠ j) : Up (L.setIfInBounds j true) m ↔ Up L m := by
  rw [up_set]; exact ⟨fun x => x.resolve_left fun y => h y.1, .inr⟩
theorem up_eq {L : Array Bool} {j : Nat} (h : j < L.size) : Up (L.setIfInBounds j true) j := up_set.2 (.inl ⟨rfl, h⟩)
def onlyPut (ops : Array Oper) (j d : Nat) : Bool := (List.range ops.size).all fun m => match (ops[m]?).bind (·.dst) with
  | some x => !(Nat.beq x d) || Nat.beq m j
  | none => true
theorem Facts.chg1 {ops : Array Oper} {val val' : Nat → Value} {keep : List Nat} {L : Array Bool} {env : Nv} {j d : Nat} (h : Facts ops val keep L env) (hne : ∀ x, x ≠ d → val' x = val x) (hk : keep.contains d = false) (ho : onlyPut ops j d = true) (hn : ¬ Up L j) : Facts ops val' keep L env := by
  refine h.chg (fun x hx => hne x fun e => ?_) fun m o x hm hd hu => hne x fun e => ?_
  · rw [e, hk] at hx; cases hx
  · subst e
    have hlt := (Array.getElem?_eq_some_iff.1 hm).1
    have := List.all_eq_true.1 ho m (List.mem_range.2 hlt)
    rw [hm] at this
    simp only [Option.bind_some, hd] at this
    have e2 : m = j := by simpa using this
    exact hn (e2 ▸ hu)
end Go.Co
namespace Go.Co
open Go Go.Conc
variable {P : Program}
theorem events_places (w : World) : ∀ (fs : List Field) (places : List (Nat × Nat)) (es : Array Event), fs.mapM (fun f => (P.info? f.type).map fun i => (f.offset, i.size)) = some places →
    (fs.mapM fun f => Prod.mk f.offset <$> sizeOf f.type).events P w es = es
  | [], places, es, h => by simp
  | f :: fs, places, es, h => by
    simp only [List.mapM_cons, Option.bind_eq_bind, Option.pure_def] at h
    cases hi : P.info? f.type with
    | none => simp [hi] at h
    | some i =>
      cases hr : fs.mapM (fun f => (P.info? f.type).map fun i => (f.offset, i.size)) with
      | none => simp [hi, hr] at h
      | some rest =>
        have hs : (sizeOf f.type).run P w = .ok i.size w := by simp [sizeOf, typeInfo, hi]
        simp [List.mapM_cons, hs, events_sizeOf, events_places w fs rest _ hr]
theorem events_build_struct (w : World) (t : TypeId) {fields : Array Field} {it : TypeInfo} {z : Value} {places : List (Nat × Nat)} {cells : Array Value} (hu : P.underlying t = some (.struct fields)) (hit : P.info? t = some it) (hz : it.zero = some z) (hp : fields.toList.mapM (fun f => (P.info? f.type).map fun i => (f.offset, i.size)) = some places)
    (h' : Instr.fill (fun x => places[x]?) z.cells [] = some cells) (es : Array Event) : (Instr.build t #[]).events P w es = es := by
  have hz' := run_places (P := P) w fields.toList places hp
  have he := fun es => events_places (P := P) w fields.toList places es hp
  have hr : (zeroValue t).run P w = .ok z w := by simp [zeroValue, typeInfo, hit, hz]
  simp [Instr.build, run_underlying hu, hr, Array.mapM_eq_mapM_toList, hz', he, h', events_underlying]
end Go.Co
namespace Go.Co
open Go Go.Conc
theorem exec_append {P : Program} {o : Oper} {a : Act} {w w' : World} {v xv y : Value} (s x : Operand) (t : TypeId) (ho : o.op = .call { callee := .builtin .append, args := #[s, x], argTypes := #[t, t] }) (hs : a.eval s = v) (hx : a.eval x = xv)
    (hr : (Builtin.append_ #[t, t] o.type #[v, xv]).run P w = .ok y w') : (execOp a.eval o).run P w = .ok (.value y) w' := by
  unfold execOp
  simp [ho, resolve, invoke, builtin, hs, hx, hr]
end Go.Co
namespace Go.Co
open Go Go.Conc
variable {E : Geo} {N i : Nat} {l : Lo} {w : World}
theorem Tk.sstore {b : Frame} {n : Nat} {env : Nv} {ds : List Deferred} {k : List Item} {cs : List Frame} {ops : Array Oper} {j : Nat} {rest : List Nat} {o : Oper} (W : Wk E l b) {t : TypeId} {x y : Operand} {ad : Addr} {v : Value} (hq : (E.P.funcs[b.fn]?).any (·.norace) = false) (ho : ops[j]? = some o) (hw : wantE ops env o = some true) (hd : o.dst = none) (hop : o.op = .store t x y)
    (hi : ∃ i, E.P.info? t = some i ∧ i.size = 1) (hv1 : v.cells = #[v]) (h1 : v.oneCell' = true) (hx : env.ev x = some (.pointer (some ad))) (hy : env.ev y = some v)
    (h : ∀ G w₁ u, GI E G w₁ u → (G.th i).live = true → G.th i = l → View l.own w w₁ → ∃ u0 l', w₁.cell? ad = some u0 ∧ w₁.frozen? ad = false ∧ (∀ fn pos, ∃ G', Did E i G G' w₁ (w₁.setCell ad v) (u ++ MemOp.ofEvents i fn pos #[⟨.cell ad, true, false⟩]) l' ∧ Calm E G G' ∧ l'.live = true) ∧
      Tk E N i l' (w₁.setCell ad v) b n env ds (.inRegion ops rest :: k) cs) : Tk E N i l w b n env ds (.inRegion ops (j :: rest) :: k) cs := by
  refine Tk.stop W ho (by rw [hd]; rfl) fun G w₁ u hg hact hlo hv => ?_
  obtain ⟨u0, l', c1, c2, h2, h3⟩ := h G w₁ u hg hact hlo hv
  refine ⟨undef, _, #[⟨.cell ad, true, false⟩], l', false, fun a ha _ => ⟨?_, fun fn pos => ?_⟩, TkL.same (by rw [hd]; exact h3)⟩
  · obtain ⟨s1, s2⟩ := exec_store (P := E.P) (a := a) hop (ha.ev hx) (ha.ev hy) hi hv1 h1 c1 c2
    rw [stepG_none ho (ha.want hw) W.kind s1]
    unfold listed
    rw [s2, seen_loud1 hq]
  · obtain ⟨G', d, c, e⟩ := h2 fn pos
    exact ⟨G', d, .inr c, e, fun e => by cases e⟩
theorem Tk.ostore {b : Frame} {n : Nat} {env : Nv} {ds : List Deferred} {k : List Item} {cs : List Frame} {ops : Array Oper} {j : Nat} {rest : List Nat} {o : Oper} (W : Wk E l b) {t : TypeId} {x y : Operand} {ad : Addr} {v u0 : Value} (hrel : l.rel = none) (ho : ops[j]? = some o) (hw : wantE ops env o = some true) (hd : o.dst = none) (hop : o.op = .store t x y)
    (hi : ∃ i, E.P.info? t = some i ∧ i.size = 1) (hv1 : v.cells = #[v]) (h1 : v.oneCell' = true) (hx : env.ev x = some (.pointer (some ad))) (hy : env.ev y = some v) (hown : l.own ad.block) (hc : w.cell? ad = some u0) (hz : w.frozen? ad = false)
    (h : ∀ w₁, View l.own w w₁ → Tk E N i l (w₁.setCell ad v) b n env ds (.inRegion ops rest :: k) cs) : Tk E N i l w b n env ds (.inRegion ops (j :: rest) :: k) cs := by
  intro a ha hds
  refine Tr.priv (runs_G _ _) W.ch fun w₁ hv => ?_
  have hb := hv.2 _ hown
  obtain ⟨e1, e2⟩ := cell_same hb
  obtain ⟨s1, s2⟩ := exec_store (P := E.P) (a := a) hop (ha.ev hx) (ha.ev hy) hi hv1 h1 (by rw [e1]; exact hc) (by rw [e2]; exact hz)
  have hput : a.put o.dst undef = a := by rw [hd]; rfl
  refine ⟨Conc.G (b.at (a.put o.dst undef) (.inRegion ops rest :: k)) cs, w₁.setCell ad v, _, stepG_none ho (ha.want hw) W.kind s1, rfl, ⟨by rw [setCell_size]; exact Nat.le_refl _, fun c hc hlt => set_blk w₁ _ _ fun e => hc (e ▸ hown), rfl, rfl, rfl, fun e he => ?_⟩, fun hr => absurd hrel hr, ?_⟩
  · have := mem_listed he
    rw [s2] at this
    simp at this; subst this
    exact .inl ⟨ad, true, false, rfl, .inl hown⟩
  · rw [setCell_size, Lo.grow_self, hput]
    exact h w₁ hv a ha hds
end Go.Co

namespace Go.Co.F1
open Go Go.Conc Go.Proofs
open Go.Co
open Go.ConcN (upd upd_ne upd_same)
variable {E : Geo} {N i : Nat} {l : Lo} {w : World}
set_option maxRecDepth 10000
abbrev adr (b o : Nat) : Addr := ⟨b, o, none⟩
abbrev ptr (b o : Nat) : Value := .pointer (some ⟨b, o, none⟩)
structure CTab (C H R cap : Nat) (ps : List Nat) (app : Addr → Option (Value × Gd)) (cv : Nat → Nat) : Prop where
  len : ps.length = 19
  nodup : ps.Nodup
  RC : R ≠ C ∧ R ≠ H ∧ R ∉ ps
  pC : C ∉ ps ∧ H ∉ ps
  s : app (adr C 3) = some (.slice (some (adr R 0)) 19 cap, .pub 0)
  r : ∀ (r p : Nat), ps[r]? = some p → app (adr R r) = some (ptr p 0, .pub 0) ∧ app (adr p 0) = some (.int .i64 (cv r), .ctr 0)
def CApp (C H : Nat) (hv : Value) (app : Addr → Option (Value × Gd)) (dn : Nat → Bool) (cv : Nat → Nat) : Prop :=
  (H ≠ C ∧ app (adr H 0) = some (hv, .ro)) ∧ ((dn 0 = false ∧ (∃ v, app (adr C 3) = some (v, .prot 0)) ∧ (∀ a v d, app a = some (v, d) → a = adr H 0 ∨ a = adr C 3) ∧ ∀ r, cv r = 0) ∨
    (dn 0 = true ∧ ∃ R cap ps, CTab C H R cap ps app cv))
structure CG (E : Geo) (C H : Nat) (hv : Value) : Prop where
  P : E.P = Try.prog
  fin : E.FinV
  K : 0 < E.K
  O : OnceAt E 0 C 0
  ini : E.ini (adr C 3) = some (.slice none 0 0, 0)
  app : E.App = CApp C H hv
theorem lt_of_heap {w : World} {b : Nat} {x : Obj} (h : w.heap[b]? = some x) : b < w.heap.size := (Array.getElem?_eq_some_iff.1 h).1
structure RowI (own : Nat → Prop) (w : World) (n : Nat) (S : Value) (ps : List Nat) : Prop where
  len : ps.length = n
  nodup : ps.Nodup
  cell : ∀ p ∈ ps, own p ∧ w.heap[p]? = some (.cells #[.int .i64 0] 66 (0, 0))
  row : w.ownsRow 0 51 1 S n (ps.map fun p => ptr p 0)
  rown : ∀ g, S.ownBlock = some g → own g
theorem RowI.mono {own own' : Nat → Prop} {w w' : World} {n : Nat} {S : Value} {ps : List Nat} (h : RowI own w n S ps) (ho : ∀ b, own b → own' b) (hw : ∀ b, own b → b < w.heap.size → w'.heap[b]? = w.heap[b]?) : RowI own' w' n S ps := by
  refine ⟨h.len, h.nodup, fun p hp => ⟨ho _ (h.cell p hp).1, by rw [hw _ (h.cell p hp).1 (lt_of_heap (h.cell p hp).2)]; exact (h.cell p hp).2⟩, ⟨h.row.1, ?_⟩, fun g hg => ho _ (h.rown g hg)⟩
  rcases h.row.2 with x | ⟨g, cap, cur, hv, h1, h2, h3⟩
  · exact .inl x
  · exact .inr ⟨g, cap, cur, hv, h1, by rw [hw g (h.rown g (by rw [hv]; rfl)) (lt_of_heap h2)]; exact h2, h3⟩
structure MI (X C n : Nat) (S : Value) (ps : List Nat) (own : Nat → Prop) (w : World) (L : Array Bool) (P Q : Nat) (S' : Value) : Prop where
  box : own X ∧ w.heap[X]? = some (.cells #[ptr C 0] 50 (0, 0))
  pc : Up L 6 → ¬ Up L 8 → P ∉ ps ∧ own P ∧ w.heap[P]? = some (.cells #[.int .i64 0] 66 (0, 0))
  qc : Up L 7 → ¬ Up L 8 → own Q ∧ w.heap[Q]? = some (.cells #[ptr P 0] 51 (0, 0))
  row : ¬ Up L 8 → RowI own w n S ps
  row' : Up L 8 → RowI own w (n + 1) S' (ps ++ [P])
theorem MI.mono {X C n : Nat} {S S' : Value} {ps : List Nat} {own own' : Nat → Prop} {w w' : World} {L : Array Bool} {P Q : Nat} (h : MI X C n S ps own w L P Q S') (ho : ∀ b, own b → own' b) (hw : ∀ b, own b → b < w.heap.size → w'.heap[b]? = w.heap[b]?) : MI X C n S ps own' w' L P Q S' :=
  ⟨⟨ho _ h.box.1, by rw [hw _ h.box.1 (lt_of_heap h.box.2)]; exact h.box.2⟩, fun a b => ⟨(h.pc a b).1, ho _ (h.pc a b).2.1, by rw [hw _ (h.pc a b).2.1 (lt_of_heap (h.pc a b).2.2)]; exact (h.pc a b).2.2⟩, fun a b => ⟨ho _ (h.qc a b).1, by rw [hw _ (h.qc a b).1 (lt_of_heap (h.qc a b).2)]; exact (h.qc a b).2⟩,
    fun a => (h.row a).mono ho hw, fun a => (h.row' a).mono ho hw⟩
theorem MI.set {X C n : Nat} {S S' : Value} {ps : List Nat} {own : Nat → Prop} {w : World} {L : Array Bool} {P Q : Nat} (h : MI X C n S ps own w L P Q S') (j : Nat) (hj : j ≠ 6 ∧ j ≠ 7 ∧ j ≠ 8) : MI X C n S ps own w (L.setIfInBounds j true) P Q S' := by
  have h6 : Up (L.setIfInBounds j true) 6 ↔ Up L 6 := up_ne (Ne.symm hj.1)
  have h7 : Up (L.setIfInBounds j true) 7 ↔ Up L 7 := up_ne (Ne.symm hj.2.1)
  have h8 : Up (L.setIfInBounds j true) 8 ↔ Up L 8 := up_ne (Ne.symm hj.2.2)
  exact ⟨h.box, by rw [h6, h8]; exact h.pc, by rw [h7, h8]; exact h.qc, by rw [h8]; exact h.row, by rw [h8]; exact h.row'⟩
def val44 (X C n : Nat) (S S' : Value) (P Q x : Nat) : Value := match x with
  | 0 => ptr X 0
  | 1 => .int .u8 n
  | 3 | 4 | 5 | 12 => ptr C 0
  | 6 | 13 => ptr C 3
  | 7 => S
  | 8 => .agg #[.int .i64 0]
  | 9 => ptr P 0
  | 10 => .slice (some (adr Q 0)) 1 1
  | 11 => S'
  | _ => .tuple #[]
def _root_.Go.Code.regOps : Code → Nat → Option (Array Oper)
  | .region id ops _, m => if Nat.beq id m then some ops else none
  | .seq a b, m => (a.regOps m).orElse fun _ => b.regOps m
  | .cond _ a b, m => (a.regOps m).orElse fun _ => b.regOps m
  | .block _ a, m | .loop a, m | .scope a, m => a.regOps m
  | _, _ => none
theorem pure_build66 {env : Nv} {o : Oper} (ho : o.op = .build 66 #[]) : PureOp Try.prog env o (.agg #[.int .i64 0]) := fun n a _ w => by
  have r1 := run_build (P := Try.prog) w 66 #[] #[.int .i64 0] (by rfl)
  have r2 := events_build_struct (P := Try.prog) w 66 (fields := _) (it := _) (z := .agg #[.int .i64 0]) (places := _) (cells := #[.int .i64 0]) (by rfl) (by rfl) (by rfl) (by rfl) (by rfl) #[]
  constructor
  · simp [execOp, ho, r1]
  · simp [execOp, ho, r2]
noncomputable def c44 : Code := (Try.f44.body).getD .skip
theorem b44 : Bod Try.prog 44 15 c44 #[] := ⟨Try.f44, Try.func44, by decide +kernel, rfl, rfl, rfl⟩
theorem q44 : (Try.prog.funcs[44]?).any (·.norace) = false := by decide +kernel
structure Mk (E : Geo) (i : Nat) (l0 l : Lo) : Prop where
  lk : Lk E i 0 { l with run := none } (some .held)
  run : l.run = some 0
  deaf : l.deaf = 0
  kept : Kept l0 l
theorem Mk.grow {l0 : Lo} {a b : Nat} (h : Mk E i l0 l) : Mk E i l0 (l.grow a b) := ⟨⟨h.lk.i0, h.lk.kK, h.lk.live, h.lk.mr, h.lk.ch, h.lk.gr, h.lk.rel, rfl⟩, h.run, h.deaf, ⟨h.kept.job, h.kept.wk, h.kept.me, h.kept.sc⟩⟩
theorem Mk.kn {l0 : Lo} {kn : Addr → Option Value} (h : Mk E i l0 l) : Mk E i l0 { l with kn := kn } := ⟨⟨h.lk.i0, h.lk.kK, h.lk.live, h.lk.mr, h.lk.ch, h.lk.gr, h.lk.rel, rfl⟩, h.run, h.deaf, ⟨h.kept.job, h.kept.wk, h.kept.me, h.kept.sc⟩⟩
theorem CG.prot {C H : Nat} {hv S : Value} (c : CG E C H hv) {G : Gh} {t : Trace} (hg : GI E G w t) (hact : (G.th i).live = true) (hrun : (G.th i).run = some 0) (hkn : (G.th i).kn (adr C 3) = some S) : G.app (adr C 3) = some (S, .prot 0) ∧ G.dn 0 = false := by
  have hd := (hg.k.run i 0 hact hrun).2
  obtain ⟨d, h1, _⟩ := hg.k.kn i _ _ hact hkn
  have hm := hg.more
  rw [c.app] at hm
  rcases hm.2 with ⟨_, ⟨v, hv⟩, _⟩ | ⟨x, _⟩
  · rw [hv] at h1; cases h1; exact ⟨hv, hd⟩
  · rw [hd] at x; cases x
theorem MI.newer {X C n : Nat} {S S' : Value} {ps : List Nat} {l : Lo} {w₁ : World} {L : Array Bool} {P Q r : Nat} {ob : Obj} (h : MI X C n S ps l.own w₁ L P Q S') (_hr : r = w₁.heap.size) : MI X C n S ps (l.grow r (r + 1)).own { w₁ with heap := w₁.heap.push ob } L P Q S' :=
  h.mono (fun _ h => .inl h) fun b _ hlt => by simp [Array.getElem?_push, Nat.ne_of_lt hlt]
theorem heap_push {w₁ : World} {ob : Obj} {r : Nat} (hr : r = w₁.heap.size) : ({ w₁ with heap := w₁.heap.push ob } : World).heap[r]? = some ob := by subst hr; simp
def R44 (E : Geo) (i : Nat) (l0 : Lo) (X C n : Nat) (S : Value) (ps : List Nat) (ops : Array Oper) (L : Array Bool) (l : Lo) (w : World) (env : Nv) : Prop :=
  Mk E i l0 l ∧ ∃ P Q S', Facts ops (val44 X C n S S' P Q) [0, 1] L env ∧ MI X C n S ps l.own w L P Q S' ∧ (¬ Up L 11 → l.kn (adr C 3) = some S) ∧ (Up L 11 → l.kn (adr C 3) = some S')
theorem RowI.elem {own : Nat → Prop} {w : World} {n : Nat} {S : Value} {ps : List Nat} (h : RowI own w n S ps) {g : Nat} (hg : S.ownBlock = some g) : ∃ cur, w.heap[g]? = some (.cells cur 51 (0, 0)) := by
  rcases h.row.2 with ⟨x, _⟩ | ⟨g', cap, cur, x, _, y, _⟩
  · rw [x] at hg; cases hg
  · rw [x] at hg; cases hg; exact ⟨cur, y⟩
theorem CG.setProt {C H : Nat} {hv S' : Value} (c : CG E C H hv) {G : Gh} {t : Trace} (hg : GI E G w t) (hd : G.dn 0 = false) : E.App (setApp G.app (adr C 3) (S', .prot 0)) G.dn G.cv := by
  have hm := hg.more
  rw [c.app] at hm ⊢
  obtain ⟨⟨h0, h1⟩, h2⟩ := hm
  have hne : adr H 0 ≠ adr C 3 := fun e => by simp at e
  refine ⟨⟨h0, by unfold setApp; rw [if_neg hne]; exact h1⟩, .inl ⟨hd, ⟨S', by unfold setApp; simp⟩, fun a v d ha => ?_, ?_⟩⟩
  · by_cases e : a = adr C 3
    · exact .inr e
    · unfold setApp at ha
      rw [if_neg e] at ha
      rcases h2 with ⟨_, _, h3, _⟩ | ⟨x, _⟩
      · exact h3 a v d ha
      · rw [hd] at x; cases x
  · rcases h2 with ⟨_, _, _, h4⟩ | ⟨x, _⟩
    · exact h4
    · rw [hd] at x; cases x
theorem R44.keep {C X n j P Q : Nat} {S S' : Value} {ps : List Nat} {l0 l l' : Lo} {w w' : World} {L : Array Bool} {env' : Nv} {ops : Array Oper} (M' : Mk E i l0 l') (mi : MI X C n S ps l.own w L P Q S') (hk0 : ¬ Up L 11 → l.kn (adr C 3) = some S) (hk1 : Up L 11 → l.kn (adr C 3) = some S')
    (ho : l'.own = l.own) (hw : ∀ b, l.own b → b < w.heap.size → w'.heap[b]? = w.heap[b]?) (hkn' : ∀ v, l.kn (adr C 3) = some v → l'.kn (adr C 3) = some v) (h6 : j ≠ 6) (h7 : j ≠ 7) (h8 : j ≠ 8) (h11 : j ≠ 11)
    (F' : Facts ops (val44 X C n S S' P Q) [0, 1] (L.setIfInBounds j true) env') : R44 E i l0 X C n S ps ops (L.setIfInBounds j true) l' w' env' :=
  ⟨M', P, Q, S', F', (mi.mono (fun b hb => by rw [ho]; exact hb) hw).set j ⟨h6, h7, h8⟩, fun x => hkn' _ (hk0 fun y => x ((up_ne (Ne.symm h11)).2 y)), fun x => hkn' _ (hk1 ((up_ne (Ne.symm h11)).1 x))⟩
theorem R44.keepP {C X n j P Q : Nat} {S S' : Value} {ps : List Nat} {l0 l : Lo} {w : World} {L : Array Bool} {env' : Nv} {ops : Array Oper} (M : Mk E i l0 l) (mi : MI X C n S ps l.own w L P Q S') (hk0 : ¬ Up L 11 → l.kn (adr C 3) = some S) (hk1 : Up L 11 → l.kn (adr C 3) = some S')
    (h6 : j ≠ 6) (h7 : j ≠ 7) (h8 : j ≠ 8) (h11 : j ≠ 11) (F' : Facts ops (val44 X C n S S' P Q) [0, 1] (L.setIfInBounds j true) env') : R44 E i l0 X C n S ps ops (L.setIfInBounds j true) l w env' :=
  R44.keep M mi hk0 hk1 rfl (fun _ _ _ => rfl) (fun _ h => h) h6 h7 h8 h11 F'
theorem wrap8 {n : Nat} (h : n < 19) : IntKind.u8.wrap ((n : Int) + 1) = ((n + 1 : Nat) : Int) := by
  rw [IntKind.wrap_u8]; omega
set_option maxHeartbeats 8000000 in
theorem made44 {C H X : Nat} {hv : Value} {l0 : Lo} (c : CG E C H hv) (M : Mk E i l0 l) (hbox : l.own X ∧ w.heap[X]? = some (.cells #[ptr C 0] 50 (0, 0))) (hkn : l.kn (adr C 3) = some (.slice none 0 0)) {fr : Frame} {cs : List Frame}
    (h : ∀ l' w' S ps, Mk E i l0 l' → RowI l'.own w' 19 S ps → l'.kn (adr C 3) = some S → Tr E N i l' (Conc.G (fr.finish (.tuple #[])) cs) w') :
    Tr E N i l (Conc.G (Frame.enter Try.prog 44 #[ptr X 0] .normal) (fr :: cs)) w := by
  have hP := c.P
  have Wl : ∀ l' : Lo, Mk E i l0 l' → WkP Try.prog E l' (base 44) := fun l' M => ⟨⟨c.fin, M.lk.ch, by decide⟩, hP⟩
  refine Tr.enterP hP b44 (Nat.le_of_ble_eq_true rfl) ?_
  have W := Wl l M
  (repeat (first | refine TkO.done W (by rfl) ?_ | refine TkO.unwantedS W (by rfl) (by rfl) (by rfl) (by rfl) ?_ | refine TkO.pureS W (by rfl) (by rfl) (by rfl) (by rfl) (by first | exact pure_move (.inl rfl) rfl | exact pure_move (.inr rfl) rfl | exact pure_nilCheck rfl rfl | exact pure_field rfl rfl (by rfl) rfl (by decide +kernel) | exact pure_int rfl rfl rfl rfl | exact pure_not rfl rfl | exact pure_pickT rfl rfl rfl | exact pure_pickF rfl rfl rfl | exact pure_shift rfl rfl rfl rfl | exact pure_eqlNil rfl rfl rfl (by rfl) | exact pure_conv rfl rfl (by rfl) (by rfl)) ?_ | refine Tk.seq (WkP.wk W) ?_ | refine Tk.reg W ?_ | refine Tk.skip (WkP.wk W) ?_ | refine Tk.block (WkP.wk W) ?_ | refine Tk.condT (WkP.wk W) rfl ?_ | refine Tk.condF (WkP.wk W) rfl ?_ | refine Tk.exit (WkP.wk W) rfl ?_ | refine Tk.label (WkP.wk W) ?_))
  refine Tk.loop W.wk ?_
  refine Tk.cut fun K hK => ?_
  have HH : ∀ m n (l : Lo) (w : World) (S : Value) (ps : List Nat), n + m = 19 → Mk E i l0 l → (l.own X ∧ w.heap[X]? = some (.cells #[ptr C 0] 50 (0, 0))) → RowI l.own w n S ps → l.kn (adr C 3) = some S →
      Tk E N i l w (base 44) 15 [(0, ptr X 0), (1, .int .u8 n)] [] K (fr :: cs) := by
    intro m
    induction m with
    | zero =>
      intro n l w S ps hn M hbox hrow hkn
      have hn : n = 19 := by omega
      subst hn
      have W := Wl l M
      rw [hK]
      (repeat (first | refine TkO.done W (by rfl) ?_ | refine TkO.unwantedS W (by rfl) (by rfl) (by rfl) (by rfl) ?_ | refine TkO.pureS W (by rfl) (by rfl) (by rfl) (by rfl) (by first | exact pure_move (.inl rfl) rfl | exact pure_move (.inr rfl) rfl | exact pure_nilCheck rfl rfl | exact pure_field rfl rfl (by rfl) rfl (by decide +kernel) | exact pure_int rfl rfl rfl rfl | exact pure_not rfl rfl | exact pure_pickT rfl rfl rfl | exact pure_pickF rfl rfl rfl | exact pure_shift rfl rfl rfl rfl | exact pure_eqlNil rfl rfl rfl (by rfl) | exact pure_conv rfl rfl (by rfl) (by rfl)) ?_ | refine Tk.seq (WkP.wk W) ?_ | refine Tk.reg W ?_ | refine Tk.skip (WkP.wk W) ?_ | refine Tk.block (WkP.wk W) ?_ | refine Tk.condT (WkP.wk W) rfl ?_ | refine Tk.condF (WkP.wk W) rfl ?_ | refine Tk.exit (WkP.wk W) rfl ?_ | refine Tk.label (WkP.wk W) ?_))
      exact Tk.fall W.wk (TkR.leave0 W.wk (hP ▸ b44) (h _ _ _ _ M hrow hkn))
    | succ m ihm =>
      intro n l w S ps hn M hbox hrow hkn
      have hn19 : n < 19 := by omega
      have W := Wl l M
      rw [hK]
      refine Tk.seq W.wk ?_
      refine Tk.reg W ?_
      refine TkO.pureS W (by rfl) (by rfl) (by rfl) (by rfl) (by (first | exact pure_move (.inl rfl) rfl | exact pure_move (.inr rfl) rfl | exact pure_nilCheck rfl rfl | exact pure_field rfl rfl (by rfl) rfl (by decide +kernel) | exact pure_int rfl rfl rfl rfl | exact pure_not rfl rfl | exact pure_pickT rfl rfl rfl | exact pure_pickF rfl rfl rfl | exact pure_shift rfl rfl rfl rfl | exact pure_eqlNil rfl rfl rfl (by rfl) | exact pure_conv rfl rfl (by rfl) (by rfl))) ?_
      refine TkO.done W (by rfl) ?_
      refine Tk.seq W.wk ?_
      refine Tk.condT W.wk (congrArg (fun b => some (Value.bool b)) (decide_eq_true (show (n : Int) < 19 by omega))) ?_
      refine Tk.skip W.wk ?_
      refine Tk.seq W.wk ?_
      refine Tk.block W.wk ?_
      refine Tk.free W mixed (I := R44 E i l0 X C n S ps) (by decide +kernel) ?_ ?_ ?_ ?_
      · refine ⟨M, 0, 0, S, ⟨by simp, fun x hx => ?_, fun m o' d _ _ hu => absurd hu (not_up0 _ _)⟩, ⟨hbox, fun hu => absurd hu (not_up0 _ _), fun hu => absurd hu (not_up0 _ _), fun _ => hrow, fun hu => absurd hu (not_up0 _ _)⟩, fun _ => hkn, fun hu => absurd hu (not_up0 _ _)⟩
        have : x = 0 ∨ x = 1 := by simpa using hx
        rcases this with rfl | rfl <;> rfl
      · exact fun L l' w' env h => ⟨h.2.choose_spec.choose_spec.choose_spec.1.size, Wl l' h.1⟩
      · intro L l w env j ⟨M, P, Q, S', F, mi, hk0, hk1⟩ hj hcl hu hb rest hk'
        have hj12 : j < 12 := hj
        have W := Wl l M
        have hLs : L.size = 12 := F.size
        have f0 := F.base 0 rfl
        have hrel := M.lk.rel
        have hcases : j = 0 ∨ j = 1 ∨ j = 2 ∨ j = 3 ∨ j = 4 ∨ j = 5 ∨ j = 6 ∨ j = 7 ∨ j = 8 ∨ j = 9 ∨ j = 10 ∨ j = 11 := by omega
        have hbc : w.cell? (adr X 0) = some (ptr C 0) := by unfold World.cell?; rw [show w.heap[(adr X 0).block]? = _ from mi.box.2]; rfl
        rcases hcases with rfl | rfl | rfl | rfl | rfl | rfl | rfl | rfl | rfl | rfl | rfl | rfl
        · refine Tk.oload W.wk hrel (x := .tmp 0) (ad := adr X 0) (v := ptr C 0) (by rfl) (by rfl) (by rfl) (by rfl) (by rw [hP]; rfl) f0 mi.box.1 hbc ?_
          exact hk' _ _ _ (R44.keepP M mi hk0 hk1 (by decide) (by decide) (by decide) (by decide) (F.step (j := 0) (d := 3) (by rfl) rfl rfl))
        · refine Tk.oload W.wk hrel (x := .tmp 0) (ad := adr X 0) (v := ptr C 0) (by rfl) (by rfl) (by rfl) (by rfl) (by rw [hP]; rfl) f0 mi.box.1 hbc ?_
          exact hk' _ _ _ (R44.keepP M mi hk0 hk1 (by decide) (by decide) (by decide) (by decide) (F.step (j := 1) (d := 4) (by rfl) rfl rfl))
        · have g := F.get (j := 1) (d := 4) (by rfl) rfl (up_of hb (by rfl) 1 (by rfl))
          refine Tk.pure W.wk (by rfl) (by rfl) (by rfl) (pure_nilCheck (x := .tmp 4) rfl g) ?_
          exact hk' _ _ _ (R44.keepP M mi hk0 hk1 (by decide) (by decide) (by decide) (by decide) (F.step (j := 2) (d := 5) (by rfl) rfl rfl))
        · have g := F.get (j := 2) (d := 5) (by rfl) rfl (up_of hb (by rfl) 2 (by rfl))
          refine Tk.pure W.wk (by rfl) (by rfl) (by rfl) (by rw [hP]; exact pure_field (x := .tmp 5) rfl g (by rfl) rfl (by decide +kernel)) ?_
          exact hk' _ _ _ (R44.keepP M mi hk0 hk1 (by decide) (by decide) (by decide) (by decide) (F.step (j := 3) (d := 6) (by rfl) rfl rfl))
        · have g := F.get (j := 3) (d := 6) (by rfl) rfl (up_of hb (by rfl) 3 (by rfl))
          have h8 : ¬ Up L 8 := fun x => hu (hcl.up x (by rfl) 4 (by rfl))
          have h11 : ¬ Up L 11 := fun x => h8 (hcl.up x (by rfl) 8 (by rfl))
          refine Tk.sload W.wk (by rw [hP]; exact q44) (x := .tmp 6) (ad := adr C 3) (by rfl) (by rfl) (by rfl) (by rfl) (by rw [hP]; rfl) g fun G w₁ u hg hact hlo hv => ?_
          obtain ⟨e1, e2⟩ := c.prot hg hact (by rw [hlo]; exact M.run) (by rw [hlo]; exact hk0 h11)
          refine ⟨S, { l with kn := fun x => if x = adr C 3 then some S else l.kn x }, false, (hg.m.app _ _ _ e1).1, fun fn pos => ?_, TkL.same (hk' _ _ _ (R44.keep M.kn mi hk0 hk1 rfl (fun b hb _ => hv.2 b hb) (fun v hv => ?_) (by decide) (by decide) (by decide) (by decide) (F.step (j := 4) (d := 7) (by rfl) rfl rfl)))⟩
          · obtain ⟨G', d, cc⟩ := hg.load fn pos hact (by rw [hlo]; exact hrel) e1 (.inr (.inr ⟨0, rfl, by rw [hlo]; exact M.run⟩))
            rw [hlo] at d
            exact ⟨G', d, cc, M.lk.live, fun e => by cases e⟩
          · rw [hk0 h11] at hv; cases hv
            show (if adr C 3 = adr C 3 then some S else l.kn (adr C 3)) = some S
            rw [if_pos rfl]
        · refine Tk.pure W.wk (by rfl) (by rfl) (by rfl) (by rw [hP]; exact pure_build66 rfl) ?_
          exact hk' _ _ _ (R44.keepP M mi hk0 hk1 (by decide) (by decide) (by decide) (by decide) (F.step (j := 5) (d := 8) (by rfl) rfl rfl))
        · have g := F.get (j := 5) (d := 8) (by rfl) rfl (up_of hb (by rfl) 5 (by rfl))
          have h7 : ¬ Up L 7 := fun x => hu (hcl.up x (by rfl) 6 (by rfl))
          have h8 : ¬ Up L 8 := fun x => h7 (hcl.up x (by rfl) 7 (by rfl))
          refine Tk.newO W.wk hrel (d := 9) (by rfl) (by rfl) (by rfl) (by rfl) (fun r => ptr r 0) (.cells #[.int .i64 0] 66 (0, 0)) (fun a ha w₁ => by rw [hP]; exact exec_box (t := 66) (x := .tmp 8) (v := .agg #[.int .i64 0]) (by rfl) (ha.ev (x := .tmp 8) g)) fun w₁ hv r hr => hk' _ _ _ ?_
          have mi1 := (mi.mono (w' := w₁) (fun _ h => h) fun b hb _ => hv.2 b hb).newer (ob := .cells #[.int .i64 0] 66 (0, 0)) hr
          have e6 : Up (L.setIfInBounds 6 true) 8 ↔ Up L 8 := up_ne (by decide)
          have e7 : Up (L.setIfInBounds 6 true) 7 ↔ Up L 7 := up_ne (by decide)
          refine ⟨M.grow, r, Q, S', (F.chg1 (val' := val44 X C n S S' r Q) (j := 6) (d := 9) (fun x hx => ?_) (by rfl) (by decide +kernel) hu).put (j := 6) (d := 9) (by rfl) rfl, ⟨mi1.box, fun _ _ => ⟨fun hp => ?_, .inr ⟨Nat.le_refl _, Nat.lt_succ_self _⟩, heap_push hr⟩, fun x => absurd (e7.1 x) h7, fun _ => mi1.row h8, fun x => absurd (e6.1 x) h8⟩, fun x => hk0 fun y => x ((up_ne (by decide)).2 y), fun x => hk1 ((up_ne (by decide)).1 x)⟩
          · unfold val44; split <;> first | rfl | exact absurd rfl hx
          · have := lt_of_heap ((mi.row h8).cell r hp).2
            have := hv.1; omega
        · have g := F.get (j := 6) (d := 9) (by rfl) rfl (up_of hb (by rfl) 6 (by rfl))
          have u6 := up_of hb (by rfl) 6 (by rfl)
          have h8 : ¬ Up L 8 := fun x => hu (hcl.up x (by rfl) 7 (by rfl))
          refine Tk.newO W.wk hrel (d := 10) (by rfl) (by rfl) (by rfl) (by rfl) (fun r => .slice (some (adr r 0)) 1 1) (.cells #[ptr P 0] 51 (0, 0)) (fun a ha w₁ => by rw [hP]; exact exec_slice1 (t := 36) (x := .tmp 9) (y := ptr P 0) (by rfl) (ha.ev (x := .tmp 9) g) (by rfl) (by rfl) (by rfl) (z := .pointer none) (by rfl) (by rfl) (by rfl)) fun w₁ hv r hr => hk' _ _ _ ?_
          have mi1 := (mi.mono (w' := w₁) (fun _ h => h) fun b hb _ => hv.2 b hb).newer (ob := .cells #[ptr P 0] 51 (0, 0)) hr
          have e8 : Up (L.setIfInBounds 7 true) 8 ↔ Up L 8 := up_ne (by decide)
          have e6 : Up (L.setIfInBounds 7 true) 6 ↔ Up L 6 := up_ne (by decide)
          refine ⟨M.grow, P, r, S', (F.chg1 (val' := val44 X C n S S' P r) (j := 7) (d := 10) (fun x hx => ?_) (by rfl) (by decide +kernel) hu).put (j := 7) (d := 10) (by rfl) rfl, ⟨mi1.box, fun _ _ => mi1.pc u6 h8, fun _ _ => ⟨.inr ⟨Nat.le_refl _, Nat.lt_succ_self _⟩, heap_push hr⟩, fun _ => mi1.row h8, fun x => absurd (e8.1 x) h8⟩, fun x => hk0 fun y => x ((up_ne (by decide)).2 y), fun x => hk1 ((up_ne (by decide)).1 x)⟩
          unfold val44; split <;> first | rfl | exact absurd rfl hx
        · have g7 := F.get (j := 4) (d := 7) (by rfl) rfl (up_of hb (by rfl) 4 (by rfl))
          have g10 := F.get (j := 7) (d := 10) (by rfl) rfl (up_of hb (by rfl) 7 (by rfl))
          have u7 := up_of hb (by rfl) 7 (by rfl)
          have u6 := hcl.up u7 (by rfl) 6 (by rfl)
          have h11 : ¬ Up L 11 := fun x => hu (hcl.up x (by rfl) 8 (by rfl))
          refine Tk.privO W.wk hrel (by rfl) (by rfl) (by rfl) fun w₁ hv => ?_
          have mi1 := mi.mono (w' := w₁) (fun _ h => h) fun b hb _ => hv.2 b hb
          have hrow1 := mi1.row hu
          have hq := mi1.qc u7 hu
          have hp := mi1.pc u6 hu
          have hnews : ∀ (j : Nat) (u : Value), [ptr P 0][j]? = some u → w₁.cell? ((adr Q 0).add j) = some u := fun j u hj => by
            cases j with
            | zero =>
              cases hj
              show w₁.cell? (adr Q 0) = _
              unfold World.cell?; rw [show w₁.heap[(adr Q 0).block]? = _ from hq.2]; rfl
            | succ j => simp at hj
          have h1 : ∀ u ∈ [ptr P 0], u.oneCell' = true := fun u hu => by simp at hu; subst hu; rfl
          have hmax : n + 1 ≤ maxLen := by unfold maxLen; omega
          have hby : (n + 1) * 8 ≤ 140737488355328 := by omega
          obtain ⟨v', w', r1, r2, r3, _, r5⟩ := run_append_own_at (P := Try.prog) (w := w₁) 0 36 36 51 _ (.pointer none) 1 8 (by rfl) (by rfl) (by rfl) (by rfl) (by rfl) (by rfl) (by decide) S n _ hrow1.row (adr Q 0) 1 1 [ptr P 0] rfl hnews h1 hmax hby (Nat.zero_le _)
          have re := events_append_where (P := Try.prog) w₁ 0 36 36 51 _ (.pointer none) 1 8 (by rfl) (by rfl) (by rfl) (by rfl) (by rfl) S n _ hrow1.row (adr Q 0) 1 1 [ptr P 0] rfl hnews h1 hmax hby
          have hblk : ∀ b, l.own b → b < w₁.heap.size → S.ownBlock ≠ some b → w'.heap[b]? = w₁.heap[b]? := fun b _ hlt hne => r3.block b hlt (fun e => hne e.symm)
          refine ⟨v', w', fun a ha => ⟨by rw [hP]; exact exec_append (.tmp 7) (.tmp 10) 36 (by rfl) (ha.ev (x := .tmp 7) g7) (ha.ev (x := .tmp 10) g10) r1, fun ev hev => ?_⟩, r3.size, fun b hb hlt => r3.block b hlt (fun e => hb (hrow1.rown b e.symm)), r3.tape, r3.os, r3.output, hk' _ _ _ ?_⟩
          · rw [hP, events_append_op (.tmp 7) (.tmp 10) 36 (by rfl) (ha.ev (x := .tmp 7) g7) (ha.ev (x := .tmp 10) g10)] at hev
            rcases re ev hev with ⟨ad, e1, e2⟩ | ⟨m, rfl, hm⟩
            · refine .inl ⟨ad, ev.write, ev.sync, ?_, .inl ?_⟩
              · cases ev; simp only at e1; subst e1; rfl
              · rcases e2 with ⟨_, e2⟩ | e2
                · rw [e2]; exact hq.1
                · exact hrow1.rown _ e2.symm
            · exact .inr (.inr ⟨m, false, true, rfl, .inl hm⟩)
          · have up8 : Up (L.setIfInBounds 8 true) 8 := up_eq (by rw [hLs]; decide)
            refine ⟨M.grow, P, Q, v', (F.chg1 (val' := val44 X C n S v' P Q) (j := 8) (d := 11) (fun x hx => ?_) (by rfl) (by decide +kernel) hu).step (j := 8) (d := 11) (by rfl) rfl rfl, ⟨⟨.inl mi1.box.1, ?_⟩, fun _ x => absurd up8 x, fun _ x => absurd up8 x, fun x => absurd up8 x, fun _ => ⟨by simp [hrow1.len], ?_, fun p hp' => ?_, by rw [List.map_append]; exact r2, fun g hg => ?_⟩⟩, fun x => hk0 fun y => x ((up_ne (by decide)).2 y), fun x => absurd ((up_ne (by decide)).1 x) h11⟩
            · unfold val44; split <;> first | rfl | exact absurd rfl hx
            · rw [hblk X mi1.box.1 (lt_of_heap mi1.box.2) fun e => ?_]
              · exact mi1.box.2
              · obtain ⟨cur, hc⟩ := hrow1.elem e
                rw [mi1.box.2] at hc; simp at hc
            · rw [List.nodup_append]
              exact ⟨hrow1.nodup, by simp, fun a ha b hb e => by simp at hb; subst hb; subst e; exact hp.1 ha⟩
            · have hx : l.own p ∧ w₁.heap[p]? = some (.cells #[.int .i64 0] 66 (0, 0)) := by
                rcases List.mem_append.1 hp' with x | x
                · exact hrow1.cell p x
                · simp at x; subst x; exact hp.2
              refine ⟨.inl hx.1, ?_⟩
              rw [hblk p hx.1 (lt_of_heap hx.2) fun e => ?_]
              · exact hx.2
              · obtain ⟨cur, hc⟩ := hrow1.elem e
                rw [hx.2] at hc; simp at hc
            · rcases r5 with e | e
              · exact .inl (hrow1.rown g (e ▸ hg))
              · rw [e] at hg; cases hg
                refine .inr ⟨Nat.le_refl _, ?_⟩
                rcases r2.2 with ⟨x, _⟩ | ⟨g, cap, cur, x, _, y, _⟩
                · rw [x] at e; cases e
                · rw [x] at e; cases e; exact lt_of_heap y
        · have g := F.get (j := 0) (d := 3) (by rfl) rfl (up_of hb (by rfl) 0 (by rfl))
          refine Tk.pure W.wk (by rfl) (by rfl) (by rfl) (pure_nilCheck (x := .tmp 3) rfl g) ?_
          exact hk' _ _ _ (R44.keepP M mi hk0 hk1 (by decide) (by decide) (by decide) (by decide) (F.step (j := 9) (d := 12) (by rfl) rfl rfl))
        · have g := F.get (j := 9) (d := 12) (by rfl) rfl (up_of hb (by rfl) 9 (by rfl))
          refine Tk.pure W.wk (by rfl) (by rfl) (by rfl) (by rw [hP]; exact pure_field (x := .tmp 12) rfl g (by rfl) rfl (by decide +kernel)) ?_
          exact hk' _ _ _ (R44.keepP M mi hk0 hk1 (by decide) (by decide) (by decide) (by decide) (F.step (j := 10) (d := 13) (by rfl) rfl rfl))
        · have g11 := F.get (j := 8) (d := 11) (by rfl) rfl (up_of hb (by rfl) 8 (by rfl))
          have g13 := F.get (j := 10) (d := 13) (by rfl) rfl (up_of hb (by rfl) 10 (by rfl))
          have u8 := up_of hb (by rfl) 8 (by rfl)
          have hS : S'.cells = #[S'] ∧ S'.oneCell' = true := by
            rcases (mi.row' u8).row.2 with ⟨x, _⟩ | ⟨g, cap, cur, x, _⟩ <;> rw [x] <;> exact ⟨rfl, rfl⟩
          refine Tk.sstore W.wk (by rw [hP]; exact q44) (t := 36) (x := .tmp 13) (y := .tmp 11) (ad := adr C 3) (v := S') (by rfl) (by rfl) (by rfl) (by rfl) (by rw [hP]; exact ⟨_, by rfl, by rfl⟩) hS.1 hS.2 g13 g11 fun G w₁ t hg hact hlo hv => ?_
          obtain ⟨e1, e2⟩ := c.prot hg hact (by rw [hlo]; exact M.run) (by rw [hlo]; exact hk0 hu)
          obtain ⟨c1, c2, _⟩ := hg.m.app _ _ _ e1
          refine ⟨_, { l with kn := setKn l.kn (adr C 3) S' }, c1, c2, fun fn pos => ?_, hk' _ _ _ ⟨M.kn, P, Q, S', F.none (j := 11) (by rfl) rfl, (mi.mono (fun _ h => h) fun b hb _ => ?_).set 11 (by decide), fun x => absurd (up_eq (by rw [hLs]; decide)) x, fun _ => ?_⟩⟩
          · obtain ⟨G', d, cc, _, _⟩ := hg.protStore S' fn pos hact (by rw [hlo]; exact hrel) (by rw [hlo]; exact M.run) e1 (c.setProt hg e2)
            rw [hlo] at d
            exact ⟨G', d, cc, M.lk.live⟩
          · have hne : b ≠ C := fun e => by
              have := (hg.s.nsh i b hact (by rw [hlo]; exact hb)).2.1 _ _ e1
              exact this e.symm
            rw [show (w₁.setCell (adr C 3) S').heap[b]? = w₁.heap[b]? from ?_]
            · exact hv.2 b hb
            · unfold World.setCell
              simp only [Array.getElem?_modify]
              rw [if_neg (fun e => hne e.symm)]
          · show setKn l.kn (adr C 3) S' (adr C 3) = some S'
            unfold setKn; simp
      · intro L l' w' env ⟨M', P, Q, S', F, mi, _, hk11⟩ hall
        have W' := Wl l' M'
        refine Tk.sub (env' := [(0, ptr X 0), (1, .int .u8 n)]) ?_ (AllGet.sub ⟨F.base 0 rfl, F.base 1 rfl, trivial⟩)
        refine Tk.inBlock W'.wk ?_
        refine Tk.reg W' ?_
        refine TkO.pureS W' (by rfl) (by rfl) (by rfl) (by rfl) (by (first | exact pure_move (.inl rfl) rfl | exact pure_move (.inr rfl) rfl | exact pure_nilCheck rfl rfl | exact pure_field rfl rfl (by rfl) rfl (by decide +kernel) | exact pure_int rfl rfl rfl rfl | exact pure_not rfl rfl | exact pure_pickT rfl rfl rfl | exact pure_pickF rfl rfl rfl | exact pure_shift rfl rfl rfl rfl | exact pure_eqlNil rfl rfl rfl (by rfl) | exact pure_conv rfl rfl (by rfl) (by rfl))) ?_
        rw [show IntKind.u8.wrap ((n : Int) + 1) = ((n + 1 : Nat) : Int) from wrap8 hn19]
        (repeat (first | refine TkO.done W' (by rfl) ?_ | refine TkO.unwantedS W' (by rfl) (by rfl) (by rfl) (by rfl) ?_ | refine TkO.pureS W' (by rfl) (by rfl) (by rfl) (by rfl) (by first | exact pure_move (.inl rfl) rfl | exact pure_move (.inr rfl) rfl | exact pure_nilCheck rfl rfl | exact pure_field rfl rfl (by rfl) rfl (by decide +kernel) | exact pure_int rfl rfl rfl rfl | exact pure_not rfl rfl | exact pure_pickT rfl rfl rfl | exact pure_pickF rfl rfl rfl | exact pure_shift rfl rfl rfl rfl | exact pure_eqlNil rfl rfl rfl (by rfl) | exact pure_conv rfl rfl (by rfl) (by rfl)) ?_ | refine Tk.seq (WkP.wk W') ?_ | refine Tk.reg W' ?_ | refine Tk.skip (WkP.wk W') ?_ | refine Tk.block (WkP.wk W') ?_ | refine Tk.condT (WkP.wk W') rfl ?_ | refine Tk.condF (WkP.wk W') rfl ?_ | refine Tk.exit (WkP.wk W') rfl ?_ | refine Tk.label (WkP.wk W') ?_))
        refine Tk.inLoop W'.wk ?_
        rw [← hK]
        exact Tk.sub (ihm (n + 1) l' w' S' (ps ++ [P]) (by omega) M' mi.box (mi.row' (hall 8 (by decide))) (hk11 (hall 11 (by decide)))) (AllGet.sub ⟨rfl, rfl, trivial⟩)
  exact Tk.sub (HH 19 0 l w (.slice none 0 0) [] rfl M hbox ⟨rfl, List.nodup_nil, (by simp), ⟨rfl, .inl ⟨rfl, rfl⟩⟩, by intro g hg; cases hg⟩ hkn) (AllGet.sub ⟨rfl, rfl, trivial⟩)
end Go.Co.F1

namespace Go.Co.F1
open Go Go.Conc Go.Proofs
open Go.Co
open Go.ConcN (upd upd_ne upd_same)
variable {E : Geo} {N i : Nat} {l : Lo} {w : World}
set_option maxRecDepth 10000
def pubApp (C R : Nat) (S : Value) (ps : List Nat) (app : Addr → Option (Value × Gd)) : Addr → Option (Value × Gd) := fun a =>
  if a = adr C 3 then some (S, .pub 0)
  else if a.block = R ∧ a.spot = none ∧ a.off < 19 then (ps[a.off]?).map fun p => (ptr p 0, .pub 0)
  else if a.block ∈ ps ∧ a.off = 0 ∧ a.spot = none then some (.int .i64 0, .ctr 0)
  else app a
theorem adr_ext {a : Addr} {b o : Nat} (h1 : a.block = b) (h2 : a.off = o) (h3 : a.spot = none) : a = adr b o := by
  obtain ⟨x, y, z⟩ := a; subst h1; subst h2; subst h3; rfl
theorem CG.say {C H : Nat} {hv S : Value} {l0 : Lo} {w₁ : World} {ps : List Nat} (c : CG E C H hv) (M : Mk E i l0 l) (hrow : RowI l.own w 19 S ps) (hkn : l.kn (adr C 3) = some S) {G : Gh} {t : Trace} (hg : GI E G w₁ t) (hact : (G.th i).live = true) (hlo : G.th i = l) (hv : View l.own w w₁) :
    ∃ PB app', PubTo G w₁ i 0 PB app' ∧ E.App app' (upd G.dn 0 true) G.cv := by
  have hr1 : RowI l.own w₁ 19 S ps := hrow.mono (fun _ h => h) fun b hb _ => hv.2 b hb
  obtain ⟨e1, e2⟩ := c.prot hg hact (by rw [hlo]; exact M.run) (by rw [hlo]; exact hkn)
  have hm := hg.more
  rw [c.app] at hm
  obtain ⟨⟨hHC, hH⟩, hm2⟩ := hm
  obtain ⟨hex, hcv⟩ : (∀ a v d, G.app a = some (v, d) → a = adr H 0 ∨ a = adr C 3) ∧ ∀ r, G.cv r = 0 := by
    rcases hm2 with ⟨_, _, h3, h4⟩ | ⟨x, _⟩
    · exact ⟨h3, h4⟩
    · rw [e2] at x; cases x
  rcases hr1.row.2 with ⟨_, x⟩ | ⟨R, cap, cur, hS, _, hR, hcap, hcm, hcs, htake⟩
  · cases x
  subst hS
  have hownR : l.own R := hr1.rown R rfl
  have happ : ∀ b, l.own b → ∀ a v d, G.app a = some (v, d) → a.block ≠ b := fun b hb a v d ha => (hg.s.nsh i b hact (by rw [hlo]; exact hb)).2.1 a (v, d) ha
  have hRC : R ≠ C := fun e => happ R hownR _ _ _ e1 e.symm
  have hRH : R ≠ H := fun e => happ R hownR _ _ _ hH e.symm
  have hpC : ∀ p ∈ ps, p ≠ C := fun p hp e => happ p (hr1.cell p hp).1 _ _ _ e1 e.symm
  have hpH : ∀ p ∈ ps, p ≠ H := fun p hp e => happ p (hr1.cell p hp).1 _ _ _ hH e.symm
  have hRp : R ∉ ps := fun hp => by
    have := (hr1.cell R hp).2
    rw [hR] at this; simp at this
  have hcur : ∀ (r p : Nat), ps[r]? = some p → cur[r]? = some (ptr p 0) := fun r p hp => by
    have h1 : (ps.map fun p => ptr p 0)[r]? = some (ptr p 0) := by rw [List.getElem?_map, hp]; rfl
    rw [← htake, List.getElem?_take] at h1
    split at h1
    · simpa using h1
    · cases h1
  refine ⟨fun b => b = R ∨ b ∈ ps, pubApp C R (.slice (some (adr R 0)) 19 cap) ps G.app, ⟨?_, ?_, ?_⟩, ?_⟩
  · rintro b (rfl | hb)
    · rw [hlo]; exact hownR
    · rw [hlo]; exact (hr1.cell b hb).1
  · intro a v d ha
    unfold pubApp at ha
    by_cases h1 : a = adr C 3
    · rw [if_pos h1] at ha; cases ha
      exact .inr ⟨.inl rfl, .inl (h1 ▸ e1)⟩
    · rw [if_neg h1] at ha
      by_cases h2 : a.block = R ∧ a.spot = none ∧ a.off < 19
      · rw [if_pos h2] at ha
        obtain ⟨p, hp, e⟩ := Option.map_eq_some_iff.1 ha
        cases e
        have ea := adr_ext h2.1 rfl h2.2.1
        refine .inr ⟨.inl rfl, .inr ⟨.inl h2.1, ?_, ?_⟩⟩
        · unfold World.cell?
          rw [h2.1, hR, h2.2.1]
          exact hcur _ _ hp
        · unfold World.frozen?
          rw [h2.1, hR]
          simp
      · rw [if_neg h2] at ha
        by_cases h3 : a.block ∈ ps ∧ a.off = 0 ∧ a.spot = none
        · rw [if_pos h3] at ha; cases ha
          refine .inr ⟨.inr rfl, .inr ⟨.inr h3.1, ?_, ?_⟩⟩
          · unfold World.cell?
            rw [(hr1.cell _ h3.1).2, h3.2.1, h3.2.2]; rfl
          · unfold World.frozen?
            rw [(hr1.cell _ h3.1).2]; simp
        · rw [if_neg h3] at ha
          rcases hex _ _ _ ha with x | x
          · subst x; rw [hH] at ha; cases ha
            exact .inl ⟨⟨by simp, by simp, by simp⟩, hH⟩
          · exact absurd x h1
  · intro a v d ha
    rcases hex _ _ _ ha with x | x
    · subst x; rw [hH] at ha; cases ha
      refine .inl ⟨by simp, ?_⟩
      unfold pubApp
      rw [if_neg (fun e => by cases e), if_neg (fun e => hRH e.1.symm), if_neg (fun e => hpH H e.1 rfl)]
      exact hH
    · subst x; rw [e1] at ha; cases ha
      exact .inr ⟨rfl, .inl (by unfold pubApp; rw [if_pos rfl])⟩
  · rw [c.app]
    refine ⟨⟨hHC, ?_⟩, .inr ⟨upd_same .., R, cap, ps, ⟨hr1.len, hr1.nodup, ⟨hRC, hRH, hRp⟩, ⟨fun x => hpC C x rfl, fun x => hpH H x rfl⟩, by unfold pubApp; rw [if_pos rfl], fun r p hp => ⟨?_, ?_⟩⟩⟩⟩
    · unfold pubApp
      rw [if_neg (fun e => by cases e), if_neg (fun e => hRH e.1.symm), if_neg (fun e => hpH H e.1 rfl)]
      exact hH
    · have hlt : r < 19 := by
        have := (List.getElem?_eq_some_iff.1 hp).1
        rw [hr1.len] at this; exact this
      unfold pubApp
      rw [if_neg (fun e => hRC (by cases e; rfl)), if_pos ⟨rfl, rfl, hlt⟩, show ps[(adr R r).off]? = some p from hp]
      rfl
    · have hpm : p ∈ ps := List.mem_of_getElem? hp
      unfold pubApp
      rw [if_neg (fun e => by cases e), if_neg (fun e : p = R ∧ _ => hRp (e.1 ▸ hpm)), if_pos ⟨hpm, rfl, rfl⟩, hcv r]
      rfl
noncomputable def c22 : Code := (Try.f22.body).getD .skip
theorem b22 : Bod Try.prog 22 7 c22 #[] := ⟨Try.f22, Try.func22, by decide +kernel, rfl, rfl, rfl⟩
theorem pure_makeFunc {env : Nv} {o : Oper} {f : FuncId} {first captured : Array Operand} {vs us : List Value} (ho : o.op = .makeFunc (.func f) first captured) (h1 : evsA env first.toList = some vs) (h2 : evsA env captured.toList = some us) : PureOp Try.prog env o (.func (.func f) vs.toArray us.toArray) := fun n a ha w => by
  have e1 : first.map a.eval = vs.toArray := by apply Array.toList_inj.1; simp only [Array.toList_map]; exact ha.evsA h1
  have e2 : captured.map a.eval = us.toArray := by apply Array.toList_inj.1; simp only [Array.toList_map]; exact ha.evsA h2
  have e1' : first.map (fun x => a.eval x) = vs.toArray := e1
  have e2' : captured.map (fun x => a.eval x) = us.toArray := e2
  constructor <;> simp [execOp, ho, Instr.makeFunc, e1', e2']
theorem TkO.newO {P : Program} {b : Frame} {n : Nat} {env : Nv} {ds : List Deferred} {k : List Item} {cs : List Frame} {ops : Array Oper} {j : Nat} {o : Oper} (W : WkP P E l b) (hrel : l.rel = none) {d : Nat} (ho : ops[j]? = some o) (hw : wantE ops env o = some true) (hdd : o.dst = some d) (hd : Nat.blt d n = true) (v : Nat → Value) (x : Obj)
    (hx : ∀ a, Has n env a → ∀ w₁ : World, (execOp a.eval o).run P w₁ = .ok (.value (v w₁.heap.size)) { w₁ with heap := w₁.heap.push x } ∧ (execOp a.eval o).events P w₁ #[] = #[])
    (h : ∀ w₁, View l.own w w₁ → ∀ r, r = w₁.heap.size → TkO E N i (l.grow r (r + 1)) { w₁ with heap := w₁.heap.push x } b n ((d, v r) :: env) ds ops (j + 1) k cs) :
    TkO E N i l w b n env ds ops j k cs := TkO.open ho (Tk.newO W.wk hrel ho hw hdd hd v x (by rw [W.hP]; exact hx) h)
theorem ready22 {C H : Nat} {hv : Value} (c : CG E C H hv) (A : Lk E i 0 l none) (hdf : l.deaf = 0) {fr : Frame} {cs : List Frame}
    (h : ∀ l' w', Thru E i 0 l l' → Tr E N i l' (Conc.G (fr.finish (.tuple #[])) cs) w') :
    Tr E N i l (Conc.G (Frame.enter Try.prog 22 #[ptr C 0] .normal) (fr :: cs)) w := by
  have hP := c.P
  have W : WkP Try.prog E l (base 22) := ⟨⟨c.fin, A.ch, by decide⟩, hP⟩
  refine Tr.enterP hP b22 (Nat.le_of_ble_eq_true rfl) ?_
  refine Tk.seq W.wk ?_
  refine Tk.reg W ?_
  refine TkO.newO W A.rel (d := 1) (by rfl) (by rfl) (by rfl) (by rfl) (fun r => ptr r 0) (.cells #[ptr C 0] 50 (0, 0)) (fun a ha w₁ => exec_box (t := 50) (x := .tmp 0) (v := ptr C 0) (by rfl) (ha.ev (x := .tmp 0) rfl)) fun w₁ hv1 r hr => ?_
  have W1 : WkP Try.prog E (l.grow r (r + 1)) (base 22) := wkp W A.ch
  have A1 : Lk E i 0 (l.grow r (r + 1)) none := ⟨A.i0, A.kK, A.live, A.mr, A.ch, A.gr, A.rel, A.run⟩
  have hbox : (l.grow r (r + 1)).own r ∧ ({ w₁ with heap := w₁.heap.push (.cells #[ptr C 0] 50 (0, 0)) } : World).heap[r]? = some (.cells #[ptr C 0] 50 (0, 0)) := ⟨.inr ⟨Nat.le_refl _, Nat.lt_succ_self _⟩, heap_push hr⟩
  refine TkO.done W1 (by rfl) ?_
  refine Tk.reg W1 ?_
  refine TkO.open (by rfl) (Tk.oload W1.wk A.rel (x := .tmp 1) (ad := adr r 0) (v := ptr C 0) (by rfl) (by rfl) (by rfl) (by rfl) (by rw [hP]; rfl) (by rfl) hbox.1 (by unfold World.cell?; rw [show ({ w₁ with heap := w₁.heap.push (.cells #[ptr C 0] 50 (0, 0)) } : World).heap[(adr r 0).block]? = _ from hbox.2]; rfl) ?_)
  refine Tk.lay (rfl : Nv.put _ _ _ = (_, _) :: _) ?_
  show TkO _ _ _ _ _ _ _ _ _ _ 1 _ _
  (repeat (first | refine TkO.done W1 (by rfl) ?_ | refine TkO.unwantedS W1 (by rfl) (by rfl) (by rfl) (by rfl) ?_ | refine TkO.pureS W1 (by rfl) (by rfl) (by rfl) (by rfl) (by first | exact pure_move (.inl rfl) rfl | exact pure_move (.inr rfl) rfl | exact pure_nilCheck rfl rfl | exact pure_field rfl rfl (by rfl) rfl (by decide +kernel) | exact pure_int rfl rfl rfl rfl | exact pure_not rfl rfl | exact pure_pickT rfl rfl rfl | exact pure_pickF rfl rfl rfl | exact pure_shift rfl rfl rfl rfl | exact pure_eqlNil rfl rfl rfl (by rfl) | exact pure_conv rfl rfl (by rfl) (by rfl)) ?_ | refine Tk.seq (WkP.wk W1) ?_ | refine Tk.reg W1 ?_ | refine Tk.skip (WkP.wk W1) ?_ | refine Tk.block (WkP.wk W1) ?_ | refine Tk.condT (WkP.wk W1) rfl ?_ | refine Tk.condF (WkP.wk W1) rfl ?_ | refine Tk.exit (WkP.wk W1) rfl ?_ | refine Tk.label (WkP.wk W1) ?_))
  refine TkO.pureS W1 (by rfl) (by rfl) (by rfl) (by rfl) (pure_makeFunc (f := 44) (vs := []) (us := [ptr r 0]) (by rfl) (by rfl) (by rfl)) ?_
  refine TkO.call W1 (by rfl) (by rfl) (by rfl) (by rfl) b43 rfl fun fr1 hk1 => ?_
  have back : ∀ l' w', Thru E i 0 (l.grow r (r + 1)) l' → Tr E N i l' (Conc.G (fr1.finish (.tuple #[])) (fr :: cs)) w' := fun l' w' T => by
    refine hk1 _ _ _ (TkO.lay (rfl : Nv.put _ _ _ = (_, _) :: _) ?_)
    have W2 : WkP Try.prog E l' (base 22) := wkp W T.lk.ch
    (repeat (first | refine TkO.done W2 (by rfl) ?_ | refine TkO.unwantedS W2 (by rfl) (by rfl) (by rfl) (by rfl) ?_ | refine TkO.pureS W2 (by rfl) (by rfl) (by rfl) (by rfl) (by first | exact pure_move (.inl rfl) rfl | exact pure_move (.inr rfl) rfl | exact pure_nilCheck rfl rfl | exact pure_field rfl rfl (by rfl) rfl (by decide +kernel) | exact pure_int rfl rfl rfl rfl | exact pure_not rfl rfl | exact pure_pickT rfl rfl rfl | exact pure_pickF rfl rfl rfl | exact pure_shift rfl rfl rfl rfl | exact pure_eqlNil rfl rfl rfl (by rfl) | exact pure_conv rfl rfl (by rfl) (by rfl)) ?_ | refine Tk.seq (WkP.wk W2) ?_ | refine Tk.reg W2 ?_ | refine Tk.skip (WkP.wk W2) ?_ | refine Tk.block (WkP.wk W2) ?_ | refine Tk.condT (WkP.wk W2) rfl ?_ | refine Tk.condF (WkP.wk W2) rfl ?_ | refine Tk.exit (WkP.wk W2) rfl ?_ | refine Tk.label (WkP.wk W2) ?_))
    exact Tk.fall W2.wk (TkR.leave0 W2.wk (hP ▸ b22) (h _ _ ⟨T.lk, T.deaf, T.pas, ⟨T.kept.job, T.kept.wk, T.kept.me, T.kept.sc⟩⟩))
  refine do43 c.fin hP c.O A1 hdf b44 back fun w' fr' cs' hv' hM => ?_
  have M : Mk E i (l.grow r (r + 1)) (((l.grow r (r + 1)).mu 0 (some .held) none).begin E 0) := ⟨⟨A.i0, A.kK, A.live, rfl, A.ch, A.gr, A.rel, rfl⟩, rfl, hdf, ⟨rfl, rfl, rfl, rfl⟩⟩
  refine made44 c M ⟨hbox.1, by rw [hv'.2 r hbox.1]; exact hbox.2⟩ ?_ fun l2 w2 S ps M2 hrow hkn => hM _ _ ⟨M2.lk, M2.run, M2.deaf, M2.kept, fun G w₃ t hg hact hlo hv3 => c.say M2 hrow hkn hg hact hlo hv3⟩
  show E.kn0 0 _ (adr C 3) = _
  unfold Geo.kn0
  rw [c.ini]
  rfl
end Go.Co.F1

namespace Go.Co
open Go Go.Conc
theorem pure_index {P : Program} {env : Nv} {o : Oper} {t e : TypeId} {x y : Operand} {b off len cap : Nat} {k : IntKind} {m : Int} (ho : o.op = .indexAddr t x y) (hu : P.underlying t = some (.slice e)) (hz : P.cellsOf e = 1) (hx : env.ev x = some (.slice (some ⟨b, off, none⟩) len cap)) (hy : env.ev y = some (.int k m)) (hm : 0 ≤ m ∧ m < len) :
    PureOp P env o (.pointer (some ⟨b, off + m.toNat, none⟩)) := fun n a ha w => by
  have hi : ∃ i, P.info? e = some i := by
    unfold Program.cellsOf at hz
    cases hi : P.info? e with
    | none => simp [hi] at hz
    | some i => exact ⟨i, rfl⟩
  obtain ⟨inf, hi⟩ := hi
  have h1 := sizeOf_run hi w
  rw [hz] at h1
  have hadd : (⟨b, off, none⟩ : Addr).add m.toNat = ⟨b, off + m.toNat, none⟩ := by simp [Addr.add]
  constructor <;> simp [execOp, ho, ha.ev hx, ha.ev hy, Instr.indexAt, asIntOf, run_underlying hu, h1, hm, hadd, events_underlying, events_sizeOf]
end Go.Co
namespace Go.Co.F1
open Go Go.Conc Go.Proofs
open Go.Co
open Go.ConcN (upd upd_ne upd_same)
variable {E : Geo} {N i : Nat} {l : Lo} {w : World}
set_option maxRecDepth 10000
noncomputable def c15 : Code := (Try.f15.body).getD .skip
theorem b15 : Bod Try.prog 15 24 c15 #[.tmp 4] := ⟨Try.f15, Try.func15, by decide +kernel, rfl, rfl, rfl⟩
theorem q15 : (Try.prog.funcs[15]?).any (·.norace) = false := by decide +kernel
structure At (E : Geo) (i : Nat) (C r : Nat) (l l' : Lo) (p : Nat) : Prop where
  thru : Thru E i 0 l l'
  kn : ∃ R cap, l'.kn (adr C 3) = some (.slice (some (adr R 0)) 19 cap) ∧ l'.kn (adr R r) = some (ptr p 0)
theorem Thru.kn {k : Nat} {l l' : Lo} {kn : Addr → Option Value} (h : Thru E i k l l') : Thru E i k l { l' with kn := kn } := ⟨⟨h.lk.i0, h.lk.kK, h.lk.live, h.lk.mr, h.lk.ch, h.lk.gr, h.lk.rel, h.lk.run⟩, h.deaf, h.pas, ⟨h.kept.job, h.kept.wk, h.kept.me, h.kept.sc⟩⟩
theorem CG.tab {C H : Nat} {hv : Value} (c : CG E C H hv) {G : Gh} {t : Trace} (hg : GI E G w t) (hact : (G.th i).live = true) (hpas : (G.th i).pas 0 = true) : ∃ R cap ps, CTab C H R cap ps G.app G.cv := by
  have hd := (hg.k.pas i 0 hact hpas).2
  have hm := hg.more
  rw [c.app] at hm
  rcases hm.2 with ⟨x, _⟩ | ⟨_, x⟩
  · rw [hd] at x; cases x
  · exact x
theorem TkO.gload {P : Program} {b : Frame} {n : Nat} {env : Nv} {ds : List Deferred} {k : List Item} {cs : List Frame} {ops : Array Oper} {j : Nat} {o : Oper} (W : WkP P E l b) {t : TypeId} {x : Operand} {ad : Addr} {d : Nat} (hq : (P.funcs[b.fn]?).any (·.norace) = false) (hlive : l.live = true) (hrel : l.rel = none) (ho : ops[j]? = some o) (hw : wantE ops env o = some true) (hdd : o.dst = some d) (hd : Nat.blt d n = true) (hop : o.op = .load t x) (ht : isAggT P t = some false) (hx : env.ev x = some (.pointer (some ad)))
    (h : ∀ G w₁ u, GI E G w₁ u → (G.th i).live = true → G.th i = l → View l.own w w₁ → ∃ v dd, G.app ad = some (v, dd) ∧ (dd = .ro ∨ (∃ k, dd = .pub k ∧ (G.th i).pas k = true) ∨ (∃ k, dd = .prot k ∧ (G.th i).run = some k)) ∧
      TkO E N i { l with kn := fun x => if x = ad then some v else l.kn x } w₁ b n ((d, v) :: env) ds ops (j + 1) k cs) :
    TkO E N i l w b n env ds ops j k cs := by
  refine TkO.open ho (Tk.sload W.wk (by rw [W.hP]; exact hq) ho hw (by rw [hdd]; exact hd) hop (by rw [W.hP]; exact ht) hx fun G w₁ u hg hact hlo hv => ?_)
  obtain ⟨v, dd, h1, h2, h3⟩ := h G w₁ u hg hact hlo hv
  refine ⟨v, _, false, (hg.m.app _ _ _ h1).1, fun fn pos => ?_, TkL.same (by rw [hdd]; exact h3)⟩
  obtain ⟨G', d, cc⟩ := hg.load fn pos hact (by rw [hlo]; exact hrel) h1 h2
  rw [hlo] at d
  exact ⟨G', d, cc, hlive, fun e => by cases e⟩
set_option maxHeartbeats 4000000 in
/-- at, of a reason that is one. -/
theorem at15 {C H r : Nat} {hv : Value} (c : CG E C H hv) (A : Lk E i 0 l none) (hdf : l.deaf = 0) (hr : 0 < r ∧ r < 19) {fr : Frame} {cs : List Frame}
    (h : ∀ l' w' p, At E i C r l l' p → Tr E N i l' (Conc.G (fr.finish (ptr p 0)) cs) w') :
    Tr E N i l (Conc.G (Frame.enter Try.prog 15 #[ptr C 0, .int .u8 r] .normal) (fr :: cs)) w := by
  have hP := c.P
  have W : WkP Try.prog E l (base 15) := ⟨⟨c.fin, A.ch, by decide⟩, hP⟩
  refine Tr.enterP hP b15 (Nat.le_of_ble_eq_true rfl) ?_
  have hz : intV .eql .u8 (r : Int) 0 = some (.bool false) := by
    simp only [intV, Option.some.injEq, Value.bool.injEq]; simp; omega
  have hge : intV .geq .u8 (r : Int) 19 = some (.bool false) := by
    simp only [intV, Option.some.injEq, Value.bool.injEq]; simp; omega
  repeat (first
    | refine TkO.pureS W (by rfl) (by rfl) (by rfl) (by rfl) (by first | exact pure_int rfl rfl rfl hz | exact pure_int rfl rfl rfl hge) ?_
    | refine TkO.done W (by rfl) ?_ | refine TkO.unwantedS W (by rfl) (by rfl) (by rfl) (by rfl) ?_ | refine TkO.pureS W (by rfl) (by rfl) (by rfl) (by rfl) (by first | exact pure_move (.inl rfl) rfl | exact pure_move (.inr rfl) rfl | exact pure_nilCheck rfl rfl | exact pure_field rfl rfl (by rfl) rfl (by decide +kernel) | exact pure_int rfl rfl rfl rfl | exact pure_not rfl rfl | exact pure_pickT rfl rfl rfl | exact pure_pickF rfl rfl rfl | exact pure_shift rfl rfl rfl rfl | exact pure_eqlNil rfl rfl rfl (by rfl) | exact pure_conv rfl rfl (by rfl) (by rfl)) ?_ | refine Tk.seq (WkP.wk W) ?_ | refine Tk.reg W ?_ | refine Tk.skip (WkP.wk W) ?_ | refine Tk.block (WkP.wk W) ?_ | refine Tk.condT (WkP.wk W) rfl ?_ | refine Tk.condF (WkP.wk W) rfl ?_ | refine Tk.exit (WkP.wk W) rfl ?_ | refine Tk.label (WkP.wk W) ?_)
  refine TkO.call W (by rfl) (by rfl) (by rfl) (by rfl) b22 rfl fun fr1 hk1 => ?_
  refine ready22 c A hdf fun l1 w1 T => hk1 _ _ _ (TkO.lay (rfl : Nv.put _ _ _ = (_, _) :: _) ?_)
  have W1 : WkP Try.prog E l1 (base 15) := wkp W T.lk.ch
  (repeat (first | refine TkO.done W1 (by rfl) ?_ | refine TkO.unwantedS W1 (by rfl) (by rfl) (by rfl) (by rfl) ?_ | refine TkO.pureS W1 (by rfl) (by rfl) (by rfl) (by rfl) (by first | exact pure_move (.inl rfl) rfl | exact pure_move (.inr rfl) rfl | exact pure_nilCheck rfl rfl | exact pure_field rfl rfl (by rfl) rfl (by decide +kernel) | exact pure_int rfl rfl rfl rfl | exact pure_not rfl rfl | exact pure_pickT rfl rfl rfl | exact pure_pickF rfl rfl rfl | exact pure_shift rfl rfl rfl rfl | exact pure_eqlNil rfl rfl rfl (by rfl) | exact pure_conv rfl rfl (by rfl) (by rfl)) ?_ | refine Tk.seq (WkP.wk W1) ?_ | refine Tk.reg W1 ?_ | refine Tk.skip (WkP.wk W1) ?_ | refine Tk.block (WkP.wk W1) ?_ | refine Tk.condT (WkP.wk W1) rfl ?_ | refine Tk.condF (WkP.wk W1) rfl ?_ | refine Tk.exit (WkP.wk W1) rfl ?_ | refine Tk.label (WkP.wk W1) ?_))
  refine TkO.gload W1 (ad := adr C 3) q15 T.lk.live T.lk.rel (by rfl) (by rfl) (by rfl) (by rfl) (by rfl) (by rfl) (by rfl) fun G w₂ u hg hact hlo hv => ?_
  obtain ⟨R, cap, ps, tb⟩ := c.tab hg hact (by rw [hlo]; exact T.pas)
  refine ⟨_, _, tb.s, .inr (.inl ⟨0, rfl, by rw [hlo]; exact T.pas⟩), ?_⟩
  have W2 : WkP Try.prog E { l1 with kn := fun x => if x = adr C 3 then some (.slice (some (adr R 0)) 19 cap) else l1.kn x } (base 15) := wkp W T.lk.ch
  (repeat (first | refine TkO.done W2 (by rfl) ?_ | refine TkO.unwantedS W2 (by rfl) (by rfl) (by rfl) (by rfl) ?_ | refine TkO.pureS W2 (by rfl) (by rfl) (by rfl) (by rfl) (by first | exact pure_move (.inl rfl) rfl | exact pure_move (.inr rfl) rfl | exact pure_nilCheck rfl rfl | exact pure_field rfl rfl (by rfl) rfl (by decide +kernel) | exact pure_int rfl rfl rfl rfl | exact pure_not rfl rfl | exact pure_pickT rfl rfl rfl | exact pure_pickF rfl rfl rfl | exact pure_shift rfl rfl rfl rfl | exact pure_eqlNil rfl rfl rfl (by rfl) | exact pure_conv rfl rfl (by rfl) (by rfl)) ?_ | refine Tk.seq (WkP.wk W2) ?_ | refine Tk.reg W2 ?_ | refine Tk.skip (WkP.wk W2) ?_ | refine Tk.block (WkP.wk W2) ?_ | refine Tk.condT (WkP.wk W2) rfl ?_ | refine Tk.condF (WkP.wk W2) rfl ?_ | refine Tk.exit (WkP.wk W2) rfl ?_ | refine Tk.label (WkP.wk W2) ?_))
  refine TkO.pureS W2 (by rfl) (by rfl) (by rfl) (by rfl) (pure_index rfl (by rfl) (by decide +kernel) rfl rfl (by omega)) ?_
  have e0 : (0 + ((r : Int)).toNat) = r := by omega
  rw [e0]
  refine TkO.gload W2 (ad := adr R r) q15 T.lk.live T.lk.rel (by rfl) (by rfl) (by rfl) (by rfl) (by rfl) (by rfl) (by rfl) fun G w₃ u hg hact hlo hv3 => ?_
  have hkR : (G.th i).kn (adr C 3) = some (.slice (some (adr R 0)) 19 cap) := by rw [hlo]; simp
  obtain ⟨R', cap', ps', tb'⟩ := c.tab hg hact (by rw [hlo]; exact T.pas)
  obtain ⟨d, hd, _⟩ := hg.k.kn i _ _ hact hkR
  have hRR : R' = R := by
    rw [tb'.s] at hd; simp only [Option.some.injEq, Prod.mk.injEq, Value.slice.injEq] at hd
    have := hd.1.1; simp at this; exact this
  subst hRR
  have hlt : r < ps'.length := by rw [tb'.len]; exact hr.2
  obtain ⟨p1, p2⟩ := tb'.r r ps'[r] (List.getElem?_eq_getElem hlt)
  refine ⟨_, _, p1, .inr (.inl ⟨0, rfl, by rw [hlo]; exact T.pas⟩), ?_⟩
  have W3 : WkP Try.prog E { { l1 with kn := fun x => if x = adr C 3 then some (.slice (some (adr R' 0)) 19 cap) else l1.kn x } with kn := fun x => if x = adr R' r then some (ptr ps'[r] 0) else if x = adr C 3 then some (.slice (some (adr R' 0)) 19 cap) else l1.kn x } (base 15) := wkp W T.lk.ch
  (repeat (first | refine TkO.done W3 (by rfl) ?_ | refine TkO.unwantedS W3 (by rfl) (by rfl) (by rfl) (by rfl) ?_ | refine TkO.pureS W3 (by rfl) (by rfl) (by rfl) (by rfl) (by first | exact pure_move (.inl rfl) rfl | exact pure_move (.inr rfl) rfl | exact pure_nilCheck rfl rfl | exact pure_field rfl rfl (by rfl) rfl (by decide +kernel) | exact pure_int rfl rfl rfl rfl | exact pure_not rfl rfl | exact pure_pickT rfl rfl rfl | exact pure_pickF rfl rfl rfl | exact pure_shift rfl rfl rfl rfl | exact pure_eqlNil rfl rfl rfl (by rfl) | exact pure_conv rfl rfl (by rfl) (by rfl)) ?_ | refine Tk.seq (WkP.wk W3) ?_ | refine Tk.reg W3 ?_ | refine Tk.skip (WkP.wk W3) ?_ | refine Tk.block (WkP.wk W3) ?_ | refine Tk.condT (WkP.wk W3) rfl ?_ | refine Tk.condF (WkP.wk W3) rfl ?_ | refine Tk.exit (WkP.wk W3) rfl ?_ | refine Tk.label (WkP.wk W3) ?_))
  refine Tk.ret W3.wk (TkR.leave1 W3.wk (hP ▸ b15) rfl (h _ _ _ ⟨T.kn, R', cap, ?_, ?_⟩))
  · show (if adr C 3 = adr R' r then _ else _) = _
    rw [if_neg (fun e => tb'.RC.1 (by cases e; rfl))]; simp
  · simp
set_option maxHeartbeats 4000000 in
/-- at, of what is none. -/
theorem at15N {C r : Nat} (hf : E.FinV) (hP : E.P = Try.prog) (hch : l.ch = .no) (hr : r = 0 ∨ 19 ≤ r) {fr : Frame} {cs : List Frame}
    (h : Tr E N i l (Conc.G (fr.finish (.pointer none)) cs) w) :
    Tr E N i l (Conc.G (Frame.enter Try.prog 15 #[ptr C 0, .int .u8 r] .normal) (fr :: cs)) w := by
  have W : WkP Try.prog E l (base 15) := ⟨⟨hf, hch, by decide⟩, hP⟩
  refine Tr.enterP hP b15 (Nat.le_of_ble_eq_true rfl) ?_
  rcases hr with rfl | hr
  · (repeat (first | refine TkO.done W (by rfl) ?_ | refine TkO.unwantedS W (by rfl) (by rfl) (by rfl) (by rfl) ?_ | refine TkO.pureS W (by rfl) (by rfl) (by rfl) (by rfl) (by first | exact pure_move (.inl rfl) rfl | exact pure_move (.inr rfl) rfl | exact pure_nilCheck rfl rfl | exact pure_field rfl rfl (by rfl) rfl (by decide +kernel) | exact pure_int rfl rfl rfl rfl | exact pure_not rfl rfl | exact pure_pickT rfl rfl rfl | exact pure_pickF rfl rfl rfl | exact pure_shift rfl rfl rfl rfl | exact pure_eqlNil rfl rfl rfl (by rfl) | exact pure_conv rfl rfl (by rfl) (by rfl)) ?_ | refine Tk.seq (WkP.wk W) ?_ | refine Tk.reg W ?_ | refine Tk.skip (WkP.wk W) ?_ | refine Tk.block (WkP.wk W) ?_ | refine Tk.condT (WkP.wk W) rfl ?_ | refine Tk.condF (WkP.wk W) rfl ?_ | refine Tk.exit (WkP.wk W) rfl ?_ | refine Tk.label (WkP.wk W) ?_))
    exact Tk.ret W.wk (TkR.leave1 W.wk (hP ▸ b15) rfl h)
  · have hz : intV .eql .u8 (r : Int) 0 = some (.bool false) := by
      simp only [intV, Option.some.injEq, Value.bool.injEq]; simp; omega
    have hge : intV .geq .u8 (r : Int) 19 = some (.bool true) := by
      simp only [intV, Option.some.injEq, Value.bool.injEq]; simp; omega
    repeat (first
      | refine TkO.pureS W (by rfl) (by rfl) (by rfl) (by rfl) (by first | exact pure_int rfl rfl rfl hz | exact pure_int rfl rfl rfl hge) ?_
      | refine TkO.done W (by rfl) ?_ | refine TkO.unwantedS W (by rfl) (by rfl) (by rfl) (by rfl) ?_ | refine TkO.pureS W (by rfl) (by rfl) (by rfl) (by rfl) (by first | exact pure_move (.inl rfl) rfl | exact pure_move (.inr rfl) rfl | exact pure_nilCheck rfl rfl | exact pure_field rfl rfl (by rfl) rfl (by decide +kernel) | exact pure_int rfl rfl rfl rfl | exact pure_not rfl rfl | exact pure_pickT rfl rfl rfl | exact pure_pickF rfl rfl rfl | exact pure_shift rfl rfl rfl rfl | exact pure_eqlNil rfl rfl rfl (by rfl) | exact pure_conv rfl rfl (by rfl) (by rfl)) ?_ | refine Tk.seq (WkP.wk W) ?_ | refine Tk.reg W ?_ | refine Tk.skip (WkP.wk W) ?_ | refine Tk.block (WkP.wk W) ?_ | refine Tk.condT (WkP.wk W) rfl ?_ | refine Tk.condF (WkP.wk W) rfl ?_ | refine Tk.exit (WkP.wk W) rfl ?_ | refine Tk.label (WkP.wk W) ?_)
    exact Tk.ret W.wk (TkR.leave1 W.wk (hP ▸ b15) rfl h)
noncomputable def c7 : Code := (Try.f7.body).getD .skip
theorem b7 : Bod Try.prog 7 13 c7 #[.tmp 4] := ⟨Try.f7, Try.func7, by decide +kernel, rfl, rfl, rfl⟩
theorem pure_eqlNil2 {P : Program} {env : Nv} {o : Oper} {t yt te : TypeId} {x y : Operand} (ho : o.op = .binOp .eql t x y yt) (hx : env.ev x = some (.pointer none)) (hy : env.ev y = some (.pointer none)) (hu : P.underlying t = some (.pointer te)) : PureOp P env o (.bool true) := fun n a ha w => by
  have h1 := run_underlying hu w
  have e : Op.maxDepth = 9999 + 1 := rfl
  have hq : (Op.equal t (.pointer none) (.pointer none)).run P w = .ok true w ∧ (Op.equal t (.pointer none) (.pointer none)).events P w #[] = #[] := by
    unfold Op.equal
    rw [e]
    generalize 9999 = D
    constructor
    · simp [Op.equalIn, h1, samePointer]
    · simp [Op.equalIn, h1, events_underlying, samePointer]
  have e : execOp a.eval o = (do eqGuard .eql t x y (.pointer none) (.pointer none); let r ← binOp .eql t (.pointer none) (.pointer none); pure (.value r)) := by
    unfold execOp; rw [ho]; simp only [ha.ev hx, ha.ev hy]; rfl
  have e2 : eqGuard .eql t x y (.pointer none) (.pointer none) = pure () := rfl
  have e3 : binOp .eql t (.pointer none) (.pointer none) = (do pure (.bool (← Op.equal t (.pointer none) (.pointer none)))) := rfl
  rw [e, e2, e3]
  constructor
  · simp only [Sem.run_bind, Sem.run_pure, Result.andThen_ok, hq.1]
  · simp only [Sem.events_bind, Sem.run_bind, Sem.run_pure, Sem.events_pure, Result.andThen_ok, Result.evThen_ok, hq.1, hq.2]
structure Free (E : Geo) (i : Nat) (l l' : Lo) : Prop where
  lk : Lk E i 0 l' none
  deaf : l'.deaf = 0
  wk : l'.wk = l.wk
  sc : l'.sc = l.sc
  job : ∀ j, l'.job = some j → E.rs j = none
theorem CG.countOk {C H r p : Nat} {hv : Value} (c : CG E C H hv) (hnj : E.nj < 4611686018427387904) {G : Gh} {t : Trace} (hg : GI E G w t) (hact : (G.th i).live = true) (hpas : (G.th i).pas 0 = true) (hr : r < 19) (hkn : ∃ R cap, (G.th i).kn (adr C 3) = some (.slice (some (adr R 0)) 19 cap) ∧ (G.th i).kn (adr R r) = some (ptr p 0)) :
    ∃ v : Int, G.app (adr p 0) = some (.int .i64 v, .ctr 0) ∧ E.App (setApp G.app (adr p 0) (.int .i64 (IntKind.i64.wrap (v + 1)), .ctr 0)) G.dn (upd G.cv r (G.cv r + 1)) := by
  obtain ⟨R, cap, k1, k2⟩ := hkn
  obtain ⟨R', cap', ps, tb⟩ := c.tab hg hact hpas
  have hRR : R' = R := by
    obtain ⟨d, hd, _⟩ := hg.k.kn i _ _ hact k1
    rw [tb.s] at hd; simp only [Option.some.injEq, Prod.mk.injEq, Value.slice.injEq] at hd
    have := hd.1.1; simp at this; exact this
  subst hRR
  have hlt : r < ps.length := by rw [tb.len]; exact hr
  have hpr : ps[r]? = some p := by
    obtain ⟨d, hd, _⟩ := hg.k.kn i _ _ hact k2
    rw [List.getElem?_eq_getElem hlt]
    obtain ⟨p1, _⟩ := tb.r r ps[r] (List.getElem?_eq_getElem hlt)
    rw [p1] at hd
    simp only [Option.some.injEq, Prod.mk.injEq, Value.pointer.injEq] at hd
    have := hd.1; simp at this; rw [this]
  obtain ⟨_, p2⟩ := tb.r r p hpr
  have hcv : G.cv r ≤ E.nj := by
    have h1 := hg.j.cnt r
    have h2 : ∀ m, sentTo E.rs r m ≤ m := fun m => by
      unfold sentTo
      induction m with
      | zero => simp [Go.ConcN.sumTo]
      | succ m ih => simp only [Go.ConcN.sumTo]; split <;> omega
    have h3 := h2 G.pos
    have h4 := hg.j.posn
    omega
  have hw : IntKind.i64.wrap ((G.cv r : Int) + 1) = ((G.cv r + 1 : Nat) : Int) := by
    rw [IntKind.wrap_i64]; omega
  refine ⟨(G.cv r : Int), p2, ?_⟩
  rw [hw]
  have hm := hg.more
  rw [c.app] at hm ⊢
  have hpm : p ∈ ps := List.mem_of_getElem? hpr
  have hset : ∀ a, a ≠ adr p 0 → setApp G.app (adr p 0) (.int .i64 ((G.cv r + 1 : Nat) : Int), .ctr 0) a = G.app a := fun a ha => by unfold setApp; rw [if_neg ha]
  refine ⟨⟨hm.1.1, by rw [hset _ (fun e => tb.pC.2 (by cases e; exact hpm))]; exact hm.1.2⟩, .inr ⟨(hg.k.pas i 0 hact hpas).2, R', cap', ps, ⟨tb.len, tb.nodup, tb.RC, tb.pC, by rw [hset _ (fun e => by cases e)]; exact tb.s, fun r2 p3 hp3 => ?_⟩⟩⟩
  obtain ⟨q1, q2⟩ := tb.r r2 p3 hp3
  refine ⟨by rw [hset _ (fun e => tb.RC.2.2 (by cases e; exact hpm))]; exact q1, ?_⟩
  by_cases e : r2 = r
  · subst e
    rw [hpr] at hp3; cases hp3
    unfold setApp; rw [if_pos rfl, upd_same]
  · have hne : p3 ≠ p := fun e2 => e (by
      subst e2
      have h1 := (List.getElem?_eq_some_iff.1 hp3)
      have h2 := (List.getElem?_eq_some_iff.1 hpr)
      obtain ⟨a1, b1⟩ := h1
      obtain ⟨a2, b2⟩ := h2
      exact (List.getElem_inj tb.nodup).1 (b1.trans b2.symm))
    rw [hset _ (fun e2 => hne (by cases e2; rfl)), upd_ne _ _ e]; exact q2
set_option maxHeartbeats 4000000 in
/-- Counter.Add by one who has a reason in hand. -/
theorem add7 {C H r j : Nat} {hv : Value} (c : CG E C H hv) (hnj : E.nj < 4611686018427387904) (A : Lk E i 0 l none) (hdf : l.deaf = 0) (hjob : l.job = some j) (hrs : E.rs j = if 0 < r ∧ r < 19 then some r else none) {fr : Frame} {cs : List Frame}
    (h : ∀ l' w' v, Free E i l l' → Tr E N i l' (Conc.G (fr.finish v) cs) w') :
    Tr E N i l (Conc.G (Frame.enter Try.prog 7 #[ptr C 0, .int .u8 r] .normal) (fr :: cs)) w := by
  have hP := c.P
  have W : WkP Try.prog E l (base 7) := ⟨⟨c.fin, A.ch, by decide⟩, hP⟩
  refine Tr.enterP hP b7 (Nat.le_of_ble_eq_true rfl) ?_
  (repeat (first | refine TkO.done W (by rfl) ?_ | refine TkO.unwantedS W (by rfl) (by rfl) (by rfl) (by rfl) ?_ | refine TkO.pureS W (by rfl) (by rfl) (by rfl) (by rfl) (by first | exact pure_move (.inl rfl) rfl | exact pure_move (.inr rfl) rfl | exact pure_nilCheck rfl rfl | exact pure_field rfl rfl (by rfl) rfl (by decide +kernel) | exact pure_int rfl rfl rfl rfl | exact pure_not rfl rfl | exact pure_pickT rfl rfl rfl | exact pure_pickF rfl rfl rfl | exact pure_shift rfl rfl rfl rfl | exact pure_eqlNil rfl rfl rfl (by rfl) | exact pure_conv rfl rfl (by rfl) (by rfl)) ?_ | refine Tk.seq (WkP.wk W) ?_ | refine Tk.reg W ?_ | refine Tk.skip (WkP.wk W) ?_ | refine Tk.block (WkP.wk W) ?_ | refine Tk.condT (WkP.wk W) rfl ?_ | refine Tk.condF (WkP.wk W) rfl ?_ | refine Tk.exit (WkP.wk W) rfl ?_ | refine Tk.label (WkP.wk W) ?_))
  refine TkO.call W (by rfl) (by rfl) (by rfl) (by rfl) b15 rfl fun fr1 hk1 => ?_
  by_cases hr : 0 < r ∧ r < 19
  · rw [if_pos hr] at hrs
    refine at15 c A hdf hr fun l1 w1 p T => hk1 _ _ _ (TkO.lay (rfl : Nv.put _ _ _ = (_, _) :: _) ?_)
    have W1 : WkP Try.prog E l1 (base 7) := wkp W T.thru.lk.ch
    (repeat (first | refine TkO.done W1 (by rfl) ?_ | refine TkO.unwantedS W1 (by rfl) (by rfl) (by rfl) (by rfl) ?_ | refine TkO.pureS W1 (by rfl) (by rfl) (by rfl) (by rfl) (by first | exact pure_move (.inl rfl) rfl | exact pure_move (.inr rfl) rfl | exact pure_nilCheck rfl rfl | exact pure_field rfl rfl (by rfl) rfl (by decide +kernel) | exact pure_int rfl rfl rfl rfl | exact pure_not rfl rfl | exact pure_pickT rfl rfl rfl | exact pure_pickF rfl rfl rfl | exact pure_shift rfl rfl rfl rfl | exact pure_eqlNil rfl rfl rfl (by rfl) | exact pure_conv rfl rfl (by rfl) (by rfl)) ?_ | refine Tk.seq (WkP.wk W1) ?_ | refine Tk.reg W1 ?_ | refine Tk.skip (WkP.wk W1) ?_ | refine Tk.block (WkP.wk W1) ?_ | refine Tk.condT (WkP.wk W1) rfl ?_ | refine Tk.condF (WkP.wk W1) rfl ?_ | refine Tk.exit (WkP.wk W1) rfl ?_ | refine Tk.label (WkP.wk W1) ?_))
    refine TkO.call W1 (by rfl) (by rfl) (by rfl) (by rfl) b16 rfl fun fr2 hk2 => ?_
    refine add16 c.fin hP T.thru.lk.live T.thru.lk.ch T.thru.lk.rel (T.thru.kept.job.trans hjob) hrs T.thru.pas (fun G w₂ t hg hact hlo => ?_) fun v w2 _ => hk2 _ _ _ (TkO.lay (rfl : Nv.put _ _ _ = (_, _) :: _) ?_)
    · exact c.countOk hnj hg hact (by rw [hlo]; exact T.thru.pas) hr.2 (by rw [hlo]; exact T.kn)
    · have W2 : WkP Try.prog E { l1 with job := none } (base 7) := wkp W T.thru.lk.ch
      (repeat (first | refine TkO.done W2 (by rfl) ?_ | refine TkO.unwantedS W2 (by rfl) (by rfl) (by rfl) (by rfl) ?_ | refine TkO.pureS W2 (by rfl) (by rfl) (by rfl) (by rfl) (by first | exact pure_move (.inl rfl) rfl | exact pure_move (.inr rfl) rfl | exact pure_nilCheck rfl rfl | exact pure_field rfl rfl (by rfl) rfl (by decide +kernel) | exact pure_int rfl rfl rfl rfl | exact pure_not rfl rfl | exact pure_pickT rfl rfl rfl | exact pure_pickF rfl rfl rfl | exact pure_shift rfl rfl rfl rfl | exact pure_eqlNil rfl rfl rfl (by rfl) | exact pure_conv rfl rfl (by rfl) (by rfl)) ?_ | refine Tk.seq (WkP.wk W2) ?_ | refine Tk.reg W2 ?_ | refine Tk.skip (WkP.wk W2) ?_ | refine Tk.block (WkP.wk W2) ?_ | refine Tk.condT (WkP.wk W2) rfl ?_ | refine Tk.condF (WkP.wk W2) rfl ?_ | refine Tk.exit (WkP.wk W2) rfl ?_ | refine Tk.label (WkP.wk W2) ?_))
      exact Tk.ret W2.wk (TkR.leave1 W2.wk (hP ▸ b7) rfl (h _ _ _ ⟨⟨A.i0, A.kK, T.thru.lk.live, T.thru.lk.mr, T.thru.lk.ch, T.thru.lk.gr, T.thru.lk.rel, T.thru.lk.run⟩, T.thru.deaf, T.thru.kept.wk, T.thru.kept.sc, fun j hj => by cases hj⟩))
  · rw [if_neg hr] at hrs
    refine at15N c.fin hP A.ch (by omega) (hk1 _ _ _ (TkO.lay (rfl : Nv.put _ _ _ = (_, _) :: _) ?_))
    repeat (first
      | refine TkO.pureS W (by rfl) (by rfl) (by rfl) (by rfl) (by exact pure_eqlNil2 rfl rfl rfl (by rfl)) ?_
      | refine TkO.done W (by rfl) ?_ | refine TkO.unwantedS W (by rfl) (by rfl) (by rfl) (by rfl) ?_ | refine TkO.pureS W (by rfl) (by rfl) (by rfl) (by rfl) (by first | exact pure_move (.inl rfl) rfl | exact pure_move (.inr rfl) rfl | exact pure_nilCheck rfl rfl | exact pure_field rfl rfl (by rfl) rfl (by decide +kernel) | exact pure_int rfl rfl rfl rfl | exact pure_not rfl rfl | exact pure_pickT rfl rfl rfl | exact pure_pickF rfl rfl rfl | exact pure_shift rfl rfl rfl rfl | exact pure_eqlNil rfl rfl rfl (by rfl) | exact pure_conv rfl rfl (by rfl) (by rfl)) ?_ | refine Tk.seq (WkP.wk W) ?_ | refine Tk.reg W ?_ | refine Tk.skip (WkP.wk W) ?_ | refine Tk.block (WkP.wk W) ?_ | refine Tk.condT (WkP.wk W) rfl ?_ | refine Tk.condF (WkP.wk W) rfl ?_ | refine Tk.exit (WkP.wk W) rfl ?_ | refine Tk.label (WkP.wk W) ?_)
    exact Tk.ret W.wk (TkR.leave1 W.wk (hP ▸ b7) rfl (h _ _ _ ⟨A, hdf, rfl, rfl, fun j' hj => by rw [hjob] at hj; cases hj; exact hrs⟩))
end Go.Co.F1

namespace Go.Co
open Go Go.Conc
def Qt (P : Program) (d : Nat) (g : Goroutine) : Prop := ∃ n, QuitsD P n d g
section
variable {P : Program} {d : Nat}
theorem Qt.ctl {g g' : Goroutine} (hs : g.status = .running) (h : ∀ w, stepG P false g w = .go g' w #[]) (hq : Qt P d g') : Qt P d g := let ⟨n, hn⟩ := hq; ⟨n + 1, hn.ctl hs h⟩
theorem Qt.done {g : Goroutine} (h : g.status = .finished) : Qt P 0 g := ⟨0, h, rfl⟩
end
def Qk (P : Program) (d : Nat) (b : Frame) (n : Nat) (env : Nv) (ds : List Deferred) (k : List Item) (cs : List Frame) : Prop := ∀ a, Has n env a → a.defers = ds → Qt P d (G (b.at a k) cs)
def QO (P : Program) (d : Nat) (b : Frame) (n : Nat) (env : Nv) (ds : List Deferred) (ops : Array Oper) (j : Nat) (k : List Item) (cs : List Frame) : Prop := Qk P d b n env ds (.inRegion ops (List.range' j (ops.size - j)) :: k) cs
def QR (P : Program) (d : Nat) (b : Frame) (n : Nat) (env : Nv) (ds : List Deferred) (cs : List Frame) : Prop := ∀ a todo, Has n env a → a.defers = ds → Qt P d (G { b.at a todo with mode := .returning } cs)
section
variable {P : Program} {d : Nat} {b : Frame} {n : Nat} {env : Nv} {ds : List Deferred} {k : List Item} {cs : List Frame} {ops : Array Oper} {j : Nat} {o : Oper}
theorem Qk.skip (h : Qk P d b n env ds k cs) : Qk P d b n env ds (.code .skip :: k) cs := fun a ha hd => (h a ha hd).ctl rfl fun _ => stepG_skip
theorem Qk.inBlock {x : Nat} (h : Qk P d b n env ds k cs) : Qk P d b n env ds (.inBlock x :: k) cs := fun a ha hd => (h a ha hd).ctl rfl fun _ => stepG_inBlock
theorem Qk.seq {x y : Code} (h : Qk P d b n env ds (.code x :: .code y :: k) cs) : Qk P d b n env ds (.code (.seq x y) :: k) cs := fun a ha hd => (h a ha hd).ctl rfl fun _ => stepG_seq
theorem Qk.inLoop {c : Code} (h : Qk P d b n env ds (.code c :: .inLoop c :: k) cs) : Qk P d b n env ds (.inLoop c :: k) cs := fun a ha hd => (h a ha hd).ctl rfl fun _ => stepG_inLoop
theorem Qk.exit {x : Nat} {k' : List Item} (hx : exitTo x k = some k') (h : Qk P d b n env ds k' cs) : Qk P d b n env ds (.code (.exit x) :: k) cs := fun a ha hd => (h a ha hd).ctl rfl fun _ => stepG_exit hx
theorem Qk.condT {c : Operand} {x y : Code} (hc : env.ev c = some (.bool true)) (h : Qk P d b n env ds (.code x :: k) cs) : Qk P d b n env ds (.code (.cond c x y) :: k) cs := fun a ha hd => (h a ha hd).ctl rfl fun _ => stepG_cond (ha.ev hc)
theorem Qk.condF {c : Operand} {x y : Code} (hc : env.ev c = some (.bool false)) (h : Qk P d b n env ds (.code y :: k) cs) : Qk P d b n env ds (.code (.cond c x y) :: k) cs := fun a ha hd => (h a ha hd).ctl rfl fun _ => stepG_cond (ha.ev hc)
theorem Qk.reg {x : Nat} (h : QO P d b n env ds ops 0 k cs) : Qk P d b n env ds (.code (.region x ops false) :: k) cs := fun a ha hd => by
  have e : List.range ops.size = List.range' 0 (ops.size - 0) := by rw [List.range_eq_range']; rfl
  refine (h a ha hd).ctl rfl fun _ => ?_
  rw [stepG_region, e]
theorem QO.done (ho : ops[j]? = none) (h : Qk P d b n env ds k cs) : QO P d b n env ds ops j k cs := by
  have hge := Array.getElem?_eq_none_iff.1 ho
  unfold QO
  rw [show ops.size - j = 0 by omega]
  exact fun a ha hd => (h a ha hd).ctl rfl fun _ => stepG_region_end
theorem QO.open (ho : ops[j]? = some o) (h : Qk P d b n env ds (.inRegion ops (j :: List.range' (j + 1) (ops.size - (j + 1))) :: k) cs) : QO P d b n env ds ops j k cs := by
  have hlt := (Array.getElem?_eq_some_iff.1 ho).1
  unfold QO
  rw [show ops.size - j = (ops.size - (j + 1)) + 1 by omega, List.range'_succ]
  exact h
theorem QO.pureS (hk : b.kind ≠ .early) {v : Value} {x : Nat} (ho : ops[j]? = some o) (hw : wantE ops env o = some true) (hdd : o.dst = some x) (hd : Nat.blt x n = true) (hp : PureOp P env o v) (h : QO P d b n ((x, v) :: env) ds ops (j + 1) k cs) : QO P d b n env ds ops j k cs := by
  refine QO.open ho fun a ha hds => ?_
  have h2 := ha.put (d := o.dst) (by rw [hdd]; exact hd) v
  refine (h (a.put o.dst v) (by rw [hdd] at h2 ⊢; exact h2) (by cases o.dst <;> exact hds)).ctl rfl fun w => ?_
  obtain ⟨h1, h2⟩ := hp n a ha w
  rw [stepG_value ho (ha.want hw) hk h1]
  unfold listed
  rw [h2, seen_none]
theorem QO.unwantedS {x : Nat} (ho : ops[j]? = some o) (hw : wantE ops env o = some false) (hdd : o.dst = some x) (hd : Nat.blt x n = true) (h : QO P d b n ((x, undef) :: env) ds ops (j + 1) k cs) : QO P d b n env ds ops j k cs := by
  refine QO.open ho fun a ha hds => ?_
  have h2 := ha.put (d := o.dst) (by rw [hdd]; exact hd) undef
  exact (h (a.put o.dst undef) (by rw [hdd] at h2 ⊢; exact h2) (by cases o.dst <;> exact hds)).ctl rfl fun w => stepG_unwanted ho (ha.want hw)
theorem Qk.ret (h : QR P d b n env ds cs) : Qk P d b n env ds (.code .ret :: k) cs := fun a ha hd => (h a _ ha hd).ctl rfl fun _ => stepG_ret'
theorem Qk.fall (h : QR P d b n env ds cs) : Qk P d b n env ds [] cs := fun a ha hd => (h a _ ha hd).ctl rfl fun _ => stepG_end
theorem QR.enable {f : FuncId} (he : Ent P f (fun _ => do Go.mark .enable; Pure.pure Extern.Race.none_)) (h : QR P d b n env ds cs) : QR P (d + 1) b n env (dcall f #[] :: ds) cs := fun a todo ha hds => by
  obtain ⟨fn, f1, f2, f3, f4, f5⟩ := he.out
  obtain ⟨m, hm⟩ := h ⟨a.tmps, ds⟩ todo ha rfl
  exact ⟨m + 1, QuitsD.unwind_mark .enable rfl (fun g e => by cases e) hds f1 f2 f3 f4 f5 hm⟩
theorem QR.leave0 {f : FuncId} {nt : Nat} {c : Code} {fr : Frame} (hb : Bod P f nt c #[]) (h : Qt P d (G (fr.finish (.tuple #[])) cs)) : QR P d (base f) n env [] (fr :: cs) := fun a todo ha hds => by
  obtain ⟨fn, f1, _, _, _, f5⟩ := hb.out
  exact h.ctl rfl fun w => stepG_leave (b := base f) rfl hds f1 (results_none f5 _ _ _) (events_results_none f5 _ _)
theorem QR.leaveD {f : FuncId} {nt : Nat} {c : Code} {fr : Frame} (hb : Bod P f nt c #[]) (hm : fr.mode = .returning) (h : Qt P d (G fr cs)) : QR P d (baseD f) n env [] (fr :: cs) := fun a todo ha hds => by
  obtain ⟨fn, f1, _, _, _, f5⟩ := hb.out
  exact h.ctl rfl fun w => stepG_leave_deferred (b := baseD f) rfl hds f1 (results_none f5 _ _ _) (events_results_none f5 _ _) hm
end
def birth (P : Program) : Frame := { (default : Frame) with fn := P.funcs.size, defers := [], mode := .panicking [goexitEntry] }
section
variable {P : Program} {d : Nat} {n : Nat} {env : Nv} {w : World}
theorem stepG_born {f : FuncId} {fn : Func} {c : Code} {args cap : Array Value} (hf : P.funcs[f]? = some fn) (hname : (fn.name == "runtime.NumGoroutine") = false) (hb : fn.body = some c) :
    stepG P false (born P { target := .fn (.func f) cap, args := args }) w = .go (G ((baseD f).at { tmps := args ++ cap ++ Array.replicate (fn.ntmps - (args ++ cap).size) undef, defers := [] } [.code c]) [birth P]) w #[] := by
  have h1 : ¬ fn.name = "runtime.NumGoroutine" := by simpa using hname
  rw [← enter_atD (args ++ cap) hf hb]
  simp [G, born, birth, stepG, unwind, callDeferred, invoke, callFunc, hf, h1, hb, GStep.after, seen_none, goexitEntry]
theorem stepG_leaveBorn {b : Frame} {a : Act} {fn : Func} {todo : List Item} {v : Value} (hn : b.kind = .deferred) (hd : a.defers = []) (hf : P.funcs[b.fn]? = some fn) (hr : (results fn a.tmps).run P w = .ok v w) (he : (results fn a.tmps).events P w #[] = #[]) :
    stepG P false (G { b.at a todo with mode := .returning } [birth P]) w = .go (G (birth P) []) w #[] := by
  simp [G, birth, stepG, unwind, doReturn, Frame.at, hn, hd, hf, hr, he, seen, GStep.after, goexitEntry]
theorem stepG_bornEnd : stepG P false (G (birth P) []) w = .go { frame := birth P, callers := [], status := .finished, dying := none } w #[] := by
  have ht : (default : Frame).todo = [] := rfl
  simp [G, birth, stepG, unwind, Frame.catches, goexitEntry]
  rw [ht]
end
end Go.Co
namespace Go.Co
open Go Go.Conc
variable {E : Geo} {N i : Nat} {l : Lo} {w : World}
section
variable {P : Program} {b : Frame} {n : Nat} {env : Nv} {ds : List Deferred} {k : List Item} {cs : List Frame} {ops : Array Oper} {j : Nat} {o : Oper} {f : FuncId} {ats : Array TypeId}
theorem TkO.callQ (W : WkP P E l b) {xs : Array Operand} {vs : List Value} {nt : Nat} {c : Code} {rs : Array ResultVar} {dd : Nat} (ho : ops[j]? = some o) (hw : wantE ops env o = some true) (hdd : o.dst = some dd) (hd : Nat.blt dd n = true) (hop : o.op = .call { callee := .value (.func f), args := xs, argTypes := ats }) (hb : Bod P f nt c rs)
    (hx : evsA env xs.toList = some vs) (h : ∀ fr : Frame, (∀ l' w' v, TkO E N i l' w' b n ((dd, v) :: env) ds ops (j + 1) k cs → Tr E N i l' (Conc.G (fr.finish v) cs) w') → (∀ d v, QO P d b n ((dd, v) :: env) ds ops (j + 1) k cs → Qt P d (Conc.G (fr.finish v) cs)) → Tr E N i l (Conc.G (Frame.enter P f vs.toArray .normal) (fr :: cs)) w) :
    TkO E N i l w b n env ds ops j k cs := by
  refine TkO.open ho ?_
  intro a ha hds
  obtain ⟨fn, f1, f2, f3, _⟩ := hb.out
  have hm : xs.map a.eval = vs.toArray := by
    apply Array.toList_inj.1
    simp only [Array.toList_map]
    exact ha.evsA hx
  have hfin : ∀ v, (b.at a (.inRegion ops (j :: List.range' (j + 1) (ops.size - (j + 1))) :: k)).finish v = b.at (a.put o.dst v) (.inRegion ops (List.range' (j + 1) (ops.size - (j + 1))) :: k) := fun v => by rw [Frame.finish_at, ho]; rfl
  have hput : ∀ v, Has n ((dd, v) :: env) (a.put o.dst v) ∧ (a.put o.dst v).defers = ds := fun v => by
    have := ha.put (d := o.dst) (by rw [hdd]; exact hd) v
    rw [hdd] at this ⊢
    exact ⟨this, hds⟩
  refine Tr.still W.wk.fin (runs_G _ _) (g' := Conc.G (Frame.enter P f vs.toArray .normal) (b.at a (.inRegion ops (j :: List.range' (j + 1) (ops.size - (j + 1))) :: k) :: cs)) rfl W.wk.ch (fun w₁ _ => ?_) (h _ (fun l' w' v hk => ?_) fun d v hk => ?_)
  · have hr := run_call_body (a := a) (P := P) (w := w₁) hop f1 f2 (by rw [f3]; rfl)
    rw [W.hP, stepG_enter ho (ha.want hw) W.wk.kind hr, hm]
    unfold listed
    rw [events_call_body hop f1 f2 (by rw [f3]; rfl), seen_none]
  · rw [hfin]; exact hk _ (hput v).1 (hput v).2
  · rw [hfin]; exact hk _ (hput v).1 (hput v).2
theorem TkR.callQ (W : Wk E l b) {args : Array Value} {nt : Nat} {c : Code} {rs : Array ResultVar} (hb : Bod E.P f nt c rs) (ha : args.size ≤ nt)
    (h : ∀ fr : Frame, fr.mode = .returning → (∀ l' w', TkR E N i l' w' b n env ds cs → Tr E N i l' (Conc.G fr cs) w') → (∀ d, QR E.P d b n env ds cs → Qt E.P d (Conc.G fr cs)) → Tk E N i l w (baseD f) nt (argsEnv args.toList 0) [] [.code c] (fr :: cs)) : TkR E N i l w b n env (dcall f args :: ds) cs := by
  intro a todo hh hds
  obtain ⟨fn, f1, f2, f3, f4, _⟩ := hb.out
  refine Tr.still W.fin (runs_G _ _) (g' := Conc.G ((baseD f).at { tmps := args ++ Array.replicate (fn.ntmps - args.size) undef, defers := [] } [.code c]) ({ b.at ⟨a.tmps, ds⟩ todo with mode := .returning } :: cs)) rfl W.ch (fun w₁ _ => stepG_unwind_enter hds f1 f2 f3) ?_
  rw [f4]
  exact h _ rfl (fun l' w' hr => hr ⟨a.tmps, ds⟩ todo hh rfl) (fun d hr => hr ⟨a.tmps, ds⟩ todo hh rfl) _ (has_args ha) rfl
def Gone (E : Geo) (i : Nat) (G : Gh) (w w' : World) (t : Trace) (es : Array Event) : Prop := ∃ l', ∀ fn pos, ∃ G', Did E i G G' w w' (t ++ MemOp.ofEvents i fn pos es) l' ∧ l'.live = false ∧ G'.Φ E.K E.nj < G.Φ E.K E.nj
theorem TkO.libQ (W : WkP P E l b) (hi0 : i ≠ 0) {e : Array Value → Sem Value} {xs : Array Operand} {dd : Nat} (ho : ops[j]? = some o) (hdd : o.dst = some dd) (hd : Nat.blt dd n = true) (hop : o.op = .call { callee := .value (.func f), args := xs, argTypes := ats }) (he : Ent P f e)
    (h : ∀ G w₁ t, GI E G w₁ t → (G.th i).live = true → G.th i = l → View l.own w w₁ → ∃ v w' es,
      (∀ a, Has n env a → a.defers = ds → stepG P (i == 0) (Conc.G (b.at a (.inRegion ops (j :: List.range' (j + 1) (ops.size - (j + 1))) :: k)) cs) w₁ = .go (Conc.G (b.at (a.put o.dst v) (.inRegion ops (List.range' (j + 1) (ops.size - (j + 1))) :: k)) cs) w' es) ∧
      ((∃ l', Goes1 E i G w₁ w' t es l' true false ∧ TkO E N i l' w' b n ((dd, v) :: env) ds ops (j + 1) k cs) ∨ (Gone E i G w₁ w' t es ∧ QO P (deafBehind l.deaf es) b n ((dd, v) :: env) ds ops (j + 1) k cs))) :
    TkO E N i l w b n env ds ops j k cs := by
  refine TkO.open ho fun a ha hds => ?_
  have hput : ∀ v, Has n ((dd, v) :: env) (a.put o.dst v) ∧ (a.put o.dst v).defers = ds := fun v => by
    have := ha.put (d := o.dst) (by rw [hdd]; exact hd) v
    rw [hdd] at this ⊢
    exact ⟨this, hds⟩
  refine Tr.leave (runs_G _ _) W.wk.ch hi0 fun G w₁ t hg hact hlo hv => ?_
  obtain ⟨v, w', es, h1, h2⟩ := h G w₁ t hg hact hlo hv
  have hmw := mayWake_ent (b := b) (a := a) (rest := List.range' (j + 1) (ops.size - (j + 1))) (k := k) (cs := cs) ho hop he
  refine ⟨_, w', es, by rw [W.hP]; exact h1 a ha hds, rfl, ?_⟩
  rcases h2 with ⟨l', h3, h4⟩ | ⟨⟨l', h3⟩, h4⟩
  · exact .inl ⟨l', by rw [W.hP, hmw]; exact h3, h4 _ (hput v).1 (hput v).2⟩
  · refine .inr ⟨l', fun fn pos => ?_, by rw [W.hP]; exact h4 _ (hput v).1 (hput v).2⟩
    obtain ⟨G', d, c, f⟩ := h3 fn pos
    exact ⟨G', d, .inl (by rw [W.hP]; exact hmw), c, f⟩
end
end Go.Co
namespace Go.Co
open Go Go.Conc
variable {E : Geo} {N i : Nat} {l : Lo} {w : World}
section
variable {P : Program} {b : Frame} {n : Nat} {env : Nv} {ds : List Deferred} {k : List Item} {cs : List Frame} {ops : Array Oper} {j : Nat} {o : Oper} {f : FuncId} {ats : Array TypeId}
theorem TkO.aaddQ (W : WkP P E l b) (hi0 : i ≠ 0) {x y : Operand} {kk : IntKind} {ad : Addr} {dl : Int} {dd : Nat} (ho : ops[j]? = some o) (hw : wantE ops env o = some true) (hdd : o.dst = some dd) (hd : Nat.blt dd n = true) (hop : o.op = .call { callee := .value (.func f), args := #[x, y], argTypes := ats }) (he : Ent P f (Extern.Atomic.update (Op.intArith .add) kk true)) (hx : env.ev x = some (.pointer (some ad))) (hy : env.ev y = some (.int kk dl))
    (h : ∀ G w₁ t, GI E G w₁ t → (G.th i).live = true → G.th i = l → View l.own w w₁ → ∃ v : Int, w₁.cell? ad = some (.int kk v) ∧ w₁.frozen? ad = false ∧
      ((∃ l', Goes1 E i G w₁ (w₁.setCell ad (.int kk (kk.wrap (v + dl)))) t (rw2 ad) l' true false ∧ TkO E N i l' (w₁.setCell ad (.int kk (kk.wrap (v + dl)))) b n ((dd, .int kk (kk.wrap (v + dl))) :: env) ds ops (j + 1) k cs) ∨
       (Gone E i G w₁ (w₁.setCell ad (.int kk (kk.wrap (v + dl)))) t (rw2 ad) ∧ QO P l.deaf b n ((dd, .int kk (kk.wrap (v + dl))) :: env) ds ops (j + 1) k cs))) :
    TkO E N i l w b n env ds ops j k cs := by
  refine TkO.libQ W hi0 ho hdd hd hop he fun G w₁ t hg hact hlo hv => ?_
  obtain ⟨v, h1, h1', h2⟩ := h G w₁ t hg hact hlo hv
  obtain ⟨fn, f1, f2, f3, f4, f5⟩ := he.out
  exact ⟨_, _, _, fun a ha _ => stepG_add_atomic ho (ha.want hw) W.wk.kind hop f1 f2 f3 f4 kk f5 (ha.ev hx) (ha.ev hy) h1 h1', h2⟩
theorem TkO.semrelQ (W : WkP P E l b) (hi0 : i ≠ 0) {x y z : Operand} {ad : Addr} {dd : Nat} (ho : ops[j]? = some o) (hw : wantE ops env o = some true) (hdd : o.dst = some dd) (hd : Nat.blt dd n = true) (hop : o.op = .call { callee := .value (.func f), args := #[x, y, z], argTypes := ats }) (he : Ent P f Extern.Sync.semrelease) (hx : env.ev x = some (.pointer (some ad)))
    (h : ∀ G w₁ t, GI E G w₁ t → (G.th i).live = true → G.th i = l → View l.own w w₁ → ∃ v : Int, w₁.cell? ad = some (.int .u32 v) ∧ w₁.frozen? ad = false ∧ Gone E i G w₁ (w₁.setCell ad (.int .u32 (IntKind.u32.wrap (v + 1)))) t (semEvents ad))
    (hq : QO P l.deaf b n ((dd, .tuple #[]) :: env) ds ops (j + 1) k cs) :
    TkO E N i l w b n env ds ops j k cs := by
  refine TkO.libQ W hi0 ho hdd hd hop he fun G w₁ t hg hact hlo hv => ?_
  obtain ⟨v, h1, h1', h2⟩ := h G w₁ t hg hact hlo hv
  obtain ⟨fn, f1, f2, f3, f4, f5⟩ := he.out
  exact ⟨_, _, _, fun a ha _ => stepG_semrelease ho (ha.want hw) W.wk.kind hop f1 f2 f3 f4 f5 (by simp [ha.ev hx]) h1 h1', .inr ⟨h2, hq⟩⟩
end
end Go.Co

namespace Go.Co.F1
open Go Go.Conc Go.Proofs
open Go.Co
open Go.ConcN (upd upd_ne upd_same)
variable {E : Geo} {N i : Nat} {l : Lo} {w : World}
set_option maxRecDepth 10000
noncomputable def c18 : Code := (Try.f18.body).getD .skip
theorem b18 : Bod Try.prog 18 117 c18 #[] := ⟨Try.f18, Try.func18, by decide +kernel, rfl, rfl, rfl⟩
noncomputable def c20 : Code := (Try.f20.body).getD .skip
theorem b20 : Bod Try.prog 20 4 c20 #[] := ⟨Try.f20, Try.func20, by decide +kernel, rfl, rfl, rfl⟩
noncomputable def c32 : Code := (Try.f32.body).getD .skip
theorem b32 : Bod Try.prog 32 10 c32 #[.tmp 4] := ⟨Try.f32, Try.func32, by decide +kernel, rfl, rfl, rfl⟩
noncomputable def c34 : Code := (Try.f34.body).getD .skip
theorem b34 : Bod Try.prog 34 7 c34 #[.tmp 2] := ⟨Try.f34, Try.func34, by decide +kernel, rfl, rfl, rfl⟩
noncomputable def c35 : Code := (Try.f35.body).getD .skip
theorem b35 : Bod Try.prog 35 9 c35 #[] := ⟨Try.f35, Try.func35, by decide +kernel, rfl, rfl, rfl⟩
theorem e46 : Ent Try.prog 46 (Extern.Atomic.update (Op.intArith .add) .u64 true) := ⟨Try.f46, Try.func46, by decide +kernel, rfl, by rfl, by rfl⟩
theorem e47 : Ent Try.prog 47 (Extern.Atomic.loadT (.int .u64)) := ⟨Try.f47, Try.func47, by decide +kernel, rfl, by rfl, by rfl⟩
theorem e48 : Ent Try.prog 48 Extern.Atomic.storeT := ⟨Try.f48, Try.func48, by decide +kernel, rfl, by rfl, by rfl⟩
theorem e37 : Ent Try.prog 37 Extern.Sync.semrelease := ⟨Try.f37, Try.func37, by decide +kernel, rfl, by rfl, by rfl⟩
theorem e28 : Ent Try.prog 28 (fun _ => Pure.pure (.bool false)) := ⟨Try.f28, Try.func28, by decide +kernel, rfl, by rfl, by rfl⟩
theorem pure_convE {P : Program} {env : Nv} {o : Oper} {s d : TypeId} {x : Operand} {k k' : IntKind} {p q : Int} {sd : TypeDesc} (ho : o.op = .convert s d x) (hx : env.ev x = some (.int k' p)) (hs : P.underlying s = some sd) (hd : P.underlying d = some (.int k)) (e : k.wrap p = q) : PureOp P env o (.int k q) := e ▸ pure_conv ho hx hs hd
structure WgAt (E : Geo) (B : Nat) : Prop where
  k : 0 < E.K
  t : E.sc .wst = ⟨B, 0, none⟩
  m : E.sc .wsm = ⟨B, 1, none⟩
theorem QR.leave1 {P : Program} {d n : Nat} {env : Nv} {cs : List Frame} {f : FuncId} {nt : Nat} {c : Code} {r : Tmp} {v : Value} {fr : Frame} (hb : Bod P f nt c #[.tmp r]) (hv : env.get r = some v) (h : Qt P d (Conc.G (fr.finish v) cs)) : QR P d (base f) n env [] (fr :: cs) := fun a todo ha hds => by
  obtain ⟨fn, f1, _, _, _, f5⟩ := hb.out
  have e : a.tmps.getD r undef = v := by rw [Array.getD_eq_getD_getElem?, ha.2 r v hv]; rfl
  exact h.ctl rfl fun w => stepG_leave (b := base f) rfl hds f1 (by rw [results_tmp f5, e]) (events_results_tmp f5 _ _)
theorem uadd32 {B : Nat} (hf : E.FinV) (hP : E.P = Try.prog) (O : WgAt E B) (hi0 : i ≠ 0) (hlive : l.live = true) (hgr : l.gr = .said) (hch : l.ch = .no) (hrel : l.rel ≠ none) (hdf : l.deaf = 1) (hsc : E.hasC = true → l.sc = true) (hjob : ∀ j, l.job = some j → E.rs j = none) {fr : Frame} {cs : List Frame}
    (hq : ∀ n m, n ≤ 47 → m ≤ 1 → ¬ (n = 0 ∧ m = 1) → Qt Try.prog 1 (Conc.G (fr.finish (.int .u64 (stN n m))) cs)) (hl : ∀ w', View l.own w w' → Tr E N i (l.at0 .last) (Conc.G (fr.finish (.int .u64 (stN 0 1))) cs) w') :
    Tr E N i l (Conc.G (Frame.enter Try.prog 32 #[.pointer (some ⟨B, 0, none⟩), .int .u64 18446744069414584320] .normal) (fr :: cs)) w := by
  have W : WkP Try.prog E l (base 32) := ⟨⟨hf, hch, by decide⟩, hP⟩
  refine Tr.enterP hP b32 (Nat.le_of_ble_eq_true rfl) ?_
  (repeat (first | refine TkO.done W (by rfl) ?_ | refine TkO.unwantedS W (by rfl) (by rfl) (by rfl) (by rfl) ?_ | refine TkO.pureS W (by rfl) (by rfl) (by rfl) (by rfl) (by first | exact pure_move (.inl rfl) rfl | exact pure_move (.inr rfl) rfl | exact pure_nilCheck rfl rfl | exact pure_field rfl rfl (by rfl) rfl (by decide +kernel) | exact pure_int rfl rfl rfl rfl | exact pure_not rfl rfl | exact pure_pickT rfl rfl rfl | exact pure_pickF rfl rfl rfl | exact pure_shift rfl rfl rfl rfl | exact pure_eqlNil rfl rfl rfl (by rfl) | exact pure_conv rfl rfl (by rfl) (by rfl)) ?_ | refine Tk.seq (WkP.wk W) ?_ | refine Tk.reg W ?_ | refine Tk.skip (WkP.wk W) ?_ | refine Tk.block (WkP.wk W) ?_ | refine Tk.condT (WkP.wk W) rfl ?_ | refine Tk.condF (WkP.wk W) rfl ?_ | refine Tk.exit (WkP.wk W) rfl ?_ | refine Tk.label (WkP.wk W) ?_))
  refine TkO.aaddQ W hi0 (kk := .u64) (ad := E.sc .wst) (dl := 18446744069414584320) (dd := 9) (by rfl) (by rfl) (by rfl) (by rfl) (by rfl) e46 (by rw [O.t]; rfl) rfl fun G w₁ t hg hact hlo hv => ?_
  have H := fun fn pos => hg.wgDone O.k fn pos hact hi0 (by rw [hlo]; exact hgr) (by rw [hlo]; exact hch) (by rw [hlo]; exact hrel) (by rw [hlo, hdf]; exact Nat.one_pos) (by rw [hlo]; exact hsc) (by rw [hlo]; exact hjob)
  obtain ⟨⟨c1, c2, c3, c4, c5⟩, _, _⟩ := H 0 ""
  have e : IntKind.u64.wrap ((((G.wn * 4294967296 + G.ww : Nat) : Int)) + 18446744069414584320) = stN (G.wn - 1) G.ww := st_dec (n := G.wn) (m := G.ww) (by omega) c5 c3
  refine ⟨_, c1, c2, ?_⟩
  rw [e]
  by_cases hlast : G.wn = 1 ∧ G.ww = 1
  · refine .inl ⟨l.at0 .last, fun fn pos => ?_, ?_⟩
    · obtain ⟨_, _, h3⟩ := H fn pos
      obtain ⟨G', d, c⟩ := h3 hlast
      rw [hlo] at d
      exact ⟨G', d, .inl rfl, hlive, fun e => by cases e⟩
    · have W2 : WkP Try.prog E (l.at0 .last) (base 32) := wkp W hch
      (repeat (first | refine TkO.done W2 (by rfl) ?_ | refine TkO.unwantedS W2 (by rfl) (by rfl) (by rfl) (by rfl) ?_ | refine TkO.pureS W2 (by rfl) (by rfl) (by rfl) (by rfl) (by first | exact pure_move (.inl rfl) rfl | exact pure_move (.inr rfl) rfl | exact pure_nilCheck rfl rfl | exact pure_field rfl rfl (by rfl) rfl (by decide +kernel) | exact pure_int rfl rfl rfl rfl | exact pure_not rfl rfl | exact pure_pickT rfl rfl rfl | exact pure_pickF rfl rfl rfl | exact pure_shift rfl rfl rfl rfl | exact pure_eqlNil rfl rfl rfl (by rfl) | exact pure_conv rfl rfl (by rfl) (by rfl)) ?_ | refine Tk.seq (WkP.wk W2) ?_ | refine Tk.reg W2 ?_ | refine Tk.skip (WkP.wk W2) ?_ | refine Tk.block (WkP.wk W2) ?_ | refine Tk.condT (WkP.wk W2) rfl ?_ | refine Tk.condF (WkP.wk W2) rfl ?_ | refine Tk.exit (WkP.wk W2) rfl ?_ | refine Tk.label (WkP.wk W2) ?_))
      rw [hlast.1, hlast.2]
      refine Tk.ret W2.wk (TkR.leave1 W2.wk (hP ▸ b32) rfl (hl _ (hv.trans ?_)))
      have := hg.view_set (x := .wst) O.k (.int .u64 (stN (1 - 1) 1)) i hact
      rw [hlo] at this; exact this
  · refine .inr ⟨⟨l.bye, fun fn pos => ?_⟩, ?_⟩
    · obtain ⟨_, h2, _⟩ := H fn pos
      obtain ⟨G', d, c, hp⟩ := h2 hlast
      rw [hlo] at d
      exact ⟨G', d, rfl, hp⟩
    · rw [hdf]
      (repeat (first | refine QO.done (by rfl) ?_ | refine QO.unwantedS (by rfl) (by rfl) (by rfl) (by rfl) ?_ | refine QO.pureS (by decide) (by rfl) (by rfl) (by rfl) (by rfl) (by first | exact pure_move (.inl rfl) rfl | exact pure_move (.inr rfl) rfl | exact pure_nilCheck rfl rfl | exact pure_field rfl rfl (by rfl) rfl (by decide +kernel) | exact pure_int rfl rfl rfl rfl | exact pure_not rfl rfl | exact pure_pickT rfl rfl rfl | exact pure_pickF rfl rfl rfl | exact pure_shift rfl rfl rfl rfl | exact pure_eqlNil rfl rfl rfl (by rfl) | exact pure_conv rfl rfl (by rfl) (by rfl)) ?_ | refine Qk.seq ?_ | refine Qk.reg ?_ | refine Qk.skip ?_ | refine Qk.block ?_ | refine Qk.inBlock ?_ | refine Qk.inLoop ?_ | refine Qk.loop ?_ | refine Qk.condT rfl ?_ | refine Qk.condF rfl ?_ | refine Qk.exit rfl ?_))
      exact Qk.ret (QR.leave1 b32 rfl (hq _ _ (by omega) c5 (by omega)))
structure Near (E : Geo) (l : Lo) : Prop where
  live : l.live = true
  ch : l.ch = .no
  sc : E.hasC = true → l.sc = true
  job : ∀ j, l.job = some j → E.rs j = none
theorem load34L {B : Nat} (hf : E.FinV) (hP : E.P = Try.prog) (O : WgAt E B) (hi0 : i ≠ 0) (hlive : l.live = true) (hgr : l.gr = .last) (hch : l.ch = .no) (hdf : l.deaf = 1) {fr : Frame} {cs : List Frame}
    (h : ∀ w', View l.own w w' → Tr E N i l (Conc.G (fr.finish (.int .u64 1)) cs) w') :
    Tr E N i l (Conc.G (Frame.enter Try.prog 34 #[.pointer (some ⟨B, 0, none⟩)] .normal) (fr :: cs)) w := by
  have W : WkP Try.prog E l (base 34) := ⟨⟨hf, hch, by decide⟩, hP⟩
  refine Tr.enterP hP b34 (Nat.le_of_ble_eq_true rfl) ?_
  (repeat (first | refine TkO.done W (by rfl) ?_ | refine TkO.unwantedS W (by rfl) (by rfl) (by rfl) (by rfl) ?_ | refine TkO.pureS W (by rfl) (by rfl) (by rfl) (by rfl) (by first | exact pure_move (.inl rfl) rfl | exact pure_move (.inr rfl) rfl | exact pure_nilCheck rfl rfl | exact pure_field rfl rfl (by rfl) rfl (by decide +kernel) | exact pure_int rfl rfl rfl rfl | exact pure_not rfl rfl | exact pure_pickT rfl rfl rfl | exact pure_pickF rfl rfl rfl | exact pure_shift rfl rfl rfl rfl | exact pure_eqlNil rfl rfl rfl (by rfl) | exact pure_conv rfl rfl (by rfl) (by rfl)) ?_ | refine Tk.seq (WkP.wk W) ?_ | refine Tk.reg W ?_ | refine Tk.skip (WkP.wk W) ?_ | refine Tk.block (WkP.wk W) ?_ | refine Tk.condT (WkP.wk W) rfl ?_ | refine Tk.condF (WkP.wk W) rfl ?_ | refine Tk.exit (WkP.wk W) rfl ?_ | refine Tk.label (WkP.wk W) ?_))
  refine TkO.aload W (kk := .u64) (ad := E.sc .wst) (by rfl) (by rfl) (by rfl) (by rfl) e47 (by rw [O.t]; rfl) fun G w₁ t hg hact hlo hv => ?_
  obtain ⟨_, _, c1, c2⟩ := hg.wgLastAt O.k hact hi0 (by rw [hlo]; exact hgr)
  refine ⟨1, l, false, c1, fun fn pos => ?_, TkOL.same (TkO.lay (rfl : Nv.put _ _ _ = (_, _) :: _) ?_)⟩
  · obtain ⟨G', d, c⟩ := hg.says (w' := w₁) (es := #[⟨.cell (E.sc .wst), false, true⟩]) fn pos hact (by intro e he; simp at he; subst he; exact .inl ⟨.wst, false, O.k, rfl, fun x => by cases x⟩) rfl rfl rfl (Go.ConcM.OsLater.refl _) (.inr fun j e hj => by
      have := Array.mem_of_getElem? hj
      simp at this; subst this
      refine .inr ⟨.inl rfl, ?_⟩
      have hj0 : j = 0 := by
        have := (Array.getElem?_eq_some_iff.1 hj).1
        simp at this; exact this
      subst hj0
      rw [hlo, hdf]; exact Nat.one_pos)
    rw [hlo] at d
    have e : ({ l with deaf := deafBehind l.deaf #[⟨.cell (E.sc .wst), false, true⟩] } : Lo) = l := rfl
    rw [e] at d
    exact ⟨G', d, .inl rfl, hlive, fun e => by cases e⟩
  · (repeat (first | refine TkO.done W (by rfl) ?_ | refine TkO.unwantedS W (by rfl) (by rfl) (by rfl) (by rfl) ?_ | refine TkO.pureS W (by rfl) (by rfl) (by rfl) (by rfl) (by first | exact pure_move (.inl rfl) rfl | exact pure_move (.inr rfl) rfl | exact pure_nilCheck rfl rfl | exact pure_field rfl rfl (by rfl) rfl (by decide +kernel) | exact pure_int rfl rfl rfl rfl | exact pure_not rfl rfl | exact pure_pickT rfl rfl rfl | exact pure_pickF rfl rfl rfl | exact pure_shift rfl rfl rfl rfl | exact pure_eqlNil rfl rfl rfl (by rfl) | exact pure_conv rfl rfl (by rfl) (by rfl)) ?_ | refine Tk.seq (WkP.wk W) ?_ | refine Tk.reg W ?_ | refine Tk.skip (WkP.wk W) ?_ | refine Tk.block (WkP.wk W) ?_ | refine Tk.condT (WkP.wk W) rfl ?_ | refine Tk.condF (WkP.wk W) rfl ?_ | refine Tk.exit (WkP.wk W) rfl ?_ | refine Tk.label (WkP.wk W) ?_))
    exact Tk.ret W.wk (TkR.leave1 W.wk (hP ▸ b34) rfl (h _ hv))
theorem store35L {B : Nat} (hf : E.FinV) (hP : E.P = Try.prog) (O : WgAt E B) (hi0 : i ≠ 0) (A : Near E l) (hgr : l.gr = .last) (hrel : l.rel ≠ none) (hdf : l.deaf = 1) {fr : Frame} {cs : List Frame}
    (h : ∀ w', View l.own w w' → Tr E N i (l.at0 .lastS) (Conc.G (fr.finish (.tuple #[])) cs) w') :
    Tr E N i l (Conc.G (Frame.enter Try.prog 35 #[.pointer (some ⟨B, 0, none⟩), .int .u64 0] .normal) (fr :: cs)) w := by
  have W : WkP Try.prog E l (base 35) := ⟨⟨hf, A.ch, by decide⟩, hP⟩
  refine Tr.enterP hP b35 (Nat.le_of_ble_eq_true rfl) ?_
  (repeat (first | refine TkO.done W (by rfl) ?_ | refine TkO.unwantedS W (by rfl) (by rfl) (by rfl) (by rfl) ?_ | refine TkO.pureS W (by rfl) (by rfl) (by rfl) (by rfl) (by first | exact pure_move (.inl rfl) rfl | exact pure_move (.inr rfl) rfl | exact pure_nilCheck rfl rfl | exact pure_field rfl rfl (by rfl) rfl (by decide +kernel) | exact pure_int rfl rfl rfl rfl | exact pure_not rfl rfl | exact pure_pickT rfl rfl rfl | exact pure_pickF rfl rfl rfl | exact pure_shift rfl rfl rfl rfl | exact pure_eqlNil rfl rfl rfl (by rfl) | exact pure_conv rfl rfl (by rfl) (by rfl)) ?_ | refine Tk.seq (WkP.wk W) ?_ | refine Tk.reg W ?_ | refine Tk.skip (WkP.wk W) ?_ | refine Tk.block (WkP.wk W) ?_ | refine Tk.condT (WkP.wk W) rfl ?_ | refine Tk.condF (WkP.wk W) rfl ?_ | refine Tk.exit (WkP.wk W) rfl ?_ | refine Tk.label (WkP.wk W) ?_))
  refine TkO.astore W (kk := .u64) (ad := E.sc .wst) (v := 0) (by rfl) (by rfl) (by rfl) (by rfl) e48 (by rw [O.t]; rfl) rfl fun G w₁ t hg hact hlo hv => ?_
  obtain ⟨_, _, c1, c2⟩ := hg.wgLastAt O.k hact hi0 (by rw [hlo]; exact hgr)
  refine ⟨_, l.at0 .lastS, false, c1, c2, fun fn pos => ?_, TkOL.same (TkO.lay (rfl : Nv.put _ _ _ = (_, _) :: _) ?_)⟩
  · obtain ⟨G', d, c⟩ := hg.wgZero O.k fn pos hact hi0 (by rw [hlo]; exact hgr) (by rw [hlo]; exact A.ch) (by rw [hlo]; exact hrel) (by rw [hlo, hdf]; exact Nat.one_pos) (by rw [hlo]; exact A.sc)
    rw [hlo] at d
    exact ⟨G', d, .inl rfl, A.live, fun e => by cases e⟩
  · have W2 : WkP Try.prog E (l.at0 .lastS) (base 35) := wkp W A.ch
    (repeat (first | refine TkO.done W2 (by rfl) ?_ | refine TkO.unwantedS W2 (by rfl) (by rfl) (by rfl) (by rfl) ?_ | refine TkO.pureS W2 (by rfl) (by rfl) (by rfl) (by rfl) (by first | exact pure_move (.inl rfl) rfl | exact pure_move (.inr rfl) rfl | exact pure_nilCheck rfl rfl | exact pure_field rfl rfl (by rfl) rfl (by decide +kernel) | exact pure_int rfl rfl rfl rfl | exact pure_not rfl rfl | exact pure_pickT rfl rfl rfl | exact pure_pickF rfl rfl rfl | exact pure_shift rfl rfl rfl rfl | exact pure_eqlNil rfl rfl rfl (by rfl) | exact pure_conv rfl rfl (by rfl) (by rfl)) ?_ | refine Tk.seq (WkP.wk W2) ?_ | refine Tk.reg W2 ?_ | refine Tk.skip (WkP.wk W2) ?_ | refine Tk.block (WkP.wk W2) ?_ | refine Tk.condT (WkP.wk W2) rfl ?_ | refine Tk.condF (WkP.wk W2) rfl ?_ | refine Tk.exit (WkP.wk W2) rfl ?_ | refine Tk.label (WkP.wk W2) ?_))
    refine Tk.fall W2.wk (TkR.leave0 W2.wk (hP ▸ b35) (h _ (hv.trans ?_)))
    have := hg.view_set (x := .wst) O.k (.int .u64 0) i hact
    rw [hlo] at this; exact this
set_option maxHeartbeats 8000000 in
theorem add18N {B : Nat} (hf : E.FinV) (hP : E.P = Try.prog) (O : WgAt E B) (hi0 : i ≠ 0) (A : Near E l) (hgr : l.gr = .out) (hmr : l.mr = none) (hrel : l.rel = none) (hdf : l.deaf = 0) {fr : Frame} {cs : List Frame}
    (hq : Qt Try.prog 0 (Conc.G (fr.finish (.tuple #[])) cs)) :
    Tr E N i l (Conc.G (Frame.enter Try.prog 18 #[.pointer (some ⟨B, 0, none⟩), .int .i64 (-1)] .normal) (fr :: cs)) w := by
  have W : WkP Try.prog E l (base 18) := ⟨⟨hf, A.ch, by decide⟩, hP⟩
  refine Tr.enterP hP b18 (Nat.le_of_ble_eq_true rfl) ?_
  (repeat (first | refine TkO.done W (by rfl) ?_ | refine TkO.unwantedS W (by rfl) (by rfl) (by rfl) (by rfl) ?_ | refine TkO.pureS W (by rfl) (by rfl) (by rfl) (by rfl) (by first | exact pure_move (.inl rfl) rfl | exact pure_move (.inr rfl) rfl | exact pure_nilCheck rfl rfl | exact pure_field rfl rfl (by rfl) rfl (by decide +kernel) | exact pure_int rfl rfl rfl rfl | exact pure_not rfl rfl | exact pure_pickT rfl rfl rfl | exact pure_pickF rfl rfl rfl | exact pure_shift rfl rfl rfl rfl | exact pure_eqlNil rfl rfl rfl (by rfl) | exact pure_conv rfl rfl (by rfl) (by rfl)) ?_ | refine Tk.seq (WkP.wk W) ?_ | refine Tk.reg W ?_ | refine Tk.skip (WkP.wk W) ?_ | refine Tk.block (WkP.wk W) ?_ | refine Tk.condT (WkP.wk W) rfl ?_ | refine Tk.condF (WkP.wk W) rfl ?_ | refine Tk.exit (WkP.wk W) rfl ?_ | refine Tk.label (WkP.wk W) ?_))
  refine TkO.conv W (y := .wst) O.k A.live (by rfl) (by rfl) (by rfl) (by rfl) (by rfl) (by rfl) (by rfl) (by decide +kernel) (by rw [O.t]; rfl) ?_
  refine TkO.markAt W (mk := .releaseMerge) (ad := E.sc .wst) (fun ad g e => by cases e) (by rfl) (by rfl) (by rfl) (by rfl) e25 rfl fun G w₁ t hg hact hlo hv => ?_
  refine ⟨l.say t.size, false, fun fn pos => ?_, TkOL.same (TkO.lay (rfl : Nv.put _ _ _ = (_, _) :: _) ?_)⟩
  · obtain ⟨G', d, c⟩ := hg.wgSay O.k fn pos hact hi0 (by rw [hlo]; exact hgr) (by rw [hlo]; exact hmr) (by rw [hlo]; exact A.ch) (by rw [hlo]; exact hrel) (by rw [hlo]; exact hdf) (by rw [hlo]; exact A.sc)
    rw [hlo] at d
    exact ⟨G', d, .inl rfl, A.live, fun e => by cases e⟩
  generalize t.size = r
  have W1 : WkP Try.prog E (l.say r) (base 18) := wkp W A.ch
  (repeat (first | refine TkO.done W1 (by rfl) ?_ | refine TkO.unwantedS W1 (by rfl) (by rfl) (by rfl) (by rfl) ?_ | refine TkO.pureS W1 (by rfl) (by rfl) (by rfl) (by rfl) (by first | exact pure_move (.inl rfl) rfl | exact pure_move (.inr rfl) rfl | exact pure_nilCheck rfl rfl | exact pure_field rfl rfl (by rfl) rfl (by decide +kernel) | exact pure_int rfl rfl rfl rfl | exact pure_not rfl rfl | exact pure_pickT rfl rfl rfl | exact pure_pickF rfl rfl rfl | exact pure_shift rfl rfl rfl rfl | exact pure_eqlNil rfl rfl rfl (by rfl) | exact pure_conv rfl rfl (by rfl) (by rfl)) ?_ | refine Tk.seq (WkP.wk W1) ?_ | refine Tk.reg W1 ?_ | refine Tk.skip (WkP.wk W1) ?_ | refine Tk.block (WkP.wk W1) ?_ | refine Tk.condT (WkP.wk W1) rfl ?_ | refine Tk.condF (WkP.wk W1) rfl ?_ | refine Tk.exit (WkP.wk W1) rfl ?_ | refine Tk.label (WkP.wk W1) ?_))
  refine TkO.mark0 W1 (m := .disable) (fun g e => by cases e) (by rfl) (by rfl) (by rfl) (by rfl) e26 fun G w₃ t hg hact hlo hv3 => ?_
  refine ⟨_, false, goes_off hg hact hlo, TkOL.same (TkO.lay (rfl : Nv.put _ _ _ = (_, _) :: _) ?_)⟩
  rw [show (l.say r).deaf + 1 = 1 by show l.deaf + 1 = 1; rw [hdf]]
  have W2 : WkP Try.prog E ((l.say r).hear 1) (base 18) := wkp W A.ch
  (repeat (first | refine TkO.done W2 (by rfl) ?_ | refine TkO.unwantedS W2 (by rfl) (by rfl) (by rfl) (by rfl) ?_ | refine TkO.pureS W2 (by rfl) (by rfl) (by rfl) (by rfl) (by first | exact pure_move (.inl rfl) rfl | exact pure_move (.inr rfl) rfl | exact pure_nilCheck rfl rfl | exact pure_field rfl rfl (by rfl) rfl (by decide +kernel) | exact pure_int rfl rfl rfl rfl | exact pure_not rfl rfl | exact pure_pickT rfl rfl rfl | exact pure_pickF rfl rfl rfl | exact pure_shift rfl rfl rfl rfl | exact pure_eqlNil rfl rfl rfl (by rfl) | exact pure_conv rfl rfl (by rfl) (by rfl)) ?_ | refine Tk.seq (WkP.wk W2) ?_ | refine Tk.reg W2 ?_ | refine Tk.skip (WkP.wk W2) ?_ | refine Tk.block (WkP.wk W2) ?_ | refine Tk.condT (WkP.wk W2) rfl ?_ | refine Tk.condF (WkP.wk W2) rfl ?_ | refine Tk.exit (WkP.wk W2) rfl ?_ | refine Tk.label (WkP.wk W2) ?_))
  refine TkO.defer W2 (by rfl) (by rfl) (by rfl) (by rfl) rfl ?_
  refine TkO.lay (rfl : Nv.put _ _ _ = _) ?_
  (repeat (first | refine TkO.done W2 (by rfl) ?_ | refine TkO.unwantedS W2 (by rfl) (by rfl) (by rfl) (by rfl) ?_ | refine TkO.pureS W2 (by rfl) (by rfl) (by rfl) (by rfl) (by first | exact pure_move (.inl rfl) rfl | exact pure_move (.inr rfl) rfl | exact pure_nilCheck rfl rfl | exact pure_field rfl rfl (by rfl) rfl (by decide +kernel) | exact pure_int rfl rfl rfl rfl | exact pure_not rfl rfl | exact pure_pickT rfl rfl rfl | exact pure_pickF rfl rfl rfl | exact pure_shift rfl rfl rfl rfl | exact pure_eqlNil rfl rfl rfl (by rfl) | exact pure_conv rfl rfl (by rfl) (by rfl)) ?_ | refine Tk.seq (WkP.wk W2) ?_ | refine Tk.reg W2 ?_ | refine Tk.skip (WkP.wk W2) ?_ | refine Tk.block (WkP.wk W2) ?_ | refine Tk.condT (WkP.wk W2) rfl ?_ | refine Tk.condF (WkP.wk W2) rfl ?_ | refine Tk.exit (WkP.wk W2) rfl ?_ | refine Tk.label (WkP.wk W2) ?_))
  refine TkO.entV W2 A.live (.inr trivial) (by rfl) (by rfl) (by rfl) (by rfl) e28 (fun _ => rfl) ?_
  refine TkO.lay (rfl : Nv.put _ _ _ = (_, _) :: _) ?_
  repeat (first
    | refine TkO.pureS W2 (by rfl) (by rfl) (by rfl) (by rfl) (pure_shift rfl rfl rfl st_deltaN) ?_
    | refine TkO.done W2 (by rfl) ?_ | refine TkO.unwantedS W2 (by rfl) (by rfl) (by rfl) (by rfl) ?_ | refine TkO.pureS W2 (by rfl) (by rfl) (by rfl) (by rfl) (by first | exact pure_move (.inl rfl) rfl | exact pure_move (.inr rfl) rfl | exact pure_nilCheck rfl rfl | exact pure_field rfl rfl (by rfl) rfl (by decide +kernel) | exact pure_int rfl rfl rfl rfl | exact pure_not rfl rfl | exact pure_pickT rfl rfl rfl | exact pure_pickF rfl rfl rfl | exact pure_shift rfl rfl rfl rfl | exact pure_eqlNil rfl rfl rfl (by rfl) | exact pure_conv rfl rfl (by rfl) (by rfl)) ?_ | refine Tk.seq (WkP.wk W2) ?_ | refine Tk.reg W2 ?_ | refine Tk.skip (WkP.wk W2) ?_ | refine Tk.block (WkP.wk W2) ?_ | refine Tk.condT (WkP.wk W2) rfl ?_ | refine Tk.condF (WkP.wk W2) rfl ?_ | refine Tk.exit (WkP.wk W2) rfl ?_ | refine Tk.label (WkP.wk W2) ?_)
  refine TkO.callQ W2 (by rfl) (by rfl) (by rfl) (by rfl) (by rfl) b32 rfl fun fr1 hk1 hq1 => ?_
  have hend : Qt Try.prog 0 (Conc.G (fr.finish (.tuple #[])) cs) := hq
  refine uadd32 (l := (l.say r).hear 1) hf hP O hi0 A.live rfl A.ch (by show some r ≠ none; simp) rfl A.sc A.job (fun n m hn hm hnm => hq1 _ _ ?_) (fun w' hv' => hk1 _ _ _ ?_)
  · have h1 := st_flag (n := n) (m := m) (by omega) hm
    have h2 := st_hi (n := n) (m := m) (by omega) hm
    have h3 := st_lo (n := n) (m := m) (by omega) hm
    have h4 := st_i32 (n := n) (by omega)
    have h5 := st_u32 hm
    have h6 : intV .lss .i32 (n : Int) 0 = some (.bool false) := by simp only [intV, Option.some.injEq, Value.bool.injEq]; simp
    have hm2 : m = 0 ∨ m = 1 := by omega
    by_cases hn0 : 0 < n
    · have h7 : intV .gtr .i32 (n : Int) 0 = some (.bool true) := by simp only [intV, Option.some.injEq, Value.bool.injEq]; simp; omega
      rcases hm2 with rfl | rfl
      · repeat (first
          | refine QO.pureS (by decide) (by rfl) (by rfl) (by rfl) (by rfl) (by first | exact pure_int rfl rfl rfl h1 | exact pure_shift rfl rfl rfl h2 | exact pure_int rfl rfl rfl h3 | exact pure_convE rfl rfl (by rfl) (by rfl) h4 | exact pure_convE rfl rfl (by rfl) (by rfl) h5 | exact pure_int rfl rfl rfl h6 | exact pure_int rfl rfl rfl h7) ?_
          | refine QO.done (by rfl) ?_ | refine QO.unwantedS (by rfl) (by rfl) (by rfl) (by rfl) ?_ | refine QO.pureS (by decide) (by rfl) (by rfl) (by rfl) (by rfl) (by first | exact pure_move (.inl rfl) rfl | exact pure_move (.inr rfl) rfl | exact pure_nilCheck rfl rfl | exact pure_field rfl rfl (by rfl) rfl (by decide +kernel) | exact pure_int rfl rfl rfl rfl | exact pure_not rfl rfl | exact pure_pickT rfl rfl rfl | exact pure_pickF rfl rfl rfl | exact pure_shift rfl rfl rfl rfl | exact pure_eqlNil rfl rfl rfl (by rfl) | exact pure_conv rfl rfl (by rfl) (by rfl)) ?_ | refine Qk.seq ?_ | refine Qk.reg ?_ | refine Qk.skip ?_ | refine Qk.block ?_ | refine Qk.inBlock ?_ | refine Qk.inLoop ?_ | refine Qk.loop ?_ | refine Qk.condT rfl ?_ | refine Qk.condF rfl ?_ | refine Qk.exit rfl ?_)
        exact Qk.ret (QR.enable e27 (QR.leave0 b18 hq))
      · repeat (first
          | refine QO.pureS (by decide) (by rfl) (by rfl) (by rfl) (by rfl) (by first | exact pure_int rfl rfl rfl h1 | exact pure_shift rfl rfl rfl h2 | exact pure_int rfl rfl rfl h3 | exact pure_convE rfl rfl (by rfl) (by rfl) h4 | exact pure_convE rfl rfl (by rfl) (by rfl) h5 | exact pure_int rfl rfl rfl h6 | exact pure_int rfl rfl rfl h7) ?_
          | refine QO.done (by rfl) ?_ | refine QO.unwantedS (by rfl) (by rfl) (by rfl) (by rfl) ?_ | refine QO.pureS (by decide) (by rfl) (by rfl) (by rfl) (by rfl) (by first | exact pure_move (.inl rfl) rfl | exact pure_move (.inr rfl) rfl | exact pure_nilCheck rfl rfl | exact pure_field rfl rfl (by rfl) rfl (by decide +kernel) | exact pure_int rfl rfl rfl rfl | exact pure_not rfl rfl | exact pure_pickT rfl rfl rfl | exact pure_pickF rfl rfl rfl | exact pure_shift rfl rfl rfl rfl | exact pure_eqlNil rfl rfl rfl (by rfl) | exact pure_conv rfl rfl (by rfl) (by rfl)) ?_ | refine Qk.seq ?_ | refine Qk.reg ?_ | refine Qk.skip ?_ | refine Qk.block ?_ | refine Qk.inBlock ?_ | refine Qk.inLoop ?_ | refine Qk.loop ?_ | refine Qk.condT rfl ?_ | refine Qk.condF rfl ?_ | refine Qk.exit rfl ?_)
        exact Qk.ret (QR.enable e27 (QR.leave0 b18 hq))
    · have h7 : intV .gtr .i32 (n : Int) 0 = some (.bool false) := by simp only [intV, Option.some.injEq, Value.bool.injEq]; simp; omega
      have hm0 : m = 0 := by omega
      subst hm0
      repeat (first
        | refine QO.pureS (by decide) (by rfl) (by rfl) (by rfl) (by rfl) (by first | exact pure_int rfl rfl rfl h1 | exact pure_shift rfl rfl rfl h2 | exact pure_int rfl rfl rfl h3 | exact pure_convE rfl rfl (by rfl) (by rfl) h4 | exact pure_convE rfl rfl (by rfl) (by rfl) h5 | exact pure_int rfl rfl rfl h6 | exact pure_int rfl rfl rfl h7) ?_
        | refine QO.done (by rfl) ?_ | refine QO.unwantedS (by rfl) (by rfl) (by rfl) (by rfl) ?_ | refine QO.pureS (by decide) (by rfl) (by rfl) (by rfl) (by rfl) (by first | exact pure_move (.inl rfl) rfl | exact pure_move (.inr rfl) rfl | exact pure_nilCheck rfl rfl | exact pure_field rfl rfl (by rfl) rfl (by decide +kernel) | exact pure_int rfl rfl rfl rfl | exact pure_not rfl rfl | exact pure_pickT rfl rfl rfl | exact pure_pickF rfl rfl rfl | exact pure_shift rfl rfl rfl rfl | exact pure_eqlNil rfl rfl rfl (by rfl) | exact pure_conv rfl rfl (by rfl) (by rfl)) ?_ | refine Qk.seq ?_ | refine Qk.reg ?_ | refine Qk.skip ?_ | refine Qk.block ?_ | refine Qk.inBlock ?_ | refine Qk.inLoop ?_ | refine Qk.loop ?_ | refine Qk.condT rfl ?_ | refine Qk.condF rfl ?_ | refine Qk.exit rfl ?_)
      exact Qk.ret (QR.enable e27 (QR.leave0 b18 hq))
  · have W3 : WkP Try.prog E (((l.say r).hear 1).at0 .last) (base 18) := wkp W A.ch
    have h1 := st_flag (n := 0) (m := 1) (by omega) (by omega)
    have h2 := st_hi (n := 0) (m := 1) (by omega) (by omega)
    have h3 := st_lo (n := 0) (m := 1) (by omega) (by omega)
    repeat (first
      | refine TkO.pureS W3 (by rfl) (by rfl) (by rfl) (by rfl) (by first | exact pure_int rfl rfl rfl h1 | exact pure_shift rfl rfl rfl h2 | exact pure_int rfl rfl rfl h3) ?_
      | refine TkO.done W3 (by rfl) ?_ | refine TkO.unwantedS W3 (by rfl) (by rfl) (by rfl) (by rfl) ?_ | refine TkO.pureS W3 (by rfl) (by rfl) (by rfl) (by rfl) (by first | exact pure_move (.inl rfl) rfl | exact pure_move (.inr rfl) rfl | exact pure_nilCheck rfl rfl | exact pure_field rfl rfl (by rfl) rfl (by decide +kernel) | exact pure_int rfl rfl rfl rfl | exact pure_not rfl rfl | exact pure_pickT rfl rfl rfl | exact pure_pickF rfl rfl rfl | exact pure_shift rfl rfl rfl rfl | exact pure_eqlNil rfl rfl rfl (by rfl) | exact pure_conv rfl rfl (by rfl) (by rfl)) ?_ | refine Tk.seq (WkP.wk W3) ?_ | refine Tk.reg W3 ?_ | refine Tk.skip (WkP.wk W3) ?_ | refine Tk.block (WkP.wk W3) ?_ | refine Tk.condT (WkP.wk W3) rfl ?_ | refine Tk.condF (WkP.wk W3) rfl ?_ | refine Tk.exit (WkP.wk W3) rfl ?_ | refine Tk.label (WkP.wk W3) ?_)
    refine TkO.call W3 (by rfl) (by rfl) (by rfl) (by rfl) b34 rfl fun fr2 hk2 => ?_
    refine load34L (l := ((l.say r).hear 1).at0 .last) hf hP O hi0 A.live rfl A.ch rfl fun w2 hv2 => hk2 _ _ _ (TkO.lay (rfl : Nv.put _ _ _ = (_, _) :: _) ?_)
    (repeat (first | refine TkO.done W3 (by rfl) ?_ | refine TkO.unwantedS W3 (by rfl) (by rfl) (by rfl) (by rfl) ?_ | refine TkO.pureS W3 (by rfl) (by rfl) (by rfl) (by rfl) (by first | exact pure_move (.inl rfl) rfl | exact pure_move (.inr rfl) rfl | exact pure_nilCheck rfl rfl | exact pure_field rfl rfl (by rfl) rfl (by decide +kernel) | exact pure_int rfl rfl rfl rfl | exact pure_not rfl rfl | exact pure_pickT rfl rfl rfl | exact pure_pickF rfl rfl rfl | exact pure_shift rfl rfl rfl rfl | exact pure_eqlNil rfl rfl rfl (by rfl) | exact pure_conv rfl rfl (by rfl) (by rfl)) ?_ | refine Tk.seq (WkP.wk W3) ?_ | refine Tk.reg W3 ?_ | refine Tk.skip (WkP.wk W3) ?_ | refine Tk.block (WkP.wk W3) ?_ | refine Tk.condT (WkP.wk W3) rfl ?_ | refine Tk.condF (WkP.wk W3) rfl ?_ | refine Tk.exit (WkP.wk W3) rfl ?_ | refine Tk.label (WkP.wk W3) ?_))
    refine TkO.call W3 (by rfl) (by rfl) (by rfl) (by rfl) b35 rfl fun fr3 hk3 => ?_
    refine store35L (l := ((l.say r).hear 1).at0 .last) hf hP O hi0 ⟨A.live, A.ch, A.sc, A.job⟩ rfl (by show some r ≠ none; simp) rfl fun w3 hv3 => hk3 _ _ _ (TkO.lay (rfl : Nv.put _ _ _ = (_, _) :: _) ?_)
    have W4 : WkP Try.prog E (((l.say r).hear 1).at0 .lastS) (base 18) := wkp W A.ch
    repeat (first | refine TkO.done W4 (by rfl) ?_ | refine TkO.unwantedS W4 (by rfl) (by rfl) (by rfl) (by rfl) ?_ | refine TkO.pureS W4 (by rfl) (by rfl) (by rfl) (by rfl) (by first | exact pure_move (.inl rfl) rfl | exact pure_move (.inr rfl) rfl | exact pure_nilCheck rfl rfl | exact pure_field rfl rfl (by rfl) rfl (by decide +kernel) | exact pure_int rfl rfl rfl rfl | exact pure_not rfl rfl | exact pure_pickT rfl rfl rfl | exact pure_pickF rfl rfl rfl | exact pure_shift rfl rfl rfl rfl | exact pure_eqlNil rfl rfl rfl (by rfl) | exact pure_conv rfl rfl (by rfl) (by rfl)) ?_ | refine Tk.seq (WkP.wk W4) ?_ | refine Tk.reg W4 ?_ | refine Tk.skip (WkP.wk W4) ?_ | refine Tk.block (WkP.wk W4) ?_ | refine Tk.condT (WkP.wk W4) rfl ?_ | refine Tk.condF (WkP.wk W4) rfl ?_ | refine Tk.exit (WkP.wk W4) rfl ?_ | refine Tk.label (WkP.wk W4) ?_ | refine Tk.loop W4.wk ?_)
    refine TkO.semrelQ W4 hi0 (ad := E.sc .wsm) (by rfl) (by rfl) (by rfl) (by rfl) (by rfl) e37 (by rw [O.m]; rfl) (fun G w₁ t hg hact hlo hv => ?_) ?_
    · have H := fun fn pos => hg.wgFree O.k fn pos hact hi0 (by rw [hlo]; rfl) (by rw [hlo]; exact A.ch) (by rw [hlo]; show some r ≠ none; simp) (by rw [hlo]; exact Nat.one_pos) (by rw [hlo]; exact A.sc) (by rw [hlo]; exact A.job)
      obtain ⟨⟨c1, c2⟩, _⟩ := H 0 ""
      refine ⟨0, c1, c2, (((l.say r).hear 1).at0 .lastS).bye, fun fn pos => ?_⟩
      obtain ⟨_, G', d, hp⟩ := H fn pos
      rw [hlo] at d
      exact ⟨G', d, rfl, hp⟩
    · (repeat (first | refine QO.done (by rfl) ?_ | refine QO.unwantedS (by rfl) (by rfl) (by rfl) (by rfl) ?_ | refine QO.pureS (by decide) (by rfl) (by rfl) (by rfl) (by rfl) (by first | exact pure_move (.inl rfl) rfl | exact pure_move (.inr rfl) rfl | exact pure_nilCheck rfl rfl | exact pure_field rfl rfl (by rfl) rfl (by decide +kernel) | exact pure_int rfl rfl rfl rfl | exact pure_not rfl rfl | exact pure_pickT rfl rfl rfl | exact pure_pickF rfl rfl rfl | exact pure_shift rfl rfl rfl rfl | exact pure_eqlNil rfl rfl rfl (by rfl) | exact pure_conv rfl rfl (by rfl) (by rfl)) ?_ | refine Qk.seq ?_ | refine Qk.reg ?_ | refine Qk.skip ?_ | refine Qk.block ?_ | refine Qk.inBlock ?_ | refine Qk.inLoop ?_ | refine Qk.loop ?_ | refine Qk.condT rfl ?_ | refine Qk.condF rfl ?_ | refine Qk.exit rfl ?_))
      exact Qk.fall (QR.enable e27 (QR.leave0 b18 hq))
end Go.Co.F1

namespace Go.Co
open Go Go.Conc
open Go.ConcN (upd upd_ne upd_same)
variable {E : Geo} {N i : Nat} {l : Lo} {w : World}
section
variable {P : Program} {b : Frame} {n : Nat} {env : Nv} {ds : List Deferred} {k : List Item} {cs : List Frame} {ops : Array Oper} {j : Nat} {o : Oper}
theorem pure_extract {P : Program} {env : Nv} {o : Oper} {x : Operand} {ix : Nat} {vs : Array Value} {v : Value} (ho : o.op = .extract x ix) (hx : env.ev x = some (.tuple vs)) (hv : vs[ix]? = some v) : PureOp P env o v := fun n a ha w => by
  constructor <;> simp [execOp, ho, ha.ev hx, Instr.extract, hv]
theorem recv_step {a : Act} {rest : List Nat} {t e : TypeId} {dir : ChanDir} {x : Operand} {c : Nat} {inf : TypeInfo} {z : Value} {main : Bool} (ho : ops[j]? = some o) (hw : wantE ops env o = some true) (hk : b.kind ≠ .early) (hop : o.op = .recv t x true) (hu : P.underlying t = some (.chan dir e)) (hi : P.info? e = some inf) (hz : inf.zero = some z) (ha : Has n env a) (hx : env.ev x = some (.chan (some c))) (w : World) :
    stepG P main (Conc.G (b.at a (.inRegion ops (j :: rest) :: k)) cs) w = .comm (Conc.G (b.at a (.inRegion ops (j :: rest) :: k)) cs) #[rcase c z] true (.recv true) w #[] := by
  have h1 := run_zero (w := w) hi hz
  have hr : (execOp a.eval o).run P w = .ok (.comm #[rcase c z] true (.recv true)) w := by
    simp [execOp, hop, run_underlying hu, h1, ha.ev hx, rcase]
  have he : (execOp a.eval o).events P w #[] = #[] := by
    simp [execOp, hop, run_underlying hu, ha.ev hx, events_underlying]
  rw [stepG_comm ho (ha.want hw) hk hr]
  unfold listed
  rw [he, seen_none]
theorem send_step {a : Act} {rest : List Nat} {x y : Operand} {c : Nat} {v : Value} {main : Bool} (ho : ops[j]? = some o) (hw : wantE ops env o = some true) (hk : b.kind ≠ .early) (hop : o.op = .send x y) (ha : Has n env a) (hx : env.ev x = some (.chan (some c))) (hy : env.ev y = some v) (w : World) :
    stepG P main (Conc.G (b.at a (.inRegion ops (j :: rest) :: k)) cs) w = .comm (Conc.G (b.at a (.inRegion ops (j :: rest) :: k)) cs) #[scase c v (.tuple #[])] true .send w #[] := by
  have hr : (execOp a.eval o).run P w = .ok (.comm #[scase c v (.tuple #[])] true .send) w := by
    simp [execOp, hop, ha.ev hx, ha.ev hy, scase]
  have he : (execOp a.eval o).events P w #[] = #[] := by
    simp [execOp, hop, ha.ev hx]
  rw [stepG_comm ho (ha.want hw) hk hr]
  unfold listed
  rw [he, seen_none]
theorem TkO.recv (W : WkP P E l b) (hi0 : i ≠ 0) (hC : E.hasC = true) (hjob : ∀ j, l.job = some j → E.rs j = none) (hmr : l.mr = none) (hgr : l.gr = .out) (hlive : l.live = true) {x0 : Nat} {t e : TypeId} {dir : ChanDir} {x : Operand} {inf : TypeInfo} {z : Value} {d : Nat}
    (ho : ops[0]? = some o) (hw : wantE ops env o = some true) (hdd : o.dst = some d) (hd : Nat.blt d n = true) (hop : o.op = .recv t x true) (hu : P.underlying t = some (.chan dir e)) (hi : P.info? e = some inf) (hz : inf.zero = some z) (hx : env.ev x = some (.chan (some E.c)))
    (h1 : ∀ N', N = N' + 1 → ∀ w' q, View l.own w w' → TkO E N' i { l with ch := .no, job := some q } w' b n ((d, .tuple #[E.jv q, .bool true]) :: env) ds ops 1 k cs)
    (h2 : ∀ w', View l.own w w' → TkO E N i { l with ch := .no, sc := true } w' b n ((d, .tuple #[z, .bool false]) :: env) ds ops 1 k cs) :
    Tk E N i l w b n env ds (.code (.region x0 ops false) :: k) cs := by
  intro a ha hds
  have hlt := (Array.getElem?_eq_some_iff.1 ho).1
  have er : List.range ops.size = 0 :: List.range' 1 (ops.size - 1) := by
    rw [List.range_eq_range', show ops.size = (ops.size - 1) + 1 by omega, List.range'_succ]; simp
  refine Tr.stop (runs_G _ _) W.wk.ch fun G w₁ u hg hact hlo hv => ?_
  refine ⟨Conc.G (b.at a (.inRegion ops (0 :: List.range' 1 (ops.size - 1)) :: k)) cs, w₁, #[], l.to .recv, false, by rw [stepG_region, er], rfl, fun fn pos => ?_, ?_⟩
  · obtain ⟨G', dd, c⟩ := hg.toRecv hact hi0 hC (by rw [hlo]; exact hjob) (by rw [hlo]; exact hmr) (by rw [hlo]; exact hgr)
    rw [hlo] at dd
    refine ⟨G', by simpa [MemOp.ofEvents] using dd, .inr c, hlive, fun e => by cases e⟩
  · show Tr E N i (l.to .recv) _ w₁
    have hfin : ∀ v, (Conc.served (Conc.G (b.at a (.inRegion ops (0 :: List.range' 1 (ops.size - 1)) :: k)) cs) v) = Conc.G (b.at (a.put o.dst v) (.inRegion ops (List.range' 1 (ops.size - 1)) :: k)) cs := fun v => by
      unfold Conc.served
      show ({ (Conc.G _ cs) with frame := Frame.finish _ v, status := .running, offers := none } : Goroutine) = _
      rw [show (Conc.G (b.at a (.inRegion ops (0 :: List.range' 1 (ops.size - 1)) :: k)) cs).frame = b.at a (.inRegion ops (0 :: List.range' 1 (ops.size - 1)) :: k) from rfl, Frame.finish_at, ho]
      rfl
    have hput : ∀ v, Has n ((d, v) :: env) (a.put o.dst v) ∧ (a.put o.dst v).defers = ds := fun v => by
      have := ha.put (d := o.dst) (by rw [hdd]; exact hd) v
      rw [hdd] at this ⊢
      exact ⟨this, hds⟩
    refine Pro.Lv.fold ⟨runs_G _ _, .inr (.inr (.inr (.inl ⟨hi0, rfl, fun w₂ hv2 => ⟨z, ?_, fun v l' hl => ?_, fun l' hl => ?_⟩⟩)))⟩
    · show stepG E.P false _ w₂ = _
      rw [W.hP]
      exact recv_step ho hw W.wk.kind hop hu hi hz ha hx w₂
    · obtain ⟨q, rfl, rfl⟩ := hl
      cases N with
      | zero => trivial
      | succ N' =>
        have := h1 N' rfl w₂ q (hv.trans hv2) _ (hput (recvd true (E.jv q) true)).1 (hput _).2
        rw [hfin]; exact this
    · have hl : l' = { (l.to .recv) with ch := .no, sc := true } := hl
      subst hl
      rw [hfin]
      exact h2 w₂ (hv.trans hv2) _ (hput (recvd true z false)).1 (hput _).2
end
end Go.Co
