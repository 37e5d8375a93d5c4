/- A theory of many goroutines that count at once (a channel, a wait group, once, a mutex), the walks of the program's functions in it, and the law CountsSame of the seat, proved out of them. No condition beyond those that stand in each statement. -/
import Derived.Test.YtcikailibheakaaCoF
import Derived.Laws.Rows
namespace Go.Co.F1
open Go Go.Conc Go.Proofs
open Go.Co
open Go.ConcN (upd upd_ne upd_same)
variable {E : Geo} {N i : Nat} {l : Lo} {w : World}
set_option maxRecDepth 10000
theorem _root_.Go.Co.Tk.seqB {b : Frame} {n : Nat} {env : Nv} {ds : List Deferred} {k : List Item} {cs : List Frame} {x y : Code} (W : Wk E l b) (hlive : l.live = true)
    (h : ∀ w₁, View l.own w w₁ → (∀ b, l.own b → b < w₁.heap.size) → Tk E N i l w₁ b n env ds (.code x :: .code y :: k) cs) : Tk E N i l w b n env ds (.code (.seq x y) :: k) cs := by
  intro a ha hds
  refine Tr.stop (runs_G _ _) W.ch fun G w₁ t hg hact hlo hv => ?_
  refine ⟨_, w₁, #[], l, false, stepG_seq, rfl, fun fn pos => ?_, h w₁ hv (fun b hb => hg.s.old i b hact (by rw [hlo]; exact hb)) a ha hds⟩
  have := Did.id (i := i) hg
  rw [hlo] at this
  exact ⟨G, by simpa [MemOp.ofEvents] using this, .inr (Calm.id G), hlive, fun e => by cases e⟩
def Unmade (own : Nat → Prop) (w : World) (C : Nat) (FP : Nat → Prop) (vals : Nat → Int) : Prop := CB own w C 0 0 (.slice none 0 0) ∧ (∀ b, FP b ↔ b = C) ∧ ∀ r, vals r = 0
structure MadeC (own : Nat → Prop) (w : World) (C R cap : Nat) (ps : List Nat) (FP : Nat → Prop) (vals : Nat → Int) : Prop where
  cb : CB own w C 1 0 (.slice (some (adr R 0)) 19 cap)
  row : own R ∧ ∀ (r p : Nat), ps[r]? = some p → w.cell? (adr R r) = some (ptr p 0)
  len : ps.length = 19
  nodup : ps.Nodup
  cell : ∀ (r p : Nat), ps[r]? = some p → own p ∧ w.cell? (adr p 0) = some (.int .i64 (vals r)) ∧ w.frozen? (adr p 0) = false
  fp : ∀ b, FP b ↔ b = C ∨ b = R ∨ b ∈ ps
def Ctr (own : Nat → Prop) (w : World) (C : Nat) (FP : Nat → Prop) (vals : Nat → Int) : Prop := Unmade own w C FP vals ∨ ∃ R cap ps, MadeC own w C R cap ps FP vals
structure Stp (l : Lo) (w : World) (FP : Nat → Prop) (l' : Lo) (w' : World) (FP' : Nat → Prop) : Prop where
  sam : Sam l l'
  own : ∀ b, l.own b → l'.own b
  fr : Fr l.own FP w w'
  fp : ∀ b, FP' b → FP b ∨ w.heap.size ≤ b
theorem Stp.refl (l : Lo) (w : World) (FP : Nat → Prop) : Stp l w FP l w FP := ⟨Sam.refl _, fun _ h => h, Fr.refl _ _ _, fun _ h => .inl h⟩
theorem Stp.view {FP : Nat → Prop} {w' : World} (h : View l.own w w') : Stp l w FP l w' FP := ⟨Sam.refl _, fun _ h => h, Fr.view h, fun _ h => .inl h⟩
theorem Stp.trans {l1 l2 : Lo} {w1 w2 : World} {FP FP1 FP2 : Nat → Prop} (hb : ∀ b, l.own b → b < w.heap.size) (h : Stp l w FP l1 w1 FP1) (k : Stp l1 w1 FP1 l2 w2 FP2) : Stp l w FP l2 w2 FP2 :=
  ⟨h.sam.trans k.sam, fun b x => k.own b (h.own b x), ⟨Nat.le_trans h.fr.1 k.fr.1, fun b x hn => (k.fr.2 b (h.own b x) fun y => (h.fp b y).elim hn fun z => by have := hb b x; omega).trans (h.fr.2 b x hn)⟩,
    fun b x => (k.fp b x).elim (fun y => h.fp b y) fun y => .inr (Nat.le_trans h.fr.1 y)⟩
theorem Stp.pre {l1 : Lo} {w0 w1 : World} {FP FP1 : Nat → Prop} (hv : View l.own w w0) (k : Stp l w0 FP l1 w1 FP1) : Stp l w FP l1 w1 FP1 :=
  ⟨k.sam, k.own, (Fr.view hv).trans k.fr, fun b x => (k.fp b x).imp id fun y => Nat.le_trans hv.1 y⟩
theorem CB.fr {own own' : Nat → Prop} {w' : World} {C : Nat} {d wd : Int} {S : Value} (h : CB own w C d wd S) (ho : ∀ b, own b → own' b) (hv : ∀ b, own b → b < w.heap.size → w'.heap[b]? = w.heap[b]?) : CB own' w' C d wd S := h.mono (ho _ h.own) (hv C h.own h.lt)
theorem Ctr.mono {own own' : Nat → Prop} {w' : World} {C : Nat} {FP : Nat → Prop} {vals : Nat → Int} (h : Ctr own w C FP vals) (ho : ∀ b, own b → own' b) (hv : ∀ b, own b → b < w.heap.size → w'.heap[b]? = w.heap[b]?) : Ctr own' w' C FP vals := by
  rcases h with ⟨h1, h2⟩ | ⟨R, cap, ps, h⟩
  · exact .inl ⟨CB.fr h1 ho hv, h2⟩
  · refine .inr ⟨R, cap, ps, ⟨CB.fr h.cb ho hv, ?_, h.len, h.nodup, fun r p hp => ?_, h.fp⟩⟩
    · obtain ⟨h1, h3⟩ := h.row
      exact ⟨ho _ h1, fun r p hp => by have h2 := h3 r p hp; rw [(cell_same (a := adr R r) (hv R h1 (cell_block h2))).1]; exact h2⟩
    · obtain ⟨h1, h2, h3⟩ := h.cell r p hp
      have e := cell_same (a := adr p 0) (hv p h1 (cell_block h2))
      exact ⟨ho _ h1, by rw [e.1]; exact h2, by rw [e.2]; exact h3⟩
theorem Ctr.view {own : Nat → Prop} {w' : World} {C : Nat} {FP : Nat → Prop} {vals : Nat → Int} (h : Ctr own w C FP vals) (hv : View own w w') : Ctr own w' C FP vals := h.mono (fun _ x => x) fun b hb _ => hv.2 b hb
theorem MadeC.view {own : Nat → Prop} {w' : World} {C R cap : Nat} {ps : List Nat} {FP : Nat → Prop} {vals : Nat → Int} (h : MadeC own w C R cap ps FP vals) (hv : View own w w') : MadeC own w' C R cap ps FP vals := by
  obtain ⟨h1, h3⟩ := h.row
  exact ⟨h.cb.view hv, ⟨h1, fun r p hp => by rw [(cell_same (a := adr R r) (hv.2 R h1)).1]; exact h3 r p hp⟩, h.len, h.nodup, fun r p hp => by
    obtain ⟨g1, g2, g3⟩ := h.cell r p hp
    have e := cell_same (a := adr p 0) (hv.2 p g1)
    exact ⟨g1, by rw [e.1]; exact g2, by rw [e.2]; exact g3⟩, h.fp⟩
theorem MadeC.c (own : Nat → Prop) {C R cap : Nat} {ps : List Nat} {FP : Nat → Prop} {vals : Nat → Int} (h : MadeC own w C R cap ps FP vals) : Ctr own w C FP vals := .inr ⟨R, cap, ps, h⟩
set_option maxHeartbeats 4000000 in
theorem ready22O {C : Nat} {FP : Nat → Prop} {vals : Nat → Int} (A : Pr E l) (c : Ctr l.own w C FP vals) {fr : Frame} {cs : List Frame}
    (h : ∀ l' w' FP' R cap ps, Stp l w FP l' w' FP' → MadeC l'.own w' C R cap ps FP' vals → Tr E N i l' (Conc.G (fr.finish (.tuple #[])) cs) w') :
    Tr E N i l (Conc.G (Frame.enter Try.prog 22 #[ptr C 0] .normal) (fr :: cs)) w := by
  have hP := A.P
  have W : WkP Try.prog E l (base 22) := ⟨⟨A.fin, A.ch, by decide⟩, hP⟩
  refine Tr.enterP hP b22 (Nat.le_of_ble_eq_true rfl) ?_
  refine Tk.seqB W.wk A.live fun w0 hv0 hB0 => ?_
  have c := c.view hv0
  have h : ∀ l' w' FP' R cap ps, Stp l w0 FP l' w' FP' → MadeC l'.own w' C R cap ps FP' vals → Tr E N i l' (Conc.G (fr.finish (.tuple #[])) cs) w' := fun l' w' FP' R cap ps s m => h l' w' FP' R cap ps (s.pre hv0) m
  refine Tk.reg W ?_
  refine TkO.newO W A.rel (d := 1) (by rfl) (by rfl) (by rfl) (by rfl) (fun r => ptr r 0) (.cells #[ptr C 0] 50 (0, 0)) (fun a ha w₁ => exec_box (t := 50) (x := .tmp 0) (v := ptr C 0) (by rfl) (ha.ev (x := .tmp 0) rfl)) fun w₁ hv1 r hr => ?_
  have c1 := c.view hv1
  have hbnd : ∀ b, l.own b → b < w₁.heap.size := fun b hb => Nat.lt_of_lt_of_le (hB0 b hb) hv1.1
  have c2 : Ctr (l.grow r (r + 1)).own { w₁ with heap := w₁.heap.push (.cells #[ptr C 0] 50 (0, 0)) } C FP vals := c1.mono (fun _ x => .inl x) fun b _ hlt => by simp [Array.getElem?_push, Nat.ne_of_lt hlt]
  have s2 : Stp l w0 FP (l.grow r (r + 1)) { w₁ with heap := w₁.heap.push (.cells #[ptr C 0] 50 (0, 0)) } FP := by
    refine ⟨(Sam.refl l).grow, fun b hb => .inl hb, ⟨?_, fun b hb _ => ?_⟩, fun _ x => .inl x⟩
    · have := hv1.1
      show _ ≤ (w₁.heap.push _).size
      simp; omega
    · rw [← hv1.2 b hb]
      simp [Array.getElem?_push, Nat.ne_of_lt (hbnd b hb)]
  have hw2 : ∀ b, (l.grow r (r + 1)).own b → b < ({ w₁ with heap := w₁.heap.push (.cells #[ptr C 0] 50 (0, 0)) } : World).heap.size := fun b hb => by
    show _ < (w₁.heap.push _).size
    rcases hb with hb | hb
    · have := hbnd b hb; simp; omega
    · simp; omega
  have hbox : (l.grow r (r + 1)).own r ∧ ({ w₁ with heap := w₁.heap.push (.cells #[ptr C 0] 50 (0, 0)) } : World).heap[r]? = some (.cells #[ptr C 0] 50 (0, 0)) := ⟨.inr ⟨Nat.le_refl _, Nat.lt_succ_self _⟩, heap_push hr⟩
  have hrC : r ≠ C := fun e => by
    have hc : (∃ d, ({ w₁ with heap := w₁.heap.push (.cells #[ptr C 0] 50 (0, 0)) } : World).cell? (adr C 0) = some (.int .u32 d)) := by
      rcases c2 with ⟨x, _⟩ | ⟨_, _, _, x⟩
      · exact ⟨_, x.c0⟩
      · exact ⟨_, x.cb.c0⟩
    obtain ⟨d, hc⟩ := hc
    have h2 := hbox.2
    rw [e] at h2
    rw [cell_at h2] at hc; simp at hc
  have A2 : Pr E (l.grow r (r + 1)) := A.sam (Sam.refl l).grow
  generalize ({ w₁ with heap := w₁.heap.push (.cells #[ptr C 0] 50 (0, 0)) } : World) = w2 at c2 s2 hw2 hbox
  generalize l.grow r (r + 1) = l2 at c2 s2 hw2 hbox A2
  have W1 : WkP Try.prog E l2 (base 22) := wkp W A2.ch
  refine TkO.done W1 (by rfl) ?_
  refine Tk.reg W1 ?_
  refine TkO.open (by rfl) (Tk.oload W1.wk A2.rel (x := .tmp 1) (ad := adr r 0) (v := ptr C 0) (by rfl) (by rfl) (by rfl) (by rfl) (by rw [hP]; rfl) (by rfl) hbox.1 (by unfold World.cell?; rw [show w2.heap[(adr r 0).block]? = _ from hbox.2]; rfl) ?_)
  refine Tk.lay (rfl : Nv.put _ _ _ = (_, _) :: _) ?_
  show TkO _ _ _ _ _ _ _ _ _ _ 1 _ _
  (repeat (first | refine TkO.done W1 (by rfl) ?_ | refine TkO.unwantedS W1 (by rfl) (by rfl) (by rfl) (by rfl) ?_ | refine TkO.pureS W1 (by rfl) (by rfl) (by rfl) (by rfl) (by first | exact pure_move (.inl rfl) rfl | exact pure_move (.inr rfl) rfl | exact pure_nilCheck rfl rfl | exact pure_field rfl rfl (by rfl) rfl (by decide +kernel) | exact pure_int rfl rfl rfl rfl | exact pure_not rfl rfl | exact pure_pickT rfl rfl rfl | exact pure_pickF rfl rfl rfl | exact pure_shift rfl rfl rfl rfl | exact pure_eqlNil rfl rfl rfl (by rfl) | exact pure_conv rfl rfl (by rfl) (by rfl)) ?_ | refine Tk.seq (WkP.wk W1) ?_ | refine Tk.reg W1 ?_ | refine Tk.skip (WkP.wk W1) ?_ | refine Tk.block (WkP.wk W1) ?_ | refine Tk.condT (WkP.wk W1) rfl ?_ | refine Tk.condF (WkP.wk W1) rfl ?_ | refine Tk.exit (WkP.wk W1) rfl ?_ | refine Tk.label (WkP.wk W1) ?_))
  refine TkO.pureS W1 (by rfl) (by rfl) (by rfl) (by rfl) (pure_makeFunc (f := 44) (vs := []) (us := [ptr r 0]) (by rfl) (by rfl) (by rfl)) ?_
  refine TkO.call W1 (by rfl) (by rfl) (by rfl) (by rfl) b43 rfl fun fr1 hk1 => ?_
  have back : ∀ l' w' FP' R cap ps, Stp l2 w2 FP l' w' FP' → MadeC l'.own w' C R cap ps FP' vals → Tr E N i l' (Conc.G (fr1.finish (.tuple #[])) (fr :: cs)) w' := fun l' w' FP' R cap ps s m => by
    refine hk1 _ _ _ (TkO.lay (rfl : Nv.put _ _ _ = (_, _) :: _) ?_)
    have A3 : Pr E l' := A2.sam s.sam
    have W2 : WkP Try.prog E l' (base 22) := wkp W A3.ch
    (repeat (first | refine TkO.done W2 (by rfl) ?_ | refine TkO.unwantedS W2 (by rfl) (by rfl) (by rfl) (by rfl) ?_ | refine TkO.pureS W2 (by rfl) (by rfl) (by rfl) (by rfl) (by first | exact pure_move (.inl rfl) rfl | exact pure_move (.inr rfl) rfl | exact pure_nilCheck rfl rfl | exact pure_field rfl rfl (by rfl) rfl (by decide +kernel) | exact pure_int rfl rfl rfl rfl | exact pure_not rfl rfl | exact pure_pickT rfl rfl rfl | exact pure_pickF rfl rfl rfl | exact pure_shift rfl rfl rfl rfl | exact pure_eqlNil rfl rfl rfl (by rfl) | exact pure_conv rfl rfl (by rfl) (by rfl)) ?_ | refine Tk.seq (WkP.wk W2) ?_ | refine Tk.reg W2 ?_ | refine Tk.skip (WkP.wk W2) ?_ | refine Tk.block (WkP.wk W2) ?_ | refine Tk.condT (WkP.wk W2) rfl ?_ | refine Tk.condF (WkP.wk W2) rfl ?_ | refine Tk.exit (WkP.wk W2) rfl ?_ | refine Tk.label (WkP.wk W2) ?_))
    exact Tk.fall W2.wk (TkR.leave0 W2.wk (hP ▸ b22) (h _ _ _ _ _ _ (Stp.trans hB0 s2 s) m))
  -- Once.Do
  have W43 : WkP Try.prog E l2 (base 43) := ⟨⟨A2.fin, A2.ch, by decide⟩, hP⟩
  refine Tr.enterP hP b43 (Nat.le_of_ble_eq_true rfl) ?_
  (repeat (first | refine TkO.done W43 (by rfl) ?_ | refine TkO.unwantedS W43 (by rfl) (by rfl) (by rfl) (by rfl) ?_ | refine TkO.pureS W43 (by rfl) (by rfl) (by rfl) (by rfl) (by first | exact pure_move (.inl rfl) rfl | exact pure_move (.inr rfl) rfl | exact pure_nilCheck rfl rfl | exact pure_field rfl rfl (by rfl) rfl (by decide +kernel) | exact pure_int rfl rfl rfl rfl | exact pure_not rfl rfl | exact pure_pickT rfl rfl rfl | exact pure_pickF rfl rfl rfl | exact pure_shift rfl rfl rfl rfl | exact pure_eqlNil rfl rfl rfl (by rfl) | exact pure_conv rfl rfl (by rfl) (by rfl)) ?_ | refine Tk.seq (WkP.wk W43) ?_ | refine Tk.reg W43 ?_ | refine Tk.skip (WkP.wk W43) ?_ | refine Tk.block (WkP.wk W43) ?_ | refine Tk.condT (WkP.wk W43) rfl ?_ | refine Tk.condF (WkP.wk W43) rfl ?_ | refine Tk.exit (WkP.wk W43) rfl ?_ | refine Tk.label (WkP.wk W43) ?_))
  refine TkO.call W43 (by rfl) (by rfl) (by rfl) (by rfl) b50 rfl fun fr2 hk2 => ?_
  rcases c2 with ⟨cb, hfp, hvals⟩ | ⟨R, cap, ps, m⟩
  · refine boolLoadO A2 cb (.inl rfl) fun w3 hv3 => hk2 _ _ _ (TkO.lay (rfl : Nv.put _ _ _ = (_, _) :: _) ?_)
    (repeat (first | refine TkO.done W43 (by rfl) ?_ | refine TkO.unwantedS W43 (by rfl) (by rfl) (by rfl) (by rfl) ?_ | refine TkO.pureS W43 (by rfl) (by rfl) (by rfl) (by rfl) (by first | exact pure_move (.inl rfl) rfl | exact pure_move (.inr rfl) rfl | exact pure_nilCheck rfl rfl | exact pure_field rfl rfl (by rfl) rfl (by decide +kernel) | exact pure_int rfl rfl rfl rfl | exact pure_not rfl rfl | exact pure_pickT rfl rfl rfl | exact pure_pickF rfl rfl rfl | exact pure_shift rfl rfl rfl rfl | exact pure_eqlNil rfl rfl rfl (by rfl) | exact pure_conv rfl rfl (by rfl) (by rfl)) ?_ | refine Tk.seq (WkP.wk W43) ?_ | refine Tk.reg W43 ?_ | refine Tk.skip (WkP.wk W43) ?_ | refine Tk.block (WkP.wk W43) ?_ | refine Tk.condT (WkP.wk W43) rfl ?_ | refine Tk.condF (WkP.wk W43) rfl ?_ | refine Tk.exit (WkP.wk W43) rfl ?_ | refine Tk.label (WkP.wk W43) ?_))
    refine TkO.call W43 (by rfl) (by rfl) (by rfl) (by rfl) b51 rfl fun fr3 hk3 => ?_
    refine slow51O A2 (cb.view hv3) b44 (fun l' w' S' => Mem0 E l2 l' w2 w' C ∧ (∃ ps, RowI l'.own w' 19 S' ps ∧ RowF w2.heap.size S' ps) ∧ CB l'.own w' C 0 1 S') (fun l' w' S' q => ⟨q.1.pr, q.2.2⟩) (fun w4 fr' cs' cb4 f4 hM => ?_) (fun l4 w4 S' w5 q cb5 f5 => ?_)
    · have hbox4 : l2.own r ∧ w4.heap[r]? = some (.cells #[ptr C 0] 50 (0, 0)) := ⟨hbox.1, by rw [f4.2 r hbox.1 hrC, hv3.2 r hbox.1]; exact hbox.2⟩
      refine made44O A2 (fun b hb => Nat.lt_of_lt_of_le (hw2 b hb) (Nat.le_trans hv3.1 f4.1)) hbox4 cb4 fun l5 w5 S ps M5 hrow hrf cb5 => hM l5 w5 S ⟨⟨M5.pr, M5.sam, M5.own, ?_, hw2⟩, ⟨ps, hrow, ⟨fun p hp => ?_, fun g hg => ?_⟩⟩, cb5⟩
      · exact (Fr.view hv3).trans (f4.trans M5.fr)
      · exact Nat.le_trans (Nat.le_trans hv3.1 f4.1) (hrf.1 p hp)
      · exact Nat.le_trans (Nat.le_trans hv3.1 f4.1) (hrf.2 g hg)
    · obtain ⟨M4, ⟨ps, hrow, hrf⟩, cb4⟩ := q
      have W5 : WkP Try.prog E l4 (base 43) := ⟨⟨A2.fin, M4.pr.ch, by decide⟩, hP⟩
      refine hk3 _ _ _ (TkO.lay (rfl : Nv.put _ _ _ = (_, _) :: _) ?_)
      (repeat (first | refine TkO.done W5 (by rfl) ?_ | refine TkO.unwantedS W5 (by rfl) (by rfl) (by rfl) (by rfl) ?_ | refine TkO.pureS W5 (by rfl) (by rfl) (by rfl) (by rfl) (by first | exact pure_move (.inl rfl) rfl | exact pure_move (.inr rfl) rfl | exact pure_nilCheck rfl rfl | exact pure_field rfl rfl (by rfl) rfl (by decide +kernel) | exact pure_int rfl rfl rfl rfl | exact pure_not rfl rfl | exact pure_pickT rfl rfl rfl | exact pure_pickF rfl rfl rfl | exact pure_shift rfl rfl rfl rfl | exact pure_eqlNil rfl rfl rfl (by rfl) | exact pure_conv rfl rfl (by rfl) (by rfl)) ?_ | refine Tk.seq (WkP.wk W5) ?_ | refine Tk.reg W5 ?_ | refine Tk.skip (WkP.wk W5) ?_ | refine Tk.block (WkP.wk W5) ?_ | refine Tk.condT (WkP.wk W5) rfl ?_ | refine Tk.condF (WkP.wk W5) rfl ?_ | refine Tk.exit (WkP.wk W5) rfl ?_ | refine Tk.label (WkP.wk W5) ?_))
      have hS : ∃ R cap cur, S' = .slice (some (adr R 0)) 19 cap ∧ w4.heap[R]? = some (.cells cur 51 (0, 0)) ∧ cur.toList.take 19 = ps.map fun p => ptr p 0 := by
        rcases hrow.row.2 with ⟨_, x⟩ | ⟨R, cap, cur, x, _, y, _, _, _, z⟩
        · cases x
        · exact ⟨R, cap, cur, x, y, z⟩
      obtain ⟨R, cap, cur, rfl, hR, htake⟩ := hS
      have hRC : R ≠ C := fun e => by
        have := hrf.2 R rfl
        have := hw2 C cb.own
        omega
      have hRown : l4.own R := hrow.rown R rfl
      have h5 : ∀ b, l4.own b → b ≠ C → w5.heap[b]? = w4.heap[b]? := fun b hb hn => f5.2 b hb hn
      refine Tk.fall W5.wk (TkR.leave0 W5.wk (hP ▸ b43) (back l4 w5 (fun b => b = C ∨ b = R ∨ b ∈ ps) R cap ps ⟨M4.sam, M4.own, ?_, fun b hb => ?_⟩ ⟨cb5, ⟨hRown, fun r p hp => ?_⟩, hrow.len, hrow.nodup, fun r p hp => ?_, fun b => Iff.rfl⟩))
      · have f0 : Fr l2.own (· = C) w2 w5 := M4.fr.trans ⟨f5.1, fun b hb hn => f5.2 b (M4.own b hb) hn⟩
        exact ⟨f0.1, fun b hb hn => f0.2 b hb fun e => hn ((hfp b).2 e)⟩
      · rcases hb with hb | hb | hb
        · exact .inl ((hfp b).2 hb)
        · exact .inr (hb ▸ hrf.2 R rfl)
        · exact .inr (hrf.1 b hb)
      · have h1 : (ps.map fun p => ptr p 0)[r]? = some (ptr p 0) := by rw [List.getElem?_map, hp]; rfl
        rw [← htake, List.getElem?_take] at h1
        rw [cell_at (by rw [h5 R hRown hRC]; exact hR)]
        split at h1
        · simpa using h1
        · cases h1
      · have hm := hrow.cell p (List.mem_of_getElem? hp)
        have hpC : p ≠ C := fun e => by
          have := hrf.1 p (List.mem_of_getElem? hp)
          have := hw2 C cb.own
          omega
        have hm5 := h5 p hm.1 hpC
        rw [hm.2] at hm5
        refine ⟨hm.1, ?_, ?_⟩
        · rw [hvals r, cell_at hm5]; rfl
        · unfold World.frozen?; rw [show w5.heap[(adr p 0).block]? = _ from hm5]; simp
  · refine boolLoadO A2 m.cb (.inr rfl) fun w3 hv3 => hk2 _ _ _ (TkO.lay (rfl : Nv.put _ _ _ = (_, _) :: _) ?_)
    (repeat (first | refine TkO.done W43 (by rfl) ?_ | refine TkO.unwantedS W43 (by rfl) (by rfl) (by rfl) (by rfl) ?_ | refine TkO.pureS W43 (by rfl) (by rfl) (by rfl) (by rfl) (by first | exact pure_move (.inl rfl) rfl | exact pure_move (.inr rfl) rfl | exact pure_nilCheck rfl rfl | exact pure_field rfl rfl (by rfl) rfl (by decide +kernel) | exact pure_int rfl rfl rfl rfl | exact pure_not rfl rfl | exact pure_pickT rfl rfl rfl | exact pure_pickF rfl rfl rfl | exact pure_shift rfl rfl rfl rfl | exact pure_eqlNil rfl rfl rfl (by rfl) | exact pure_conv rfl rfl (by rfl) (by rfl)) ?_ | refine Tk.seq (WkP.wk W43) ?_ | refine Tk.reg W43 ?_ | refine Tk.skip (WkP.wk W43) ?_ | refine Tk.block (WkP.wk W43) ?_ | refine Tk.condT (WkP.wk W43) rfl ?_ | refine Tk.condF (WkP.wk W43) rfl ?_ | refine Tk.exit (WkP.wk W43) rfl ?_ | refine Tk.label (WkP.wk W43) ?_))
    exact Tk.fall W43.wk (TkR.leave0 W43.wk (hP ▸ b43) (back l2 w3 FP R cap ps (Stp.view hv3) (m.view hv3)))
end Go.Co.F1

namespace Go.Co.F1
open Go Go.Conc Go.Proofs
open Go.Co
open Go.ConcM (OsLater)
open Go.ConcN (sumTo upd sumTo_upd upd_ne upd_same sumTo_congr le_sumTo sumTo_le)
set_option maxRecDepth 10000
theorem mu_none {x : Wd} {s : Nat} {c : Ro → Nat} (h : MuI x s c) (hc : ∀ r, c r = 0) : x = ⟨false, false, false, 0⟩ ∧ s = 0 := by
  obtain ⟨l, w, s', q⟩ := x
  obtain ⟨h1, h2, h3⟩ := h
  simp only [hc] at h1 h2 h3
  cases s' with
  | true =>
    have := h3 rfl
    omega
  | false =>
    have := h2 rfl
    obtain ⟨_, _, _, a, b, _⟩ := this
    have hs : s = 0 := by omega
    have hq : q = 0 := by omega
    have hw : w.toNat = 0 := by omega
    subst hs; subst hq
    have hl : l = false := by cases l with | false => rfl | true => exact absurd h1 (by decide)
    have hw : w = false := by cases w with | false => rfl | true => exact absurd hw (by decide)
    subst hl; subst hw; exact ⟨rfl, rfl⟩
variable {Sh : Nat → Prop} {n : Nat} {w w0 : World} {t : Trace} {C H B c nj : Nat} {jv : Nat → Value} {rs : Nat → Option Nat} {fin : Lo → Goroutine → World → Prop} {finJ : ∀ l g w, fin l g w → l.gr = .joined} {G : Gh}
theorem tally_ctr (h : GI (tGeo Sh n w0 C H B c nj jv rs fin finJ) G w t) (hj : (G.th 0).gr = .joined) (h0 : ∀ i, (G.th i).live = true → i = 0) (hmr : (G.th 0).mr = none) (hjob : (G.th 0).job = none) (hCB : C ≠ B) (hsC : ¬ Sh C) :
    ∃ FP, Ctr (fun b => b < w.heap.size ∧ ¬ (Sh b ∨ b = B)) w C FP (fun r => (sentTo rs r nj : Int)) ∧ (∀ b, FP b → ¬ (G.th 0).own b) := by
  have hl0 := h.a.live0
  have hn0 : 0 < G.n := by have := h.a.pos0; omega
  have hcnt : ∀ r, G.cnt 0 r = 0 := fun r => sumTo_zero fun i _ => by
    unfold Lo.at
    rw [if_neg]
    rintro ⟨a, b⟩
    have := h0 i a
    subst this
    rw [hmr] at b; cases b
  obtain ⟨hw, hs⟩ := mu_none (h.k.mu 0 Nat.zero_lt_one) hcnt
  have hpos : G.pos = nj := (h.j.cl (h.j.shutW rfl (by rw [hj]; simp))).1
  have hcv : ∀ r, G.cv r = sentTo rs r nj := fun r => by
    have := h.j.cnt r
    have e : sumTo G.n (fun i => (G.th i).holds (tGeo Sh n w0 C H B c nj jv rs fin finJ).rs r) = 0 := sumTo_zero fun i _ => by
      unfold Lo.holds
      cases e : (G.th i).job with
      | none => rfl
      | some j =>
        simp only
        rw [if_neg]
        rintro ⟨a, _⟩
        have := h0 i a
        subst this
        rw [hjob] at e; cases e
    rw [e, hpos] at this
    exact this
  have hok : ∀ x : SC, x = .done 0 ∨ x = .word 0 ∨ x = .sema 0 → x.ok 1 := fun x hx => lt_ok.2 (by rcases hx with rfl | rfl | rfl <;> simp)
  have c0 := h.m.sync (.done 0) (hok _ (.inl rfl))
  have c1 := h.m.sync (.word 0) (hok _ (.inr (.inl rfl)))
  have c2 := h.m.sync (.sema 0) (hok _ (.inr (.inr rfl)))
  have hrun : ∀ i, (G.th i).live = true → (G.th i).run ≠ some 0 := fun i hi e => by
    have := h0 i hi
    subst this
    have := (h.k.run 0 0 hi e).1
    rw [hmr] at this; cases this
  have hCw : C < w.heap.size := cell_block c0.1
  have notB : ∀ a v d, G.app a = some (v, d) → a.off = 0 → a.spot = none → a.block ≠ B := fun a v d e e1 e2 e3 => (h.m.app a v d e).2.2 .wst Nat.zero_lt_one (adr_ext e3 e1 e2)
  have happ : CApp C H (.chan (some c)) G.app G.dn G.cv := h.more
  have c1' : w.cell? (adr C 1) = some (.int .i32 0) := by
    have := c1.1
    rw [show G.val (.word 0) = .int .i32 (G.wd 0).enc from rfl, hw] at this
    exact this
  have notown : ∀ a v d, G.app a = some (v, d) → ¬ (G.th 0).own a.block := fun a v d e ho => (h.s.nsh 0 _ hl0 ho).2.1 a _ e rfl
  have Cown : ¬ (G.th 0).own C := fun ho => (h.s.nsh 0 _ hl0 ho).1 (.done 0) (hok _ (.inl rfl)) rfl
  rcases happ.2 with ⟨hd, ⟨v, hv⟩, _, hz⟩ | ⟨hd, R, cap, ps, T⟩
  · -- nobody has counted
    have hv' : v = .slice none 0 0 := by
      rcases (h.k.prot _ v 0 hv).2.2 with ⟨i, hi, e, _⟩ | ⟨_, e⟩
      · exact absurd e (hrun i hi)
      · have e : tIni C (adr C 3) = some (v, 0) := e
        unfold tIni at e
        rw [if_pos rfl] at e
        cases e; rfl
    obtain ⟨c3, f3, _⟩ := h.m.app _ _ _ hv
    have c0' : w.cell? (adr C 0) = some (.int .u32 0) := by
      have := c0.1
      rw [show G.val (.done 0) = .int .u32 (G.dn 0).toNat from rfl, hd] at this
      exact this
    refine ⟨fun b => b = C, .inl ⟨⟨⟨hCw, fun e => e.elim hsC hCB⟩, c0', c1', by rw [← hv']; exact c3, fun o ho => ?_⟩, fun b => Iff.rfl, fun r => by show ((sentTo rs r nj : Nat) : Int) = 0; rw [← hcv, hz]; rfl⟩, fun b hb => by rw [hb]; exact Cown⟩
    have : o = 0 ∨ o = 1 ∨ o = 2 ∨ o = 3 := by omega
    rcases this with rfl | rfl | rfl | rfl
    · exact c0.2
    · exact c1.2
    · exact c2.2
    · exact f3
  · obtain ⟨c3, f3, _⟩ := h.m.app _ _ _ T.s
    have c0' : w.cell? (adr C 0) = some (.int .u32 1) := by
      have := c0.1
      rw [show G.val (.done 0) = .int .u32 (G.dn 0).toNat from rfl, hd] at this
      exact this
    have hl19 : 0 < ps.length := by rw [T.len]; decide
    have hR := T.r 0 _ (List.getElem?_eq_getElem hl19)
    refine ⟨fun b => b = C ∨ b = R ∨ b ∈ ps, .inr ⟨R, cap, ps, ⟨⟨⟨hCw, fun e => e.elim hsC hCB⟩, c0', c1', c3, fun o ho => ?_⟩, ⟨⟨cell_block (h.m.app _ _ _ hR.1).1, fun e => e.elim (h.s.nshA _ _ hR.1) (notB _ _ _ hR.1 rfl rfl)⟩, fun r p hp => (h.m.app _ _ _ (T.r r p hp).1).1⟩, T.len, T.nodup, fun r p hp => ?_, fun b => Iff.rfl⟩⟩, fun b hb => ?_⟩
    · have : o = 0 ∨ o = 1 ∨ o = 2 ∨ o = 3 := by omega
      rcases this with rfl | rfl | rfl | rfl
      · exact c0.2
      · exact c1.2
      · exact c2.2
      · exact f3
    · obtain ⟨a1, a2, _⟩ := h.m.app _ _ _ (T.r r p hp).2
      refine ⟨⟨cell_block a1, fun e => e.elim (h.s.nshA _ _ (T.r r p hp).2) (notB _ _ _ (T.r r p hp).2 rfl rfl)⟩, ?_, a2⟩
      show w.cell? (adr p 0) = some (.int .i64 ((sentTo rs r nj : Nat) : Int))
      rw [← hcv]; exact a1
    · rcases hb with rfl | rfl | hb
      · exact Cown
      · exact notown _ _ _ hR.1
      · obtain ⟨r, hr⟩ := List.mem_iff_getElem?.1 hb
        exact notown _ _ _ (T.r r b hr).2
end Go.Co.F1

namespace Go.Co
open Go Go.Conc
open Go.ConcN (upd upd_ne upd_same)
variable {E : Geo} {N i : Nat} {l : Lo} {w : World}
def arrV (m : Nat) (f : Nat → Int) : Array Value := ((List.range m).map fun i => Value.int .i64 (f i)).toArray
theorem arrV_get {m : Nat} {f : Nat → Int} {i : Nat} : (arrV m f)[i]? = if i < m then some (.int .i64 (f i)) else none := by
  unfold arrV
  simp only [List.getElem?_toArray, List.getElem?_map]
  split
  · rename_i h; simp [h]
  · rename_i h; simp [List.getElem?_eq_none (show (List.range m).length ≤ i by simp; omega)]
theorem arrV_size {m : Nat} {f : Nat → Int} : (arrV m f).size = m := by simp [arrV]
theorem arrV_set {m : Nat} {f : Nat → Int} {i : Nat} {v : Int} (h : i < m) : (arrV m f).setIfInBounds i (.int .i64 v) = arrV m (upd f i v) := by
  apply Array.ext_getElem?
  intro j
  have h1 : ((arrV m f).setIfInBounds i (.int .i64 v))[j]? = (arrV m (upd f i v))[j]? := by
    rw [Array.getElem?_setIfInBounds, arrV_get, arrV_get, arrV_size]
    by_cases e : i = j
    · subst e; simp [h, upd_same]
    · rw [if_neg e, upd_ne _ _ (Ne.symm e)]
  exact h1
theorem arrV_zero {m : Nat} : Array.replicate m (Value.int .i64 0) = arrV m fun _ => 0 := by
  apply Array.ext_getElem?
  intro j
  have h1 : (Array.replicate m (Value.int .i64 0))[j]? = (arrV m fun _ => 0)[j]? := by
    rw [arrV_get, Array.getElem?_replicate]
  exact h1
theorem arrV_one {m : Nat} {f : Nat → Int} : (arrV m f).all (·.oneCell') = true := by
  rw [Array.all_eq_true_iff_forall_mem]
  intro v hv
  unfold arrV at hv
  simp at hv
  obtain ⟨j, _, rfl⟩ := hv
  rfl
theorem arrV_ext {m : Nat} {f g : Nat → Int} (h : ∀ i, i < m → f i = g i) : arrV m f = arrV m g := by
  unfold arrV
  congr 1
  apply List.map_congr_left
  intro i hi
  rw [h i (List.mem_range.1 hi)]
def arrEq (m : Nat) (f g : Nat → Int) : Bool := (List.range' 0 m).all fun j => f j == g j
theorem arrEq_true {m : Nat} {f g : Nat → Int} (h : ∀ i, i < m → f i = g i) : arrEq m f g = true := by
  unfold arrEq
  rw [List.all_eq_true]
  intro j hj
  rw [List.mem_range'] at hj
  obtain ⟨k, hk, rfl⟩ := hj
  simpa using h _ (by omega)
section
variable {P : Program} {t e : TypeId} {m : Nat} {f g : Nat → Int}
theorem part_int {j : Nat} (he : P.underlying e = some (.int .i64)) (hj : j < m) (w : World) : (part e (arrV m f) j).run P w = .ok (.int .i64 (f j)) w ∧ ∀ es, (part e (arrV m f) j).events P w es = es := by
  have h1 := run_underlying he w
  have hg : (arrV m f)[j]? = some (.int .i64 (f j)) := by rw [arrV_get, if_pos hj]
  have ha : (isAgg e).run P w = .ok false w := by simp [isAgg, h1]
  have hae : ∀ es, (isAgg e).events P w es = es := fun es => by simp [isAgg, h1, events_underlying]
  constructor
  · simp [part, ha, hg]
  · intro es; simp [part, ha, hae, hg]
theorem eqInt {D : Nat} {a b : Int} (he : P.underlying e = some (.int .i64)) (w : World) : (Op.equalIn (D + 1) e (.int .i64 a) (.int .i64 b)).run P w = .ok (a == b) w ∧ ∀ es, (Op.equalIn (D + 1) e (.int .i64 a) (.int .i64 b)).events P w es = es := by
  have h1 := run_underlying he w
  constructor
  · simp [Op.equalIn, h1]
  · intro es; simp [Op.equalIn, h1, events_underlying]
theorem eqLoop {D : Nat} (he : P.underlying e = some (.int .i64)) (w : World) : ∀ (len i : Nat), i + len ≤ m →
    ((forIn (List.range' i len) ((none, ()) : Option Bool × Unit) fun i _ => do
        let p ← part e (arrV m f) (i * 1)
        let q ← part e (arrV m g) (i * 1)
        let z ← Op.equalIn (D + 1) e p q
        if (!z) = true then pure (ForInStep.done (some false, ())) else pure (ForInStep.yield (none, ()))) : Sem _).run P w = .ok (bif (List.range' i len).all (fun j => f j == g j) then none else some false, ()) w ∧
    ∀ es, ((forIn (List.range' i len) ((none, ()) : Option Bool × Unit) fun i _ => do
        let p ← part e (arrV m f) (i * 1)
        let q ← part e (arrV m g) (i * 1)
        let z ← Op.equalIn (D + 1) e p q
        if (!z) = true then pure (ForInStep.done (some false, ())) else pure (ForInStep.yield (none, ()))) : Sem _).events P w es = es := by
  intro len
  induction len with
  | zero => intro i _; simp
  | succ len ih =>
    intro i hi
    obtain ⟨p1, p2⟩ := part_int (f := f) (m := m) (j := i * 1) he (by omega) w
    obtain ⟨q1, q2⟩ := part_int (f := g) (m := m) (j := i * 1) he (by omega) w
    obtain ⟨r1, r2⟩ := eqInt (P := P) (D := D) (a := f (i * 1)) (b := g (i * 1)) he w
    obtain ⟨s1, s2⟩ := ih (i + 1) (by omega)
    simp only [Nat.mul_one] at p1 p2 q1 q2 r1 r2 s1 s2
    rw [List.range'_succ, List.forIn_cons]
    simp only [Nat.mul_one, List.all_cons]
    by_cases hx : f i = g i
    · have hb : (f i == g i) = true := by simp [hx]
      rw [hb] at r1
      rw [hb, Bool.true_and]
      constructor
      · simp [p1, q1, r1]; simpa using s1
      · intro es; simp [p1, q1, r1, p2, q2, r2]; simpa using s2 es
    · have hb : (f i == g i) = false := by simp [hx]
      rw [hb] at r1
      rw [hb, Bool.false_and]
      constructor
      · simp [p1, q1, r1]
      · intro es; simp [p1, q1, r1, p2, q2, r2]
theorem pure_eqArr {env : Nv} {o : Oper} {yt : TypeId} {x y : Operand} (ho : o.op = .binOp .eql t x y yt) (hx : env.ev x = some (.agg (arrV m f))) (hy : env.ev y = some (.agg (arrV m g))) (hu : P.underlying t = some (.array m e)) (he : P.underlying e = some (.int .i64)) (hz : P.cellsOf e = 1) (hG : P.eqGuardType P.depth t = false) : PureOp P env o (.bool (arrEq m f g)) := fun n a ha w => by
  have h1 := run_underlying hu w
  have hi : ∃ i, P.info? e = some i := by
    unfold Program.cellsOf at hz
    cases hi : P.info? e with
    | none => simp [hi] at hz
    | some i => exact ⟨i, rfl⟩
  obtain ⟨inf, hi⟩ := hi
  have h3 := sizeOf_run hi w
  rw [hz] at h3
  have e9 : Op.maxDepth = 9998 + 1 + 1 := rfl
  obtain ⟨s1, s2⟩ := eqLoop (P := P) (f := f) (g := g) (m := m) (D := 9998) he w m 0 (by omega)
  have hq : (Op.equal t (.agg (arrV m f)) (.agg (arrV m g))).run P w = .ok (arrEq m f g) w ∧ ∀ es, (Op.equal t (.agg (arrV m f)) (.agg (arrV m g))).events P w es = es := by
    unfold Op.equal
    rw [e9]
    generalize 9998 = D at s1 s2
    unfold Op.equalIn
    constructor
    · simp only [Sem.run_bind, h1, Result.andThen_ok, h3, Std.Legacy.Range.forIn_eq_forIn_range', Std.Legacy.Range.size, Nat.sub_zero, Nat.add_sub_cancel, Nat.div_one]
      rw [s1]
      unfold arrEq
      cases (List.range' 0 m).all fun j => f j == g j <;> simp
    · intro es
      simp only [Sem.events_bind, h1, Result.evThen_ok, h3, events_underlying, events_sizeOf, Std.Legacy.Range.forIn_eq_forIn_range', Std.Legacy.Range.size, Nat.sub_zero, Nat.add_sub_cancel, Nat.div_one]
      rw [s1, s2]
      cases (List.range' 0 m).all fun j => f j == g j <;> simp
  have hp : (program : Sem Program).run P w = .ok P w := rfl
  have hg1 : (eqGuard .eql t x y (.agg (arrV m f)) (.agg (arrV m g))).run P w = .ok () w := by
    simp [eqGuard, hp, hG]
  have hg2 : ∀ es, (eqGuard .eql t x y (.agg (arrV m f)) (.agg (arrV m g))).events P w es = es := fun es => by
    have hpe : ∀ es, (program : Sem Program).events P w es = es := fun _ => rfl
    simp [eqGuard, hp, hpe, hG]
  have ee : execOp a.eval o = (do let r ← (do eqGuard .eql t x y (.agg (arrV m f)) (.agg (arrV m g)); binOp .eql t (.agg (arrV m f)) (.agg (arrV m g))); pure (.value r)) := by
    unfold execOp; rw [ho]; simp only [ha.ev hx, ha.ev hy]
  have e3 : binOp .eql t (.agg (arrV m f)) (.agg (arrV m g)) = (do pure (.bool (← Op.equal t (.agg (arrV m f)) (.agg (arrV m g))))) := rfl
  rw [ee, e3]
  constructor
  · simp only [Sem.run_bind, Sem.run_pure, Result.andThen_ok, hg1, hq.1]
  · simp only [Sem.events_bind, Sem.run_bind, Sem.run_pure, Sem.events_pure, Result.andThen_ok, Result.evThen_ok, hg1, hg2, hq.1, hq.2]
theorem pure_indexA {env : Nv} {o : Oper} {x y : Operand} {b off : Nat} {k : IntKind} {j : Int} (ho : o.op = .indexAddr t x y) (hu : P.underlying t = some (.array m e)) (hz : P.cellsOf e = 1) (hx : env.ev x = some (.pointer (some ⟨b, off, none⟩))) (hy : env.ev y = some (.int k j)) (hj : 0 ≤ j ∧ j < m) :
    PureOp P env o (.pointer (some ⟨b, off + j.toNat, none⟩)) := fun n a ha w => by
  have hi : ∃ i, P.info? e = some i := by
    unfold Program.cellsOf at hz
    cases hi : P.info? e with
    | none => simp [hi] at hz
    | some i => exact ⟨i, rfl⟩
  obtain ⟨inf, hi⟩ := hi
  have h1 := sizeOf_run hi w
  rw [hz] at h1
  have hadd : (⟨b, off, none⟩ : Addr).add j.toNat = ⟨b, off + j.toNat, none⟩ := by simp [Addr.add]
  constructor <;> simp [execOp, ho, ha.ev hx, ha.ev hy, Instr.indexAt, Instr.sureAddr, asIntOf, run_underlying hu, h1, hj, hadd, events_underlying, events_sizeOf]
theorem pure_indexV {env : Nv} {o : Oper} {x y : Operand} {k : IntKind} {j : Int} (ho : o.op = .index t x y) (hu : P.underlying t = some (.array m e)) (he : P.underlying e = some (.int .i64)) (hz : P.cellsOf e = 1) (hx : env.ev x = some (.agg (arrV m f))) (hy : env.ev y = some (.int k j)) (hj : 0 ≤ j ∧ j < m) :
    PureOp P env o (.int .i64 (f j.toNat)) := fun n a ha w => by
  have hi : ∃ i, P.info? e = some i := by
    unfold Program.cellsOf at hz
    cases hi : P.info? e with
    | none => simp [hi] at hz
    | some i => exact ⟨i, rfl⟩
  obtain ⟨inf, hi⟩ := hi
  have h1 := sizeOf_run hi w
  rw [hz] at h1
  obtain ⟨p1, p2⟩ := part_int (P := P) (f := f) (m := m) (j := j.toNat) he (by omega) w
  constructor <;> simp [execOp, ho, ha.ev hx, ha.ev hy, Instr.index, asIntOf, run_underlying hu, h1, hj, events_underlying, events_sizeOf, p1, p2]
end
end Go.Co
namespace Go.Co
open Go Go.Conc
variable {E : Geo} {N i : Nat} {l : Lo} {w : World}
section
variable {P : Program} {a : Act} {o : Oper} {t t' : TypeId} {x y : Operand} {g : Nat} {cs old : Array Value} {fr : Nat × Nat}
theorem loadVarA {m : Nat} {e : TypeId} (hg : w.heap[g]? = some (.cells cs t' fr)) (hu : P.underlying t = some (.array m e)) (hi : (P.info? t).map (·.size) = some cs.size) :
    (loadVar t ⟨g, 0, none⟩).run P w = .ok (.agg cs) w ∧ ∀ es, ∀ ev ∈ (loadVar t ⟨g, 0, none⟩).events P w es, ev ∈ es ∨ ∃ ad, ev.loc = .cell ad ∧ ad.block = g := by
  refine ⟨run_loadVar_row (P := P) w g t' t cs fr _ hg hu rfl hi, fun es ev hev => ?_⟩
  obtain ⟨inf, hi', hsz⟩ := Option.map_eq_some_iff.1 hi
  have h1 := run_underlying hu w
  have ha : (isAgg t).run P w = .ok true w := by simp [isAgg, h1]
  have hae : ∀ es, (isAgg t).events P w es = es := fun es => by simp [isAgg, h1, events_underlying]
  have hs : (sizeOf t).run P w = .ok cs.size w := by simp [sizeOf, typeInfo, hi', hsz]
  have hcell : ∀ j, j < cs.size → (w.cell? ((⟨g, 0, none⟩ : Addr).add (0 + j))).isSome := fun j hj => by
    have : (⟨g, 0, none⟩ : Addr).add (0 + j) = ⟨g, j, none⟩ := by simp [Addr.add]; omega
    rw [this]; unfold World.cell?; rw [hg]; simp [hj]
  have hl := events_loadCellsFrom_at (P := P) ⟨g, 0, none⟩ (· = g) rfl cs.size 0 #[] w es hcell
  have key : (loadVar t ⟨g, 0, none⟩).events P w es = (loadCellsFrom ⟨g, 0, none⟩ 0 cs.size #[]).events P w es := by
    simp only [loadVar, Sem.events_bind, ha, hae, Result.evThen_ok, if_true, hs, events_sizeOf, loadCells]
    cases (loadCellsFrom ⟨g, 0, none⟩ 0 cs.size #[]).run P w <;> rfl
  rw [key] at hev
  rcases hl ev hev with h | ⟨ad, h1, _, h2⟩
  · exact .inl h
  · exact .inr ⟨ad, h1, h2⟩
theorem exec_loadA {m : Nat} {e : TypeId} (ho : o.op = .load t x) (hx : a.eval x = .pointer (some ⟨g, 0, none⟩)) (hg : w.heap[g]? = some (.cells cs t' fr)) (hu : P.underlying t = some (.array m e)) (hi : (P.info? t).map (·.size) = some cs.size) :
    (execOp a.eval o).run P w = .ok (.value (.agg cs)) w ∧ ∀ ev ∈ (execOp a.eval o).events P w #[], ∃ ad, ev.loc = .cell ad ∧ ad.block = g := by
  obtain ⟨r1, r2⟩ := loadVarA (P := P) hg hu hi
  refine ⟨by simp [execOp, ho, hx, Instr.loadAt, Instr.sureAddr, r1], fun ev hev => ?_⟩
  have key : (execOp a.eval o).events P w #[] = (loadVar t ⟨g, 0, none⟩).events P w #[] := by
    simp [execOp, ho, hx, Instr.loadAt, Instr.sureAddr]
  rw [key] at hev
  exact (r2 #[] ev hev).resolve_left (by simp)
theorem exec_storeA (ho : o.op = .store t x y) (hx : a.eval x = .pointer (some ⟨g, 0, none⟩)) (hy : a.eval y = .agg cs) (hg : w.heap[g]? = some (.cells old t' (0, 0))) (hi : (P.info? t).map (·.size) = some cs.size) (hold : old.size = cs.size) (h1 : cs.all (·.oneCell') = true) :
    (execOp a.eval o).run P w = .ok .skip (w.setRow g cs) ∧ ∀ ev ∈ (execOp a.eval o).events P w #[], ∃ ad, ev.loc = .cell ad ∧ ad.block = g := by
  have r1 := run_storeVar_row (P := P) w g t' t old cs hg hi hold h1
  refine ⟨by simp [execOp, ho, hx, hy, Instr.storeAt, Instr.sureAddr, r1], fun ev hev => ?_⟩
  obtain ⟨inf, hi', hsz⟩ := Option.map_eq_some_iff.1 hi
  have hs : (sizeOf t).run P w = .ok cs.size w := by simp [sizeOf, typeInfo, hi', hsz]
  have key : (execOp a.eval o).events P w #[] = (storeCells ⟨g, 0, none⟩ cs.toList).events P w #[] := by
    have e1 : (storeVar t ⟨g, 0, none⟩ (.agg cs)).events P w #[] = (storeCells ⟨g, 0, none⟩ cs.toList).events P w #[] := by
      simp [storeVar, Value.cells, hs, events_sizeOf]
    rw [← e1]
    simp [execOp, ho, hx, hy, Instr.storeAt, Instr.sureAddr]
  rw [key] at hev
  exact (events_storeCells_at (P := P) g 0 t' cs.toList 0 old w #[] hg (by simp; omega) (fun v hv => (Array.all_eq_true_iff_forall_mem.1 h1) v (by simpa using hv)) ev hev).resolve_left (by simp)
end
section
variable {P : Program} {b : Frame} {n : Nat} {env : Nv} {ds : List Deferred} {k : List Item} {cs : List Frame} {ops : Array Oper} {j : Nat} {rest : List Nat} {o : Oper} {g : Nat} {t t' : TypeId} {x y : Operand}
theorem own_at {l : Lo} {X : Nat → Prop} {ev : Event} (h : ∃ ad, ev.loc = .cell ad ∧ ad.block = g) (ho : l.own g) : PEv (fun b => l.own b ∨ X b) ev := by
  obtain ⟨ad, h1, h2⟩ := h
  refine .inl ⟨ad, ev.write, ev.sync, ?_, .inl (h2 ▸ ho)⟩
  cases ev; simp only at h1; subst h1; rfl
theorem Tk.oloadA (W : Wk E l b) (hrel : l.rel = none) {c : Array Value} {fr : Nat × Nat} {m d : Nat} {e : TypeId} (ho : ops[j]? = some o) (hw : wantE ops env o = some true) (hdd : o.dst = some d) (hd : Nat.blt d n = true) (hop : o.op = .load t x) (hu : E.P.underlying t = some (.array m e)) (hi : (E.P.info? t).map (·.size) = some c.size) (hx : env.ev x = some (.pointer (some ⟨g, 0, none⟩)))
    (hown : l.own g) (hg : w.heap[g]? = some (.cells c t' fr)) (h : Tk E N i l w b n ((d, .agg c) :: env) ds (.inRegion ops rest :: k) cs) :
    Tk E N i l w b n env ds (.inRegion ops (j :: rest) :: k) cs := by
  refine Tk.privO W hrel ho hw (by rw [hdd]; exact hd) fun w₁ hv => ⟨.agg c, w₁, fun a ha => ?_, Nat.le_refl _, fun _ _ _ => rfl, rfl, rfl, rfl, ?_⟩
  · obtain ⟨r1, r2⟩ := exec_loadA (P := E.P) (a := a) hop (ha.ev hx) (by rw [hv.2 g hown]; exact hg) hu hi
    exact ⟨r1, fun ev hev => own_at (r2 ev hev) hown⟩
  · rw [hdd, Lo.grow_self]
    exact fun a ha hds => (h a ha hds).view W.fin hv
theorem Tk.ostoreA (W : Wk E l b) (hrel : l.rel = none) {c old : Array Value} (ho : ops[j]? = some o) (hw : wantE ops env o = some true) (hd : o.dst = none) (hop : o.op = .store t x y) (hi : (E.P.info? t).map (·.size) = some c.size) (hold : old.size = c.size) (h1 : c.all (·.oneCell') = true) (hx : env.ev x = some (.pointer (some ⟨g, 0, none⟩))) (hy : env.ev y = some (.agg c))
    (hown : l.own g) (hg : w.heap[g]? = some (.cells old t' (0, 0))) (h : ∀ w₁ w₂, View l.own w w₁ → w₂ = w₁.setRow g c → Tk E N i l w₂ b n env ds (.inRegion ops rest :: k) cs) :
    Tk E N i l w b n env ds (.inRegion ops (j :: rest) :: k) cs := by
  intro a ha hds
  refine Tr.priv (runs_G _ _) W.ch fun w₁ hv => ?_
  obtain ⟨s1, s2⟩ := exec_storeA (P := E.P) (a := a) hop (ha.ev hx) (ha.ev hy) (by rw [hv.2 g hown]; exact hg) hi hold h1
  have hput : a.put o.dst undef = a := by rw [hd]; rfl
  have hsz : (w₁.setRow g c).heap.size = w₁.heap.size := by simp [World.setRow]
  refine ⟨Conc.G (b.at (a.put o.dst undef) (.inRegion ops rest :: k)) cs, w₁.setRow g c, _, stepG_none ho (ha.want hw) W.kind s1, rfl, ⟨Nat.le_of_eq hsz.symm, fun b hb _ => ?_, rfl, rfl, rfl, fun ev hev => own_at (s2 ev (mem_listed hev)) hown⟩, fun hr => absurd hrel hr, ?_⟩
  · have hne : g ≠ b := fun e => hb (e ▸ hown)
    simp [World.setRow, Array.getElem?_modify, hne]
  · rw [hsz, Lo.grow_self, hput]
    exact h w₁ _ hv rfl a ha hds
theorem stepG_leaveE {P : Program} {main : Bool} {a : Act} {b : Frame} {cs : List Frame} {w : World} {fn : Func} {todo : List Item} {c : Frame} {v : Value} (hn : b.kind = .normal) (hd : a.defers = []) (hf : P.funcs[b.fn]? = some fn) (hr : (results fn a.tmps).run P w = .ok v w) :
    stepG P main (Conc.G { b.at a todo with mode := .returning } (c :: cs)) w = .go (Conc.G (c.finish v) cs) w (seen P b.fn ((results fn a.tmps).events P w #[])) := by
  simp [Conc.G, stepG, unwind, doReturn, Frame.at, hn, hd, hf, hr, GStep.after]
theorem results_cell {P : Program} {fn : Func} {tmps : Array Value} {r : Nat} {t t' : TypeId} {c2 : Array Value} {fr : Nat × Nat} {m g : Nat} {e : TypeId} (hf : fn.results = #[.cell r t]) (hr : tmps.getD r undef = .pointer (some ⟨g, 0, none⟩)) (hg : w.heap[g]? = some (.cells c2 t' fr)) (hu : P.underlying t = some (.array m e)) (hi : (P.info? t).map (·.size) = some c2.size) :
    (results fn tmps).run P w = .ok (.agg c2) w ∧ ∀ ev ∈ (results fn tmps).events P w #[], ∃ ad, ev.loc = .cell ad ∧ ad.block = g := by
  obtain ⟨r1, r2⟩ := loadVarA (P := P) hg hu hi
  have hr' : tmps[r]?.getD undef = .pointer (some ⟨g, 0, none⟩) := by rw [← Array.getD_eq_getD_getElem?]; exact hr
  refine ⟨by simp [results, hf, hr', asAddr, r1], fun ev hev => ?_⟩
  have key : (results fn tmps).events P w #[] = (loadVar t ⟨g, 0, none⟩).events P w #[] := by
    simp [results, hf, hr', asAddr]
  rw [key] at hev
  exact (r2 #[] ev hev).resolve_left (by simp)
theorem TkR.leaveC {f : FuncId} (W : Wk E l (base f)) {nt r : Nat} {c : Code} {c2 : Array Value} {fr : Nat × Nat} {m : Nat} {e : TypeId} {caller : Frame} (hb : Bod E.P f nt c #[.cell r t]) (hrel : l.rel = none) (hu : E.P.underlying t = some (.array m e)) (hi : (E.P.info? t).map (·.size) = some c2.size) (hr : env.get r = some (.pointer (some ⟨g, 0, none⟩))) (hown : l.own g) (hg : w.heap[g]? = some (.cells c2 t' fr))
    (h : ∀ w', View l.own w w' → Tr E N i l (Conc.G (caller.finish (.agg c2)) cs) w') : TkR E N i l w (base f) n env [] (caller :: cs) := by
  intro a todo ha hds
  obtain ⟨fn, f1, _, _, _, f5⟩ := hb.out
  have e1 : a.tmps.getD r undef = .pointer (some ⟨g, 0, none⟩) := by rw [Array.getD_eq_getD_getElem?, ha.2 r _ hr]; rfl
  refine Tr.priv (runs_G _ _) W.ch fun w₁ hv => ?_
  obtain ⟨r1, r2⟩ := results_cell (P := E.P) (w := w₁) f5 e1 (by rw [hv.2 g hown]; exact hg) hu hi
  refine ⟨Conc.G (caller.finish (.agg c2)) cs, w₁, _, stepG_leaveE (b := base f) rfl hds f1 r1, rfl, ⟨Nat.le_refl _, fun _ _ _ => rfl, rfl, rfl, rfl, fun ev hev => own_at (r2 ev (mem_seen hev)) hown⟩, fun hr => absurd hrel hr, ?_⟩
  rw [Lo.grow_self]
  exact h w₁ hv
end
end Go.Co

namespace Go.Co
open Go Go.Conc
variable {E : Geo} {N i : Nat} {l : Lo} {w : World}
section
variable {P : Program} {b : Frame} {n : Nat} {env : Nv} {ds : List Deferred} {k : List Item} {cs : List Frame} {ops : Array Oper} {j : Nat} {o : Oper} {f : FuncId} {ats : Array TypeId}
theorem Tk.callE (W : WkP P E l b) {rest : List Nat} {xs : Array Operand} {vs : List Value} {nt : Nat} {c : Code} {rs : Array ResultVar} {dd : Nat} (ho : ops[j]? = some o) (hw : wantE ops env o = some true) (hdd : o.dst = some dd) (hd : Nat.blt dd n = true) (hop : o.op = .call { callee := .value (.func f), args := xs, argTypes := ats }) (hb : Bod P f nt c rs)
    (hx : evsA env xs.toList = some vs) (h : ∀ fr : Frame, (∀ E2 N2 l' w' v, Tk E2 N2 i l' w' b n ((dd, v) :: env) ds (.inRegion ops rest :: k) cs → Tr E2 N2 i l' (Conc.G (fr.finish v) cs) w') → Tr E N i l (Conc.G (Frame.enter P f vs.toArray .normal) (fr :: cs)) w) :
    Tk E N i l w b n env ds (.inRegion ops (j :: rest) :: k) cs := by
  intro a ha hds
  obtain ⟨fn, f1, f2, f3, _⟩ := hb.out
  have hm : xs.map a.eval = vs.toArray := by
    apply Array.toList_inj.1
    simp only [Array.toList_map]
    exact ha.evsA hx
  have hfin : ∀ v, (b.at a (.inRegion ops (j :: rest) :: k)).finish v = b.at (a.put o.dst v) (.inRegion ops rest :: k) := fun v => by rw [Frame.finish_at, ho]; rfl
  have hput : ∀ v, Has n ((dd, v) :: env) (a.put o.dst v) ∧ (a.put o.dst v).defers = ds := fun v => by
    have := ha.put (d := o.dst) (by rw [hdd]; exact hd) v
    rw [hdd] at this ⊢
    exact ⟨this, hds⟩
  refine Tr.still W.wk.fin (runs_G _ _) (g' := Conc.G (Frame.enter P f vs.toArray .normal) (b.at a (.inRegion ops (j :: rest) :: k) :: cs)) rfl W.wk.ch (fun w₁ _ => ?_) (h _ (fun E2 N2 l' w' v hk => ?_))
  · have hr := run_call_body (a := a) (P := P) (w := w₁) hop f1 f2 (by rw [f3]; rfl)
    rw [W.hP, stepG_enter ho (ha.want hw) W.wk.kind hr, hm]
    unfold listed
    rw [events_call_body hop f1 f2 (by rw [f3]; rfl), seen_none]
  · rw [hfin]; exact hk _ (hput v).1 (hput v).2
theorem TkO.callE (W : WkP P E l b) {xs : Array Operand} {vs : List Value} {nt : Nat} {c : Code} {rs : Array ResultVar} {dd : Nat} (ho : ops[j]? = some o) (hw : wantE ops env o = some true) (hdd : o.dst = some dd) (hd : Nat.blt dd n = true) (hop : o.op = .call { callee := .value (.func f), args := xs, argTypes := ats }) (hb : Bod P f nt c rs)
    (hx : evsA env xs.toList = some vs) (h : ∀ fr : Frame, (∀ E2 N2 l' w' v, TkO E2 N2 i l' w' b n ((dd, v) :: env) ds ops (j + 1) k cs → Tr E2 N2 i l' (Conc.G (fr.finish v) cs) w') → Tr E N i l (Conc.G (Frame.enter P f vs.toArray .normal) (fr :: cs)) w) :
    TkO E N i l w b n env ds ops j k cs := TkO.open ho (Tk.callE W ho hw hdd hd hop hb hx h)
theorem TkS.stepE {fuel : Nat} {listed : Array Bool} {rs : List Nat} (hr : Region.ready .any ops listed = rs) (hne : rs ≠ [])
    (h : ∀ j ∈ rs, ∀ L : List Nat, (∀ E2 N2 l' w' env' ds', TkS E2 N2 i fuel (listed.setIfInBounds j true) l' w' b n env' ds' ops k cs → Tk E2 N2 i l' w' b n env' ds' (.inRegion ops L :: k) cs) → Tk E N i l w b n env ds (.inRegion ops (j :: L) :: k) cs) :
    TkS E N i (fuel + 1) listed l w b n env ds ops k cs := by
  intro t
  simp only [Region.linearise.go]
  change Tk E N i l w b n env ds (.inRegion ops (match (Region.ready .any ops listed)[t % (Region.ready .any ops listed).length]? with
      | some i => Region.linearise.go .any ops fuel (t / (Region.ready .any ops listed).length) (listed.setIfInBounds i true) [i]
      | none => [].reverse) :: k) cs
  rw [hr]
  have hlt : t % rs.length < rs.length := Nat.mod_lt _ (List.length_pos_iff.2 hne)
  have hget : rs[t % rs.length]? = some rs[t % rs.length] := List.getElem?_eq_getElem hlt
  rw [hget]
  simp only
  rw [linearise_go_acc, List.reverse_singleton, List.singleton_append]
  exact h _ (List.getElem_mem hlt) _ fun E2 N2 l' w' env' ds' hs => hs _
theorem TkS.freeE {I : Geo → Array Bool → Lo → World → Nv → Prop} (ha : Ahead ops = true) (hw : ∀ E L l w env, I E L l w env → L.size = ops.size ∧ WkP P E l b)
    (hstep : ∀ E N L l w env j, I E L l w env → j < ops.size → Closed ops L → ¬ Up L j → (∀ o, ops[j]? = some o → ∀ e ∈ o.after, Region.binds .any e = true → Up L e.on) → ∀ rest, (∀ E2 N2 l' w' env', I E2 (L.setIfInBounds j true) l' w' env' → Tk E2 N2 i l' w' b n env' ds (.inRegion ops rest :: k) cs) → Tk E N i l w b n env ds (.inRegion ops (j :: rest) :: k) cs)
    (hend : ∀ E N L l w env, I E L l w env → (∀ j, j < ops.size → Up L j) → Tk E N i l w b n env ds k cs) :
    ∀ fuel E N L l w env, I E L l w env → Closed ops L → down L ≤ fuel → TkS E N i fuel L l w b n env ds ops k cs := by
  intro fuel
  induction fuel with
  | zero =>
    intro E N L l w env hI hcl hd
    obtain ⟨hs, W⟩ := hw _ _ _ _ _ hI
    have hr : Region.ready .any ops L = [] := by
      rw [List.eq_nil_iff_forall_not_mem]
      intro j hj
      have := down_set (mem_ready.1 hj).2.1
      omega
    exact TkS.done W hr (hend _ _ _ _ _ _ hI (all_up ha hs hr))
  | succ fuel ih =>
    intro E N L l w env hI hcl hd
    obtain ⟨hs, W⟩ := hw _ _ _ _ _ hI
    by_cases hr : Region.ready .any ops L = []
    · exact TkS.done W hr (hend _ _ _ _ _ _ hI (all_up ha hs hr))
    · refine TkS.stepE (rs := Region.ready .any ops L) rfl hr fun j hj rest hk => ?_
      obtain ⟨h1, h2, h3⟩ := mem_ready.1 hj
      have hds := down_set h2
      have hb : ∀ o, ops[j]? = some o → ∀ e ∈ o.after, Region.binds .any e = true → Up L e.on := fun o ho e he hb => by
        rw [ho] at h3
        simp only [Option.map_some, Option.getD_some] at h3
        rw [Array.all_eq_true_iff_forall_mem] at h3
        have := h3 e he
        rw [hb] at this
        simp only [Bool.not_true, Bool.false_or] at this
        unfold Up
        rw [Array.getD_eq_getD_getElem?] at this
        cases hx : L[e.on]? with
        | none => rw [hx] at this; cases this
        | some x => rw [hx] at this; simp at this; rw [this]
      refine hstep E N L l w env j hI h1 hcl (fun hu => ?_) hb rest fun E2 N2 l' w' env' hI' => hk _ _ _ _ _ _ (ih _ _ _ _ _ _ hI' (hcl.set hb) (by omega))
      · unfold Up at hu
        simp [Array.getD_eq_getD_getElem?, hu] at h2
theorem Tk.freeE (W : WkP P E l b) {x : Nat} (hm : P.follows .mixedOrders = true) {I : Array Oper → Geo → Array Bool → Lo → World → Nv → Prop} (ha : Ahead ops = true) (h0 : I ops E (Array.replicate ops.size false) l w env)
    (hw : ∀ E L l w env, I ops E L l w env → L.size = ops.size ∧ WkP P E l b)
    (hstep : ∀ E N L l w env j, I ops E L l w env → j < ops.size → Closed ops L → ¬ Up L j → (∀ o, ops[j]? = some o → ∀ e ∈ o.after, Region.binds .any e = true → Up L e.on) → ∀ rest, (∀ E2 N2 l' w' env', I ops E2 (L.setIfInBounds j true) l' w' env' → Tk E2 N2 i l' w' b n env' ds (.inRegion ops rest :: k) cs) → Tk E N i l w b n env ds (.inRegion ops (j :: rest) :: k) cs)
    (hend : ∀ E N L l w env, I ops E L l w env → (∀ j, j < ops.size → Up L j) → Tk E N i l w b n env ds k cs) : Tk E N i l w b n env ds (.code (.region x ops true) :: k) cs :=
  Tk.draw W hm (TkS.freeE (I := I ops) ha hw hstep hend _ _ _ _ _ _ _ h0 (fun j o hu => absurd hu (not_up0 _ _)) (by unfold down; simp))
theorem wantE_up {env : Nv} {m d : Nat} (hg : o.guard = some (m, true)) (hd : (ops[m]?).bind (·.dst) = some d) (he : env.get d = some (.bool true)) : wantE ops env o = some true := by
  unfold wantE
  rw [hg]
  simp only [hd, he]
  rfl
end
end Go.Co

namespace Go.Co.F1
open Go Go.Conc Go.Proofs
open Go.Co
open Go.ConcN (upd upd_ne upd_same)
variable {E : Geo} {N i : Nat} {l : Lo} {w : World}
set_option maxRecDepth 10000
set_option maxHeartbeats 4000000 in
theorem at15O {C r : Nat} {FP : Nat → Prop} {vals : Nat → Int} (A : Pr E l) (c : Ctr l.own w C FP vals) (hr : 0 < r ∧ r < 19) {fr : Frame} {cs : List Frame}
    (h : ∀ l' w' FP' R cap ps p, Stp l w FP l' w' FP' → MadeC l'.own w' C R cap ps FP' vals → ps[r]? = some p → Tr E N i l' (Conc.G (fr.finish (ptr p 0)) cs) w') :
    Tr E N i l (Conc.G (Frame.enter Try.prog 15 #[ptr C 0, .int .u8 r] .normal) (fr :: cs)) w := by
  have hP := A.P
  have W : WkP Try.prog E l (base 15) := ⟨⟨A.fin, A.ch, by decide⟩, hP⟩
  refine Tr.enterP hP b15 (Nat.le_of_ble_eq_true rfl) ?_
  have hz : intV .eql .u8 (r : Int) 0 = some (.bool false) := by
    simp only [intV, Option.some.injEq, Value.bool.injEq]; simp; omega
  have hge : intV .geq .u8 (r : Int) 19 = some (.bool false) := by
    simp only [intV, Option.some.injEq, Value.bool.injEq]; simp; omega
  repeat (first
    | refine TkO.pureS W (by rfl) (by rfl) (by rfl) (by rfl) (by first | exact pure_int rfl rfl rfl hz | exact pure_int rfl rfl rfl hge) ?_
    | refine TkO.done W (by rfl) ?_ | refine TkO.unwantedS W (by rfl) (by rfl) (by rfl) (by rfl) ?_ | refine TkO.pureS W (by rfl) (by rfl) (by rfl) (by rfl) (by first | exact pure_move (.inl rfl) rfl | exact pure_move (.inr rfl) rfl | exact pure_nilCheck rfl rfl | exact pure_field rfl rfl (by rfl) rfl (by decide +kernel) | exact pure_int rfl rfl rfl rfl | exact pure_not rfl rfl | exact pure_pickT rfl rfl rfl | exact pure_pickF rfl rfl rfl | exact pure_shift rfl rfl rfl rfl | exact pure_eqlNil rfl rfl rfl (by rfl) | exact pure_conv rfl rfl (by rfl) (by rfl)) ?_ | refine Tk.seq (WkP.wk W) ?_ | refine Tk.reg W ?_ | refine Tk.skip (WkP.wk W) ?_ | refine Tk.block (WkP.wk W) ?_ | refine Tk.condT (WkP.wk W) rfl ?_ | refine Tk.condF (WkP.wk W) rfl ?_ | refine Tk.exit (WkP.wk W) rfl ?_ | refine Tk.label (WkP.wk W) ?_)
  refine TkO.call W (by rfl) (by rfl) (by rfl) (by rfl) b22 rfl fun fr1 hk1 => ?_
  refine ready22O A c fun l1 w1 FP1 R cap ps s m => hk1 _ _ _ (TkO.lay (rfl : Nv.put _ _ _ = (_, _) :: _) ?_)
  have A1 : Pr E l1 := A.sam s.sam
  have W1 : WkP Try.prog E l1 (base 15) := wkp W A1.ch
  (repeat (first | refine TkO.done W1 (by rfl) ?_ | refine TkO.unwantedS W1 (by rfl) (by rfl) (by rfl) (by rfl) ?_ | refine TkO.pureS W1 (by rfl) (by rfl) (by rfl) (by rfl) (by first | exact pure_move (.inl rfl) rfl | exact pure_move (.inr rfl) rfl | exact pure_nilCheck rfl rfl | exact pure_field rfl rfl (by rfl) rfl (by decide +kernel) | exact pure_int rfl rfl rfl rfl | exact pure_not rfl rfl | exact pure_pickT rfl rfl rfl | exact pure_pickF rfl rfl rfl | exact pure_shift rfl rfl rfl rfl | exact pure_eqlNil rfl rfl rfl (by rfl) | exact pure_conv rfl rfl (by rfl) (by rfl)) ?_ | refine Tk.seq (WkP.wk W1) ?_ | refine Tk.reg W1 ?_ | refine Tk.skip (WkP.wk W1) ?_ | refine Tk.block (WkP.wk W1) ?_ | refine Tk.condT (WkP.wk W1) rfl ?_ | refine Tk.condF (WkP.wk W1) rfl ?_ | refine Tk.exit (WkP.wk W1) rfl ?_ | refine Tk.label (WkP.wk W1) ?_))
  refine TkO.open (by rfl) (Tk.oload W1.wk A1.rel (x := .tmp 19) (ad := adr C 3) (v := .slice (some (adr R 0)) 19 cap) (by rfl) (by rfl) (by rfl) (by rfl) (by rw [hP]; rfl) (by rfl) m.cb.own m.cb.c3 ?_)
  refine Tk.lay (rfl : Nv.put _ _ _ = (_, _) :: _) ?_
  show TkO _ _ _ _ _ _ _ _ _ _ 4 _ _
  (repeat (first | refine TkO.done W1 (by rfl) ?_ | refine TkO.unwantedS W1 (by rfl) (by rfl) (by rfl) (by rfl) ?_ | refine TkO.pureS W1 (by rfl) (by rfl) (by rfl) (by rfl) (by first | exact pure_move (.inl rfl) rfl | exact pure_move (.inr rfl) rfl | exact pure_nilCheck rfl rfl | exact pure_field rfl rfl (by rfl) rfl (by decide +kernel) | exact pure_int rfl rfl rfl rfl | exact pure_not rfl rfl | exact pure_pickT rfl rfl rfl | exact pure_pickF rfl rfl rfl | exact pure_shift rfl rfl rfl rfl | exact pure_eqlNil rfl rfl rfl (by rfl) | exact pure_conv rfl rfl (by rfl) (by rfl)) ?_ | refine Tk.seq (WkP.wk W1) ?_ | refine Tk.reg W1 ?_ | refine Tk.skip (WkP.wk W1) ?_ | refine Tk.block (WkP.wk W1) ?_ | refine Tk.condT (WkP.wk W1) rfl ?_ | refine Tk.condF (WkP.wk W1) rfl ?_ | refine Tk.exit (WkP.wk W1) rfl ?_ | refine Tk.label (WkP.wk W1) ?_))
  refine TkO.pureS W1 (by rfl) (by rfl) (by rfl) (by rfl) (pure_index rfl (by rfl) (by decide +kernel) rfl rfl (by omega)) ?_
  have e0 : (0 + ((r : Int)).toNat) = r := by omega
  rw [e0]
  have hlt : r < ps.length := by rw [m.len]; exact hr.2
  have hp : ps[r]? = some ps[r] := List.getElem?_eq_getElem hlt
  obtain ⟨hR, hrow⟩ := m.row
  have hc : w1.cell? (adr R r) = some (ptr ps[r] 0) := hrow r _ hp
  refine TkO.open (by rfl) (Tk.oload W1.wk A1.rel (x := .tmp 22) (ad := adr R r) (v := ptr ps[r] 0) (by rfl) (by rfl) (by rfl) (by rfl) (by rw [hP]; rfl) (by rfl) hR hc ?_)
  refine Tk.lay (rfl : Nv.put _ _ _ = (_, _) :: _) ?_
  show TkO _ _ _ _ _ _ _ _ _ _ 7 _ _
  (repeat (first | refine TkO.done W1 (by rfl) ?_ | refine TkO.unwantedS W1 (by rfl) (by rfl) (by rfl) (by rfl) ?_ | refine TkO.pureS W1 (by rfl) (by rfl) (by rfl) (by rfl) (by first | exact pure_move (.inl rfl) rfl | exact pure_move (.inr rfl) rfl | exact pure_nilCheck rfl rfl | exact pure_field rfl rfl (by rfl) rfl (by decide +kernel) | exact pure_int rfl rfl rfl rfl | exact pure_not rfl rfl | exact pure_pickT rfl rfl rfl | exact pure_pickF rfl rfl rfl | exact pure_shift rfl rfl rfl rfl | exact pure_eqlNil rfl rfl rfl (by rfl) | exact pure_conv rfl rfl (by rfl) (by rfl)) ?_ | refine Tk.seq (WkP.wk W1) ?_ | refine Tk.reg W1 ?_ | refine Tk.skip (WkP.wk W1) ?_ | refine Tk.block (WkP.wk W1) ?_ | refine Tk.condT (WkP.wk W1) rfl ?_ | refine Tk.condF (WkP.wk W1) rfl ?_ | refine Tk.exit (WkP.wk W1) rfl ?_ | refine Tk.label (WkP.wk W1) ?_))
  exact Tk.ret W1.wk (TkR.leave1 W1.wk (hP ▸ b15) rfl (h _ _ _ _ _ _ _ s m hp))
theorem at15Nil {r : Nat} (A : Pr E l) {fr : Frame} {cs : List Frame} (h : Tr E N i l (Conc.G (fr.finish (.pointer none)) cs) w) :
    Tr E N i l (Conc.G (Frame.enter Try.prog 15 #[.pointer none, .int .u8 r] .normal) (fr :: cs)) w := by
  have W : WkP Try.prog E l (base 15) := ⟨⟨A.fin, A.ch, by decide⟩, A.P⟩
  refine Tr.enterP A.P b15 (Nat.le_of_ble_eq_true rfl) ?_
  repeat (first
    | refine TkO.pureS W (by rfl) (by rfl) (by rfl) (by rfl) (by exact pure_eqlNil2 rfl rfl rfl (by rfl)) ?_
    | refine TkO.done W (by rfl) ?_ | refine TkO.unwantedS W (by rfl) (by rfl) (by rfl) (by rfl) ?_ | refine TkO.pureS W (by rfl) (by rfl) (by rfl) (by rfl) (by first | exact pure_move (.inl rfl) rfl | exact pure_move (.inr rfl) rfl | exact pure_nilCheck rfl rfl | exact pure_field rfl rfl (by rfl) rfl (by decide +kernel) | exact pure_int rfl rfl rfl rfl | exact pure_not rfl rfl | exact pure_pickT rfl rfl rfl | exact pure_pickF rfl rfl rfl | exact pure_shift rfl rfl rfl rfl | exact pure_eqlNil rfl rfl rfl (by rfl) | exact pure_conv rfl rfl (by rfl) (by rfl)) ?_ | refine Tk.seq (WkP.wk W) ?_ | refine Tk.reg W ?_ | refine Tk.skip (WkP.wk W) ?_ | refine Tk.block (WkP.wk W) ?_ | refine Tk.condT (WkP.wk W) rfl ?_ | refine Tk.condF (WkP.wk W) rfl ?_ | refine Tk.exit (WkP.wk W) rfl ?_ | refine Tk.label (WkP.wk W) ?_)
  exact Tk.ret W.wk (TkR.leave1 W.wk (A.P ▸ b15) rfl h)
theorem cellP {own : Nat → Prop} {C R cap r p : Nat} {ps : List Nat} {FP : Nat → Prop} {vals : Nat → Int} (m : MadeC own w C R cap ps FP vals) (hp : ps[r]? = some p) : own p ∧ w.cell? (adr p 0) = some (.int .i64 (vals r)) ∧ w.frozen? (adr p 0) = false := m.cell r p hp
theorem MadeC.put {own : Nat → Prop} {C R cap r p : Nat} {ps : List Nat} {FP : Nat → Prop} {vals : Nat → Int} (m : MadeC own w C R cap ps FP vals) (hp : ps[r]? = some p) (v : Int) : MadeC own (w.setCell (adr p 0) (.int .i64 v)) C R cap ps FP (upd vals r v) := by
  obtain ⟨h1, h2, h3⟩ := m.cell r p hp
  obtain ⟨hR, hrow⟩ := m.row
  have hs : ∀ a u, w.cell? a = some u → (∀ d, u ≠ .int .i64 d) → (w.setCell (adr p 0) (.int .i64 v)).cell? a = some u := fun a u ha hu => by
    rw [set_other h2 _ fun e => by subst e; rw [h2] at ha; cases ha; exact hu _ rfl]; exact ha
  have hS : ∀ {S : Value}, S = .slice (some (adr R 0)) 19 cap → ∀ d, S ≠ .int .i64 d := fun e d => by rw [e]; intro x; cases x
  refine ⟨⟨m.cb.own, hs _ _ m.cb.c0 (fun d e => by cases e), hs _ _ m.cb.c1 (fun d e => by cases e), hs _ _ m.cb.c3 (hS rfl), fun o ho => by rw [set_frz]; exact m.cb.fzz o ho⟩, ⟨hR, fun r p hp => hs _ _ (hrow r p hp) (fun d e => by cases e)⟩, m.len, m.nodup, fun r2 p2 hp2 => ?_, m.fp⟩
  obtain ⟨g1, g2, g3⟩ := m.cell r2 p2 hp2
  refine ⟨g1, ?_, by rw [set_frz]; exact g3⟩
  by_cases e : p2 = p
  · subst e
    have : r2 = r := by
      obtain ⟨a1, b1⟩ := List.getElem?_eq_some_iff.1 hp
      obtain ⟨a2, b2⟩ := List.getElem?_eq_some_iff.1 hp2
      exact (List.getElem_inj m.nodup).1 (b2.trans b1.symm)
    subst this
    rw [upd_same]; exact set_self h2 _
  · have : r2 ≠ r := fun x => e (by subst x; rw [hp] at hp2; cases hp2; rfl)
    rw [upd_ne _ _ this, set_other h2 _ fun x => e (by cases x; rfl)]; exact g2
theorem add16O {C R cap r p : Nat} {ps : List Nat} {FP : Nat → Prop} {vals : Nat → Int} (A : Pr E l) (m : MadeC l.own w C R cap ps FP vals) (hp : ps[r]? = some p) (hv : 0 ≤ vals r ∧ vals r < 4611686018427387904) {fr : Frame} {cs : List Frame}
    (h : ∀ w' v, Stp l w FP l w' FP → MadeC l.own w' C R cap ps FP (upd vals r (vals r + 1)) → Tr E N i l (Conc.G (fr.finish v) cs) w') :
    Tr E N i l (Conc.G (Frame.enter Try.prog 16 #[ptr p 0, .int .i64 1] .normal) (fr :: cs)) w := by
  have W : WkP Try.prog E l (base 16) := ⟨⟨A.fin, A.ch, by decide⟩, A.P⟩
  refine Tr.enterP A.P b16 (Nat.le_of_ble_eq_true rfl) ?_
  (repeat (first | refine TkO.done W (by rfl) ?_ | refine TkO.unwantedS W (by rfl) (by rfl) (by rfl) (by rfl) ?_ | refine TkO.pureS W (by rfl) (by rfl) (by rfl) (by rfl) (by first | exact pure_move (.inl rfl) rfl | exact pure_move (.inr rfl) rfl | exact pure_nilCheck rfl rfl | exact pure_field rfl rfl (by rfl) rfl (by decide +kernel) | exact pure_int rfl rfl rfl rfl | exact pure_not rfl rfl | exact pure_pickT rfl rfl rfl | exact pure_pickF rfl rfl rfl | exact pure_shift rfl rfl rfl rfl | exact pure_eqlNil rfl rfl rfl (by rfl) | exact pure_conv rfl rfl (by rfl) (by rfl)) ?_ | refine Tk.seq (WkP.wk W) ?_ | refine Tk.reg W ?_ | refine Tk.skip (WkP.wk W) ?_ | refine Tk.block (WkP.wk W) ?_ | refine Tk.condT (WkP.wk W) rfl ?_ | refine Tk.condF (WkP.wk W) rfl ?_ | refine Tk.exit (WkP.wk W) rfl ?_ | refine Tk.label (WkP.wk W) ?_))
  obtain ⟨c1, c2, c3⟩ := cellP m hp
  refine TkO.paadd W A.rel (kk := .i64) (ad := adr p 0) (v := vals r) (dl := 1) (r := vals r + 1) c1 c2 c3 (by rfl) (by rfl) (by rfl) (by rfl) (by rfl) e23 rfl rfl (by rw [IntKind.wrap_i64]; omega) fun w1 hv1 => ?_
  (repeat (first | refine TkO.done W (by rfl) ?_ | refine TkO.unwantedS W (by rfl) (by rfl) (by rfl) (by rfl) ?_ | refine TkO.pureS W (by rfl) (by rfl) (by rfl) (by rfl) (by first | exact pure_move (.inl rfl) rfl | exact pure_move (.inr rfl) rfl | exact pure_nilCheck rfl rfl | exact pure_field rfl rfl (by rfl) rfl (by decide +kernel) | exact pure_int rfl rfl rfl rfl | exact pure_not rfl rfl | exact pure_pickT rfl rfl rfl | exact pure_pickF rfl rfl rfl | exact pure_shift rfl rfl rfl rfl | exact pure_eqlNil rfl rfl rfl (by rfl) | exact pure_conv rfl rfl (by rfl) (by rfl)) ?_ | refine Tk.seq (WkP.wk W) ?_ | refine Tk.reg W ?_ | refine Tk.skip (WkP.wk W) ?_ | refine Tk.block (WkP.wk W) ?_ | refine Tk.condT (WkP.wk W) rfl ?_ | refine Tk.condF (WkP.wk W) rfl ?_ | refine Tk.exit (WkP.wk W) rfl ?_ | refine Tk.label (WkP.wk W) ?_))
  refine Tk.ret W.wk (TkR.leave1 W.wk (A.P ▸ b16) rfl (h _ _ ⟨Sam.refl _, fun _ x => x, (Fr.view hv1).trans (Fr.set (X := FP) ((m.fp p).2 (.inr (.inr (List.mem_of_getElem? hp))))), fun _ x => .inl x⟩ ((m.view hv1).put hp _)))
noncomputable def c17 : Code := (Try.f17.body).getD .skip
theorem b17 : Bod Try.prog 17 7 c17 #[.tmp 2] := ⟨Try.f17, Try.func17, by decide +kernel, rfl, rfl, rfl⟩
theorem e24 : Ent Try.prog 24 (Extern.Atomic.loadT (.int .i64)) := ⟨Try.f24, Try.func24, by decide +kernel, rfl, by rfl, by rfl⟩
theorem load17O {C R cap r p : Nat} {ps : List Nat} {FP : Nat → Prop} {vals : Nat → Int} (A : Pr E l) (m : MadeC l.own w C R cap ps FP vals) (hp : ps[r]? = some p) {fr : Frame} {cs : List Frame}
    (h : ∀ w', View l.own w w' → Tr E N i l (Conc.G (fr.finish (.int .i64 (vals r))) cs) w') :
    Tr E N i l (Conc.G (Frame.enter Try.prog 17 #[ptr p 0] .normal) (fr :: cs)) w := by
  have W : WkP Try.prog E l (base 17) := ⟨⟨A.fin, A.ch, by decide⟩, A.P⟩
  refine Tr.enterP A.P b17 (Nat.le_of_ble_eq_true rfl) ?_
  (repeat (first | refine TkO.done W (by rfl) ?_ | refine TkO.unwantedS W (by rfl) (by rfl) (by rfl) (by rfl) ?_ | refine TkO.pureS W (by rfl) (by rfl) (by rfl) (by rfl) (by first | exact pure_move (.inl rfl) rfl | exact pure_move (.inr rfl) rfl | exact pure_nilCheck rfl rfl | exact pure_field rfl rfl (by rfl) rfl (by decide +kernel) | exact pure_int rfl rfl rfl rfl | exact pure_not rfl rfl | exact pure_pickT rfl rfl rfl | exact pure_pickF rfl rfl rfl | exact pure_shift rfl rfl rfl rfl | exact pure_eqlNil rfl rfl rfl (by rfl) | exact pure_conv rfl rfl (by rfl) (by rfl)) ?_ | refine Tk.seq (WkP.wk W) ?_ | refine Tk.reg W ?_ | refine Tk.skip (WkP.wk W) ?_ | refine Tk.block (WkP.wk W) ?_ | refine Tk.condT (WkP.wk W) rfl ?_ | refine Tk.condF (WkP.wk W) rfl ?_ | refine Tk.exit (WkP.wk W) rfl ?_ | refine Tk.label (WkP.wk W) ?_))
  obtain ⟨c1, c2, _⟩ := cellP m hp
  refine TkO.paload W A.rel (kk := .i64) (ad := adr p 0) (v := vals r) c1 c2 (by rfl) (by rfl) (by rfl) (by rfl) (by rfl) e24 rfl fun w1 hv1 => ?_
  (repeat (first | refine TkO.done W (by rfl) ?_ | refine TkO.unwantedS W (by rfl) (by rfl) (by rfl) (by rfl) ?_ | refine TkO.pureS W (by rfl) (by rfl) (by rfl) (by rfl) (by first | exact pure_move (.inl rfl) rfl | exact pure_move (.inr rfl) rfl | exact pure_nilCheck rfl rfl | exact pure_field rfl rfl (by rfl) rfl (by decide +kernel) | exact pure_int rfl rfl rfl rfl | exact pure_not rfl rfl | exact pure_pickT rfl rfl rfl | exact pure_pickF rfl rfl rfl | exact pure_shift rfl rfl rfl rfl | exact pure_eqlNil rfl rfl rfl (by rfl) | exact pure_conv rfl rfl (by rfl) (by rfl)) ?_ | refine Tk.seq (WkP.wk W) ?_ | refine Tk.reg W ?_ | refine Tk.skip (WkP.wk W) ?_ | refine Tk.block (WkP.wk W) ?_ | refine Tk.condT (WkP.wk W) rfl ?_ | refine Tk.condF (WkP.wk W) rfl ?_ | refine Tk.exit (WkP.wk W) rfl ?_ | refine Tk.label (WkP.wk W) ?_))
  exact Tk.ret W.wk (TkR.leave1 W.wk (A.P ▸ b17) rfl (h _ hv1))
def isR (r : Nat) : Bool := decide (0 < r ∧ r < 19)
set_option maxHeartbeats 4000000 in
theorem add7O {C r : Nat} {FP : Nat → Prop} {vals : Nat → Int} (A : Pr E l) (c : Ctr l.own w C FP vals) (hv : ∀ r, 0 ≤ vals r ∧ vals r < 4611686018427387904) {fr : Frame} {cs : List Frame}
    (h : ∀ l' w' FP', Stp l w FP l' w' FP' → Ctr l'.own w' C FP' (if isR r = true then upd vals r (vals r + 1) else vals) → Tr E N i l' (Conc.G (fr.finish (.bool (isR r))) cs) w') :
    Tr E N i l (Conc.G (Frame.enter Try.prog 7 #[ptr C 0, .int .u8 r] .normal) (fr :: cs)) w := by
  have hP := A.P
  have W : WkP Try.prog E l (base 7) := ⟨⟨A.fin, A.ch, by decide⟩, hP⟩
  refine Tr.enterP hP b7 (Nat.le_of_ble_eq_true rfl) ?_
  refine Tk.seqB W.wk A.live fun w0 hv0 hB0 => ?_
  have c := c.view hv0
  have h : ∀ l' w' FP', Stp l w0 FP l' w' FP' → Ctr l'.own w' C FP' (if isR r = true then upd vals r (vals r + 1) else vals) → Tr E N i l' (Conc.G (fr.finish (.bool (isR r))) cs) w' := fun l' w' FP' s => h l' w' FP' (s.pre hv0)
  (repeat (first | refine TkO.done W (by rfl) ?_ | refine TkO.unwantedS W (by rfl) (by rfl) (by rfl) (by rfl) ?_ | refine TkO.pureS W (by rfl) (by rfl) (by rfl) (by rfl) (by first | exact pure_move (.inl rfl) rfl | exact pure_move (.inr rfl) rfl | exact pure_nilCheck rfl rfl | exact pure_field rfl rfl (by rfl) rfl (by decide +kernel) | exact pure_int rfl rfl rfl rfl | exact pure_not rfl rfl | exact pure_pickT rfl rfl rfl | exact pure_pickF rfl rfl rfl | exact pure_shift rfl rfl rfl rfl | exact pure_eqlNil rfl rfl rfl (by rfl) | exact pure_conv rfl rfl (by rfl) (by rfl)) ?_ | refine Tk.seq (WkP.wk W) ?_ | refine Tk.reg W ?_ | refine Tk.skip (WkP.wk W) ?_ | refine Tk.block (WkP.wk W) ?_ | refine Tk.condT (WkP.wk W) rfl ?_ | refine Tk.condF (WkP.wk W) rfl ?_ | refine Tk.exit (WkP.wk W) rfl ?_ | refine Tk.label (WkP.wk W) ?_))
  refine TkO.call W (by rfl) (by rfl) (by rfl) (by rfl) b15 rfl fun fr1 hk1 => ?_
  by_cases hr : 0 < r ∧ r < 19
  · have eR : isR r = true := by unfold isR; simp [hr]
    rw [eR] at h
    refine at15O A c hr fun l1 w1 FP1 R cap ps p s m hp => hk1 _ _ _ (TkO.lay (rfl : Nv.put _ _ _ = (_, _) :: _) ?_)
    have A1 : Pr E l1 := A.sam s.sam
    have W1 : WkP Try.prog E l1 (base 7) := wkp W A1.ch
    (repeat (first | refine TkO.done W1 (by rfl) ?_ | refine TkO.unwantedS W1 (by rfl) (by rfl) (by rfl) (by rfl) ?_ | refine TkO.pureS W1 (by rfl) (by rfl) (by rfl) (by rfl) (by first | exact pure_move (.inl rfl) rfl | exact pure_move (.inr rfl) rfl | exact pure_nilCheck rfl rfl | exact pure_field rfl rfl (by rfl) rfl (by decide +kernel) | exact pure_int rfl rfl rfl rfl | exact pure_not rfl rfl | exact pure_pickT rfl rfl rfl | exact pure_pickF rfl rfl rfl | exact pure_shift rfl rfl rfl rfl | exact pure_eqlNil rfl rfl rfl (by rfl) | exact pure_conv rfl rfl (by rfl) (by rfl)) ?_ | refine Tk.seq (WkP.wk W1) ?_ | refine Tk.reg W1 ?_ | refine Tk.skip (WkP.wk W1) ?_ | refine Tk.block (WkP.wk W1) ?_ | refine Tk.condT (WkP.wk W1) rfl ?_ | refine Tk.condF (WkP.wk W1) rfl ?_ | refine Tk.exit (WkP.wk W1) rfl ?_ | refine Tk.label (WkP.wk W1) ?_))
    refine TkO.call W1 (by rfl) (by rfl) (by rfl) (by rfl) b16 rfl fun fr2 hk2 => ?_
    refine add16O A1 m hp (hv r) fun w2 v s2 m2 => hk2 _ _ _ (TkO.lay (rfl : Nv.put _ _ _ = (_, _) :: _) ?_)
    (repeat (first | refine TkO.done W1 (by rfl) ?_ | refine TkO.unwantedS W1 (by rfl) (by rfl) (by rfl) (by rfl) ?_ | refine TkO.pureS W1 (by rfl) (by rfl) (by rfl) (by rfl) (by first | exact pure_move (.inl rfl) rfl | exact pure_move (.inr rfl) rfl | exact pure_nilCheck rfl rfl | exact pure_field rfl rfl (by rfl) rfl (by decide +kernel) | exact pure_int rfl rfl rfl rfl | exact pure_not rfl rfl | exact pure_pickT rfl rfl rfl | exact pure_pickF rfl rfl rfl | exact pure_shift rfl rfl rfl rfl | exact pure_eqlNil rfl rfl rfl (by rfl) | exact pure_conv rfl rfl (by rfl) (by rfl)) ?_ | refine Tk.seq (WkP.wk W1) ?_ | refine Tk.reg W1 ?_ | refine Tk.skip (WkP.wk W1) ?_ | refine Tk.block (WkP.wk W1) ?_ | refine Tk.condT (WkP.wk W1) rfl ?_ | refine Tk.condF (WkP.wk W1) rfl ?_ | refine Tk.exit (WkP.wk W1) rfl ?_ | refine Tk.label (WkP.wk W1) ?_))
    exact Tk.ret W1.wk (TkR.leave1 W1.wk (hP ▸ b7) rfl (h _ _ _ (s.trans hB0 s2) (by rw [if_pos rfl]; exact m2.c)))
  · have eR : isR r = false := by unfold isR; simp; omega
    rw [eR] at h
    refine at15N A.fin hP A.ch (by omega) (hk1 _ _ _ (TkO.lay (rfl : Nv.put _ _ _ = (_, _) :: _) ?_))
    repeat (first
      | refine TkO.pureS W (by rfl) (by rfl) (by rfl) (by rfl) (by exact pure_eqlNil2 rfl rfl rfl (by rfl)) ?_
      | refine TkO.done W (by rfl) ?_ | refine TkO.unwantedS W (by rfl) (by rfl) (by rfl) (by rfl) ?_ | refine TkO.pureS W (by rfl) (by rfl) (by rfl) (by rfl) (by first | exact pure_move (.inl rfl) rfl | exact pure_move (.inr rfl) rfl | exact pure_nilCheck rfl rfl | exact pure_field rfl rfl (by rfl) rfl (by decide +kernel) | exact pure_int rfl rfl rfl rfl | exact pure_not rfl rfl | exact pure_pickT rfl rfl rfl | exact pure_pickF rfl rfl rfl | exact pure_shift rfl rfl rfl rfl | exact pure_eqlNil rfl rfl rfl (by rfl) | exact pure_conv rfl rfl (by rfl) (by rfl)) ?_ | refine Tk.seq (WkP.wk W) ?_ | refine Tk.reg W ?_ | refine Tk.skip (WkP.wk W) ?_ | refine Tk.block (WkP.wk W) ?_ | refine Tk.condT (WkP.wk W) rfl ?_ | refine Tk.condF (WkP.wk W) rfl ?_ | refine Tk.exit (WkP.wk W) rfl ?_ | refine Tk.label (WkP.wk W) ?_)
    exact Tk.ret W.wk (TkR.leave1 W.wk (hP ▸ b7) rfl (h _ _ _ (Stp.refl _ _ _) (by simpa using c)))
theorem add7Nil {r : Nat} (A : Pr E l) {fr : Frame} {cs : List Frame} (h : Tr E N i l (Conc.G (fr.finish (.bool false)) cs) w) :
    Tr E N i l (Conc.G (Frame.enter Try.prog 7 #[.pointer none, .int .u8 r] .normal) (fr :: cs)) w := by
  have W : WkP Try.prog E l (base 7) := ⟨⟨A.fin, A.ch, by decide⟩, A.P⟩
  refine Tr.enterP A.P b7 (Nat.le_of_ble_eq_true rfl) ?_
  (repeat (first | refine TkO.done W (by rfl) ?_ | refine TkO.unwantedS W (by rfl) (by rfl) (by rfl) (by rfl) ?_ | refine TkO.pureS W (by rfl) (by rfl) (by rfl) (by rfl) (by first | exact pure_move (.inl rfl) rfl | exact pure_move (.inr rfl) rfl | exact pure_nilCheck rfl rfl | exact pure_field rfl rfl (by rfl) rfl (by decide +kernel) | exact pure_int rfl rfl rfl rfl | exact pure_not rfl rfl | exact pure_pickT rfl rfl rfl | exact pure_pickF rfl rfl rfl | exact pure_shift rfl rfl rfl rfl | exact pure_eqlNil rfl rfl rfl (by rfl) | exact pure_conv rfl rfl (by rfl) (by rfl)) ?_ | refine Tk.seq (WkP.wk W) ?_ | refine Tk.reg W ?_ | refine Tk.skip (WkP.wk W) ?_ | refine Tk.block (WkP.wk W) ?_ | refine Tk.condT (WkP.wk W) rfl ?_ | refine Tk.condF (WkP.wk W) rfl ?_ | refine Tk.exit (WkP.wk W) rfl ?_ | refine Tk.label (WkP.wk W) ?_))
  refine TkO.call W (by rfl) (by rfl) (by rfl) (by rfl) b15 rfl fun fr1 hk1 => ?_
  refine at15Nil A (hk1 _ _ _ (TkO.lay (rfl : Nv.put _ _ _ = (_, _) :: _) ?_))
  repeat (first
    | refine TkO.pureS W (by rfl) (by rfl) (by rfl) (by rfl) (by exact pure_eqlNil2 rfl rfl rfl (by rfl)) ?_
    | refine TkO.done W (by rfl) ?_ | refine TkO.unwantedS W (by rfl) (by rfl) (by rfl) (by rfl) ?_ | refine TkO.pureS W (by rfl) (by rfl) (by rfl) (by rfl) (by first | exact pure_move (.inl rfl) rfl | exact pure_move (.inr rfl) rfl | exact pure_nilCheck rfl rfl | exact pure_field rfl rfl (by rfl) rfl (by decide +kernel) | exact pure_int rfl rfl rfl rfl | exact pure_not rfl rfl | exact pure_pickT rfl rfl rfl | exact pure_pickF rfl rfl rfl | exact pure_shift rfl rfl rfl rfl | exact pure_eqlNil rfl rfl rfl (by rfl) | exact pure_conv rfl rfl (by rfl) (by rfl)) ?_ | refine Tk.seq (WkP.wk W) ?_ | refine Tk.reg W ?_ | refine Tk.skip (WkP.wk W) ?_ | refine Tk.block (WkP.wk W) ?_ | refine Tk.condT (WkP.wk W) rfl ?_ | refine Tk.condF (WkP.wk W) rfl ?_ | refine Tk.exit (WkP.wk W) rfl ?_ | refine Tk.label (WkP.wk W) ?_)
  exact Tk.ret W.wk (TkR.leave1 W.wk (A.P ▸ b7) rfl h)
noncomputable def c10 : Code := (Try.f10.body).getD .skip
theorem b10 : Bod Try.prog 10 13 c10 #[.tmp 4] := ⟨Try.f10, Try.func10, by decide +kernel, rfl, rfl, rfl⟩
theorem pure_neqNil {P : Program} {env : Nv} {o : Oper} {t yt te : TypeId} {x y : Operand} {ad : Addr} (ho : o.op = .binOp .neq t x y yt) (hx : env.ev x = some (.pointer (some ad))) (hy : env.ev y = some (.pointer none)) (hu : P.underlying t = some (.pointer te)) : PureOp P env o (.bool true) := fun n a ha w => by
  obtain ⟨h1, h2⟩ := eqlNil (ad := ad) hu w
  have e : execOp a.eval o = (do eqGuard .neq t x y (.pointer (some ad)) (.pointer none); let r ← binOp .neq t (.pointer (some ad)) (.pointer none); pure (.value r)) := by
    unfold execOp; rw [ho]; simp only [ha.ev hx, ha.ev hy]; rfl
  have e2 : eqGuard .neq t x y (.pointer (some ad)) (.pointer none) = pure () := rfl
  have e3 : binOp .neq t (.pointer (some ad)) (.pointer none) = (do pure (.bool (!(← Op.equal t (.pointer (some ad)) (.pointer none))))) := rfl
  rw [e, e2, e3]
  constructor
  · simp only [Sem.run_bind, Sem.run_pure, Result.andThen_ok, h1]; rfl
  · simp only [Sem.events_bind, Sem.run_bind, Sem.run_pure, Sem.events_pure, Result.andThen_ok, Result.evThen_ok, h1, h2]
theorem pure_neqNil2 {P : Program} {env : Nv} {o : Oper} {t yt te : TypeId} {x y : Operand} (ho : o.op = .binOp .neq t x y yt) (hx : env.ev x = some (.pointer none)) (hy : env.ev y = some (.pointer none)) (hu : P.underlying t = some (.pointer te)) : PureOp P env o (.bool false) := fun n a ha w => by
  have h1 := run_underlying hu w
  have e : Op.maxDepth = 9999 + 1 := rfl
  have hq : (Op.equal t (.pointer none) (.pointer none)).run P w = .ok true w ∧ (Op.equal t (.pointer none) (.pointer none)).events P w #[] = #[] := by
    unfold Op.equal
    rw [e]
    generalize 9999 = D
    constructor
    · simp [Op.equalIn, h1, samePointer]
    · simp [Op.equalIn, h1, events_underlying, samePointer]
  have e : execOp a.eval o = (do eqGuard .neq t x y (.pointer none) (.pointer none); let r ← binOp .neq t (.pointer none) (.pointer none); pure (.value r)) := by
    unfold execOp; rw [ho]; simp only [ha.ev hx, ha.ev hy]; rfl
  have e2 : eqGuard .neq t x y (.pointer none) (.pointer none) = pure () := rfl
  have e3 : binOp .neq t (.pointer none) (.pointer none) = (do pure (.bool (!(← Op.equal t (.pointer none) (.pointer none))))) := rfl
  rw [e, e2, e3]
  constructor
  · simp only [Sem.run_bind, Sem.run_pure, Result.andThen_ok, hq.1]; rfl
  · simp only [Sem.events_bind, Sem.run_bind, Sem.run_pure, Sem.events_pure, Result.andThen_ok, Result.evThen_ok, hq.1, hq.2]
def cnt (vals : Nat → Int) (r : Nat) : Int := if isR r = true then vals r else 0
set_option maxHeartbeats 4000000 in
theorem many10O {C r : Nat} {FP : Nat → Prop} {vals : Nat → Int} (A : Pr E l) (c : Ctr l.own w C FP vals) {fr : Frame} {cs : List Frame}
    (h : ∀ l' w' FP', Stp l w FP l' w' FP' → Ctr l'.own w' C FP' vals → Tr E N i l' (Conc.G (fr.finish (.int .i64 (cnt vals r))) cs) w') :
    Tr E N i l (Conc.G (Frame.enter Try.prog 10 #[ptr C 0, .int .u8 r] .normal) (fr :: cs)) w := by
  have hP := A.P
  have W : WkP Try.prog E l (base 10) := ⟨⟨A.fin, A.ch, by decide⟩, hP⟩
  refine Tr.enterP hP b10 (Nat.le_of_ble_eq_true rfl) ?_
  refine Tk.seqB W.wk A.live fun w0 hv0 hB0 => ?_
  have c := c.view hv0
  have h : ∀ l' w' FP', Stp l w0 FP l' w' FP' → Ctr l'.own w' C FP' vals → Tr E N i l' (Conc.G (fr.finish (.int .i64 (cnt vals r))) cs) w' := fun l' w' FP' s => h l' w' FP' (s.pre hv0)
  (repeat (first | refine TkO.done W (by rfl) ?_ | refine TkO.unwantedS W (by rfl) (by rfl) (by rfl) (by rfl) ?_ | refine TkO.pureS W (by rfl) (by rfl) (by rfl) (by rfl) (by first | exact pure_move (.inl rfl) rfl | exact pure_move (.inr rfl) rfl | exact pure_nilCheck rfl rfl | exact pure_field rfl rfl (by rfl) rfl (by decide +kernel) | exact pure_int rfl rfl rfl rfl | exact pure_not rfl rfl | exact pure_pickT rfl rfl rfl | exact pure_pickF rfl rfl rfl | exact pure_shift rfl rfl rfl rfl | exact pure_eqlNil rfl rfl rfl (by rfl) | exact pure_conv rfl rfl (by rfl) (by rfl)) ?_ | refine Tk.seq (WkP.wk W) ?_ | refine Tk.reg W ?_ | refine Tk.skip (WkP.wk W) ?_ | refine Tk.block (WkP.wk W) ?_ | refine Tk.condT (WkP.wk W) rfl ?_ | refine Tk.condF (WkP.wk W) rfl ?_ | refine Tk.exit (WkP.wk W) rfl ?_ | refine Tk.label (WkP.wk W) ?_))
  refine TkO.call W (by rfl) (by rfl) (by rfl) (by rfl) b15 rfl fun fr1 hk1 => ?_
  by_cases hr : 0 < r ∧ r < 19
  · have eR : cnt vals r = vals r := by unfold cnt isR; simp [hr]
    rw [eR] at h
    refine at15O A c hr fun l1 w1 FP1 R cap ps p s m hp => hk1 _ _ _ (TkO.lay (rfl : Nv.put _ _ _ = (_, _) :: _) ?_)
    have A1 : Pr E l1 := A.sam s.sam
    have W1 : WkP Try.prog E l1 (base 10) := wkp W A1.ch
    repeat (first
      | refine TkO.pureS W1 (by rfl) (by rfl) (by rfl) (by rfl) (by exact pure_neqNil rfl rfl rfl (by rfl)) ?_
      | refine TkO.done W1 (by rfl) ?_ | refine TkO.unwantedS W1 (by rfl) (by rfl) (by rfl) (by rfl) ?_ | refine TkO.pureS W1 (by rfl) (by rfl) (by rfl) (by rfl) (by first | exact pure_move (.inl rfl) rfl | exact pure_move (.inr rfl) rfl | exact pure_nilCheck rfl rfl | exact pure_field rfl rfl (by rfl) rfl (by decide +kernel) | exact pure_int rfl rfl rfl rfl | exact pure_not rfl rfl | exact pure_pickT rfl rfl rfl | exact pure_pickF rfl rfl rfl | exact pure_shift rfl rfl rfl rfl | exact pure_eqlNil rfl rfl rfl (by rfl) | exact pure_conv rfl rfl (by rfl) (by rfl)) ?_ | refine Tk.seq (WkP.wk W1) ?_ | refine Tk.reg W1 ?_ | refine Tk.skip (WkP.wk W1) ?_ | refine Tk.block (WkP.wk W1) ?_ | refine Tk.condT (WkP.wk W1) rfl ?_ | refine Tk.condF (WkP.wk W1) rfl ?_ | refine Tk.exit (WkP.wk W1) rfl ?_ | refine Tk.label (WkP.wk W1) ?_)
    refine TkO.call W1 (by rfl) (by rfl) (by rfl) (by rfl) b17 rfl fun fr2 hk2 => ?_
    refine load17O A1 m hp fun w2 hv2 => hk2 _ _ _ (TkO.lay (rfl : Nv.put _ _ _ = (_, _) :: _) ?_)
    (repeat (first | refine TkO.done W1 (by rfl) ?_ | refine TkO.unwantedS W1 (by rfl) (by rfl) (by rfl) (by rfl) ?_ | refine TkO.pureS W1 (by rfl) (by rfl) (by rfl) (by rfl) (by first | exact pure_move (.inl rfl) rfl | exact pure_move (.inr rfl) rfl | exact pure_nilCheck rfl rfl | exact pure_field rfl rfl (by rfl) rfl (by decide +kernel) | exact pure_int rfl rfl rfl rfl | exact pure_not rfl rfl | exact pure_pickT rfl rfl rfl | exact pure_pickF rfl rfl rfl | exact pure_shift rfl rfl rfl rfl | exact pure_eqlNil rfl rfl rfl (by rfl) | exact pure_conv rfl rfl (by rfl) (by rfl)) ?_ | refine Tk.seq (WkP.wk W1) ?_ | refine Tk.reg W1 ?_ | refine Tk.skip (WkP.wk W1) ?_ | refine Tk.block (WkP.wk W1) ?_ | refine Tk.condT (WkP.wk W1) rfl ?_ | refine Tk.condF (WkP.wk W1) rfl ?_ | refine Tk.exit (WkP.wk W1) rfl ?_ | refine Tk.label (WkP.wk W1) ?_))
    exact Tk.ret W1.wk (TkR.leave1 W1.wk (hP ▸ b10) rfl (h _ _ _ (s.trans hB0 (Stp.view hv2)) (m.view hv2).c))
  · have eR : cnt vals r = 0 := by unfold cnt isR; rw [if_neg]; simp; omega
    rw [eR] at h
    refine at15N A.fin hP A.ch (by omega) (hk1 _ _ _ (TkO.lay (rfl : Nv.put _ _ _ = (_, _) :: _) ?_))
    repeat (first
      | refine TkO.pureS W (by rfl) (by rfl) (by rfl) (by rfl) (by exact pure_neqNil2 rfl rfl rfl (by rfl)) ?_
      | refine TkO.done W (by rfl) ?_ | refine TkO.unwantedS W (by rfl) (by rfl) (by rfl) (by rfl) ?_ | refine TkO.pureS W (by rfl) (by rfl) (by rfl) (by rfl) (by first | exact pure_move (.inl rfl) rfl | exact pure_move (.inr rfl) rfl | exact pure_nilCheck rfl rfl | exact pure_field rfl rfl (by rfl) rfl (by decide +kernel) | exact pure_int rfl rfl rfl rfl | exact pure_not rfl rfl | exact pure_pickT rfl rfl rfl | exact pure_pickF rfl rfl rfl | exact pure_shift rfl rfl rfl rfl | exact pure_eqlNil rfl rfl rfl (by rfl) | exact pure_conv rfl rfl (by rfl) (by rfl)) ?_ | refine Tk.seq (WkP.wk W) ?_ | refine Tk.reg W ?_ | refine Tk.skip (WkP.wk W) ?_ | refine Tk.block (WkP.wk W) ?_ | refine Tk.condT (WkP.wk W) rfl ?_ | refine Tk.condF (WkP.wk W) rfl ?_ | refine Tk.exit (WkP.wk W) rfl ?_ | refine Tk.label (WkP.wk W) ?_)
    exact Tk.ret W.wk (TkR.leave1 W.wk (hP ▸ b10) rfl (h _ _ _ (Stp.refl _ _ _) c))
theorem many10Nil {r : Nat} (A : Pr E l) {fr : Frame} {cs : List Frame} (h : Tr E N i l (Conc.G (fr.finish (.int .i64 0)) cs) w) :
    Tr E N i l (Conc.G (Frame.enter Try.prog 10 #[.pointer none, .int .u8 r] .normal) (fr :: cs)) w := by
  have W : WkP Try.prog E l (base 10) := ⟨⟨A.fin, A.ch, by decide⟩, A.P⟩
  refine Tr.enterP A.P b10 (Nat.le_of_ble_eq_true rfl) ?_
  (repeat (first | refine TkO.done W (by rfl) ?_ | refine TkO.unwantedS W (by rfl) (by rfl) (by rfl) (by rfl) ?_ | refine TkO.pureS W (by rfl) (by rfl) (by rfl) (by rfl) (by first | exact pure_move (.inl rfl) rfl | exact pure_move (.inr rfl) rfl | exact pure_nilCheck rfl rfl | exact pure_field rfl rfl (by rfl) rfl (by decide +kernel) | exact pure_int rfl rfl rfl rfl | exact pure_not rfl rfl | exact pure_pickT rfl rfl rfl | exact pure_pickF rfl rfl rfl | exact pure_shift rfl rfl rfl rfl | exact pure_eqlNil rfl rfl rfl (by rfl) | exact pure_conv rfl rfl (by rfl) (by rfl)) ?_ | refine Tk.seq (WkP.wk W) ?_ | refine Tk.reg W ?_ | refine Tk.skip (WkP.wk W) ?_ | refine Tk.block (WkP.wk W) ?_ | refine Tk.condT (WkP.wk W) rfl ?_ | refine Tk.condF (WkP.wk W) rfl ?_ | refine Tk.exit (WkP.wk W) rfl ?_ | refine Tk.label (WkP.wk W) ?_))
  refine TkO.call W (by rfl) (by rfl) (by rfl) (by rfl) b15 rfl fun fr1 hk1 => ?_
  refine at15Nil A (hk1 _ _ _ (TkO.lay (rfl : Nv.put _ _ _ = (_, _) :: _) ?_))
  repeat (first
    | refine TkO.pureS W (by rfl) (by rfl) (by rfl) (by rfl) (by exact pure_neqNil2 rfl rfl rfl (by rfl)) ?_
    | refine TkO.done W (by rfl) ?_ | refine TkO.unwantedS W (by rfl) (by rfl) (by rfl) (by rfl) ?_ | refine TkO.pureS W (by rfl) (by rfl) (by rfl) (by rfl) (by first | exact pure_move (.inl rfl) rfl | exact pure_move (.inr rfl) rfl | exact pure_nilCheck rfl rfl | exact pure_field rfl rfl (by rfl) rfl (by decide +kernel) | exact pure_int rfl rfl rfl rfl | exact pure_not rfl rfl | exact pure_pickT rfl rfl rfl | exact pure_pickF rfl rfl rfl | exact pure_shift rfl rfl rfl rfl | exact pure_eqlNil rfl rfl rfl (by rfl) | exact pure_conv rfl rfl (by rfl) (by rfl)) ?_ | refine Tk.seq (WkP.wk W) ?_ | refine Tk.reg W ?_ | refine Tk.skip (WkP.wk W) ?_ | refine Tk.block (WkP.wk W) ?_ | refine Tk.condT (WkP.wk W) rfl ?_ | refine Tk.condF (WkP.wk W) rfl ?_ | refine Tk.exit (WkP.wk W) rfl ?_ | refine Tk.label (WkP.wk W) ?_)
  exact Tk.ret W.wk (TkR.leave1 W.wk (A.P ▸ b10) rfl h)
end Go.Co.F1

namespace Go.Co.F1
open Go Go.Conc Go.Proofs
open Go.Co
open Go.ConcN (upd upd_ne upd_same)
variable {E : Geo} {N i : Nat} {l : Lo} {w : World}
set_option maxRecDepth 10000
structure CK (E : Geo) (i : Nat) (arg : Value) (f : Nat → Int) (K : (Nat → Prop) → World → (Nat → Prop) → Prop) : Prop where
  frame : ∀ {own own' : Nat → Prop} {w w' : World} {FP : Nat → Prop}, K own w FP → (∀ b, own b → own' b) → (∀ b, FP b → w'.heap[b]? = w.heap[b]?) → K own' w' FP
  lt : ∀ {own : Nat → Prop} {w : World} {FP : Nat → Prop} {b : Nat}, K own w FP → FP b → b < w.heap.size ∧ own b
  many : ∀ (N : Nat) (l : Lo) (w : World) (FP : Nat → Prop) (r : Nat), r < 256 → Pr E l → K l.own w FP → ∀ (fr : Frame) cs, (∀ l' w' FP', Stp l w FP l' w' FP' → K l'.own w' FP' → Tr E N i l' (Conc.G (fr.finish (.int .i64 (f r))) cs) w') → Tr E N i l (Conc.G (Frame.enter Try.prog 10 #[arg, .int .u8 r] .normal) (fr :: cs)) w
theorem Ctr.frame {own own' : Nat → Prop} {w' : World} {C : Nat} {FP : Nat → Prop} {vals : Nat → Int} (h : Ctr own w C FP vals) (ho : ∀ b, own b → own' b) (hv : ∀ b, FP b → w'.heap[b]? = w.heap[b]?) : Ctr own' w' C FP vals := by
  rcases h with ⟨h1, h2, h3⟩ | ⟨R, cap, ps, h⟩
  · exact .inl ⟨h1.mono (ho _ h1.own) (hv C ((h2 C).2 rfl)), h2, h3⟩
  · refine .inr ⟨R, cap, ps, ⟨h.cb.mono (ho _ h.cb.own) (hv C ((h.fp C).2 (.inl rfl))), ?_, h.len, h.nodup, fun r p hp => ?_, h.fp⟩⟩
    · obtain ⟨h1, h3⟩ := h.row
      exact ⟨ho _ h1, fun r p hp => by rw [(cell_same (a := adr R r) (hv R ((h.fp R).2 (.inr (.inl rfl))))).1]; exact h3 r p hp⟩
    · obtain ⟨h1, h2, h3⟩ := h.cell r p hp
      have e := cell_same (a := adr p 0) (hv p ((h.fp p).2 (.inr (.inr (List.mem_of_getElem? hp)))))
      exact ⟨ho _ h1, by rw [e.1]; exact h2, by rw [e.2]; exact h3⟩
theorem Ctr.lt {own : Nat → Prop} {C : Nat} {FP : Nat → Prop} {vals : Nat → Int} {b : Nat} (h : Ctr own w C FP vals) (hb : FP b) : b < w.heap.size ∧ own b := by
  rcases h with ⟨h1, h2, h3⟩ | ⟨R, cap, ps, h⟩
  · rw [(h2 b).1 hb]; exact ⟨h1.lt, h1.own⟩
  · rcases (h.fp b).1 hb with x | x | x
    · rw [x]; exact ⟨h.cb.lt, h.cb.own⟩
    · obtain ⟨h1, h3⟩ := h.row
      have hl : 0 < ps.length := by rw [h.len]; decide
      rw [x]; exact ⟨cell_block (h3 0 _ (List.getElem?_eq_getElem hl)), h1⟩
    · obtain ⟨r, hr⟩ := List.mem_iff_getElem?.1 x
      obtain ⟨h1, h2, _⟩ := h.cell r b hr
      exact ⟨cell_block h2, h1⟩
theorem ck_own (C : Nat) (vals : Nat → Int) : CK E i (ptr C 0) (cnt vals) (fun own w FP => Ctr own w C FP vals) :=
  ⟨fun h ho hv => h.frame ho hv, fun h hb => h.lt hb, fun _N _l _w _FP _r _ A c _fr _cs h => many10O A c h⟩
theorem ck_nil : CK E i (.pointer none) (fun _ => 0) (fun _ _ FP => ∀ b, ¬ FP b) :=
  ⟨fun h _ _ => h, fun h hb => absurd hb (h _), fun _N l w FP _r _ A c _fr _cs h => many10Nil A (h l w FP (Stp.refl _ _ _) c)⟩
noncomputable def c11 : Code := (Try.f11.body).getD .skip
theorem b11 : Bod Try.prog 11 15 c11 #[.cell 2 40] := ⟨Try.f11, Try.func11, by decide +kernel, rfl, rfl, rfl⟩
theorem wrap8u {r : Nat} (h : r < 256) : IntKind.u8.wrap (r : Int) = (r : Int) := by rw [IntKind.wrap_u8]; omega
set_option maxHeartbeats 8000000 in
theorem all11 {arg : Value} {f : Nat → Int} {K : (Nat → Prop) → World → (Nat → Prop) → Prop} {FP : Nat → Prop} (hK : CK E i arg f K) (A : Pr E l) (c : K l.own w FP) {fr : Frame} {cs : List Frame}
    (h : ∀ l' w' FP', Stp l w FP l' w' FP' → K l'.own w' FP' → Tr E N i l' (Conc.G (fr.finish (.agg (arrV 19 f))) cs) w') :
    Tr E N i l (Conc.G (Frame.enter Try.prog 11 #[arg] .normal) (fr :: cs)) w := by
  have hP := A.P
  have W : WkP Try.prog E l (base 11) := ⟨⟨A.fin, A.ch, by decide⟩, hP⟩
  have Wl : ∀ l' : Lo, Pr E l' → WkP Try.prog E l' (base 11) := fun l' M => ⟨⟨M.fin, M.ch, by decide⟩, hP⟩
  refine Tr.enterP hP b11 (Nat.le_of_ble_eq_true rfl) ?_
  refine Tk.seqB W.wk A.live fun w0 hv0 hB0 => ?_
  have c := hK.frame c (fun _ x => x) fun b hb => hv0.2 b (hK.lt c hb).2
  have h : ∀ l' w' FP', Stp l w0 FP l' w' FP' → K l'.own w' FP' → Tr E N i l' (Conc.G (fr.finish (.agg (arrV 19 f))) cs) w' := fun l' w' FP' s => h l' w' FP' (s.pre hv0)
  refine Tk.reg W ?_
  refine TkO.newO W A.rel (d := 2) (by rfl) (by rfl) (by rfl) (by rfl) (fun r => ptr r 0) (.cells (arrV 19 fun _ => 0) 40 (0, 0)) (fun a ha w₁ => ?_) fun w₁ hv1 r hr => ?_
  · have := exec_alloc (P := Try.prog) (a := a) (o := { dst := some 2, op := .alloc 40, type := 0, pos := "", after := #[], guard := none }) (w := w₁) (t := 40) (i := _) (z := .agg (Array.replicate 19 (.int .i64 0))) rfl (by rfl) (by rfl)
    rw [show Value.cells (.agg (Array.replicate 19 (.int .i64 0))) = arrV 19 fun _ => 0 from arrV_zero] at this
    exact this
  · have hbnd : ∀ b, l.own b → b < w₁.heap.size := fun b hb => Nat.lt_of_lt_of_le (hB0 b hb) hv1.1
    have hpush : ∀ b, b < w₁.heap.size → ({ w₁ with heap := w₁.heap.push (.cells (arrV 19 fun _ => 0) 40 (0, 0)) } : World).heap[b]? = w₁.heap[b]? := fun b hlt => by simp [Array.getElem?_push, Nat.ne_of_lt hlt]
    have c2 : K (l.grow r (r + 1)).own { w₁ with heap := w₁.heap.push (.cells (arrV 19 fun _ => 0) 40 (0, 0)) } FP := hK.frame c (fun _ x => .inl x) fun b hb => (hpush b (hbnd b (hK.lt c hb).2)).trans (hv1.2 b (hK.lt c hb).2)
    have s2 : Stp l w0 FP (l.grow r (r + 1)) { w₁ with heap := w₁.heap.push (.cells (arrV 19 fun _ => 0) 40 (0, 0)) } FP := by
      refine ⟨(Sam.refl l).grow, fun b hb => .inl hb, ⟨?_, fun b hb _ => (hpush b (hbnd b hb)).trans (hv1.2 b hb)⟩, fun _ x => .inl x⟩
      have := hv1.1
      show _ ≤ (w₁.heap.push _).size
      simp; omega
    have hA : (l.grow r (r + 1)).own r ∧ ({ w₁ with heap := w₁.heap.push (.cells (arrV 19 fun _ => 0) 40 (0, 0)) } : World).heap[r]? = some (.cells (arrV 19 fun _ => 0) 40 (0, 0)) := ⟨.inr ⟨Nat.le_refl _, Nat.lt_succ_self _⟩, heap_push hr⟩
    have hrF : ¬ FP r := fun x => by have := hbnd r (hK.lt c x).2; omega
    have hrl : ¬ l.own r := fun x => by have := hbnd r x; omega
    have A2 : Pr E (l.grow r (r + 1)) := A.sam (Sam.refl l).grow
    generalize ({ w₁ with heap := w₁.heap.push (.cells (arrV 19 fun _ => 0) 40 (0, 0)) } : World) = w2 at c2 s2 hA
    generalize l.grow r (r + 1) = l2 at c2 s2 hA A2
    have W2 := Wl l2 A2
    (repeat (first | refine TkO.done W2 (by rfl) ?_ | refine TkO.unwantedS W2 (by rfl) (by rfl) (by rfl) (by rfl) ?_ | refine TkO.pureS W2 (by rfl) (by rfl) (by rfl) (by rfl) (by first | exact pure_move (.inl rfl) rfl | exact pure_move (.inr rfl) rfl | exact pure_nilCheck rfl rfl | exact pure_field rfl rfl (by rfl) rfl (by decide +kernel) | exact pure_int rfl rfl rfl rfl | exact pure_not rfl rfl | exact pure_pickT rfl rfl rfl | exact pure_pickF rfl rfl rfl | exact pure_shift rfl rfl rfl rfl | exact pure_eqlNil rfl rfl rfl (by rfl) | exact pure_conv rfl rfl (by rfl) (by rfl)) ?_ | refine Tk.seq (WkP.wk W2) ?_ | refine Tk.reg W2 ?_ | refine Tk.skip (WkP.wk W2) ?_ | refine Tk.block (WkP.wk W2) ?_ | refine Tk.condT (WkP.wk W2) rfl ?_ | refine Tk.condF (WkP.wk W2) rfl ?_ | refine Tk.exit (WkP.wk W2) rfl ?_ | refine Tk.label (WkP.wk W2) ?_))
    refine Tk.loop W2.wk ?_
    refine Tk.cut fun KK hKK => ?_
    have HH : ∀ m n (l' : Lo) (w' : World) (FP' : Nat → Prop), n + m = 19 → Stp l w0 FP l' w' FP' → K l'.own w' FP' → (l'.own r ∧ w'.heap[r]? = some (.cells (arrV 19 fun j => if j < n then f j else 0) 40 (0, 0))) → ¬ FP' r →
        Tk E N i l' w' (base 11) 15 [(0, arg), (2, ptr r 0), (4, .int .i64 n)] [] KK (fr :: cs) := by
      intro m
      induction m with
      | zero =>
        intro n l' w' FP' hn s c hA hrF
        have hn : n = 19 := by omega
        subst hn
        have A1 : Pr E l' := A.sam s.sam
        have W1 := Wl l' A1
        rw [hKK]
        have ef : (arrV 19 fun j => if j < 19 then f j else 0) = arrV 19 f := arrV_ext fun i hi => by rw [if_pos hi]
        rw [ef] at hA
        (repeat (first | refine TkO.done W1 (by rfl) ?_ | refine TkO.unwantedS W1 (by rfl) (by rfl) (by rfl) (by rfl) ?_ | refine TkO.pureS W1 (by rfl) (by rfl) (by rfl) (by rfl) (by first | exact pure_move (.inl rfl) rfl | exact pure_move (.inr rfl) rfl | exact pure_nilCheck rfl rfl | exact pure_field rfl rfl (by rfl) rfl (by decide +kernel) | exact pure_int rfl rfl rfl rfl | exact pure_not rfl rfl | exact pure_pickT rfl rfl rfl | exact pure_pickF rfl rfl rfl | exact pure_shift rfl rfl rfl rfl | exact pure_eqlNil rfl rfl rfl (by rfl) | exact pure_conv rfl rfl (by rfl) (by rfl)) ?_ | refine Tk.seq (WkP.wk W1) ?_ | refine Tk.reg W1 ?_ | refine Tk.skip (WkP.wk W1) ?_ | refine Tk.block (WkP.wk W1) ?_ | refine Tk.condT (WkP.wk W1) rfl ?_ | refine Tk.condF (WkP.wk W1) rfl ?_ | refine Tk.exit (WkP.wk W1) rfl ?_ | refine Tk.label (WkP.wk W1) ?_))
        refine TkO.open (by rfl) (Tk.oloadA W1.wk A1.rel (x := .tmp 2) (g := r) (d := 14) (by rfl) (by rfl) (by rfl) (by rfl) (by rfl) (by rw [hP]; rfl) (by rw [hP, arrV_size]; rfl) (by rfl) hA.1 hA.2 ?_)
        show TkO _ _ _ _ _ _ _ _ _ _ 1 _ _
        refine TkO.open (by rfl) (Tk.ostoreA W1.wk A1.rel (x := .tmp 2) (y := .tmp 14) (g := r) (c := arrV 19 f) (by rfl) (by rfl) (by rfl) (by rfl) (by rw [hP, arrV_size]; rfl) rfl arrV_one (by rfl) (by rfl) hA.1 hA.2 fun w₁ w₂ hv e2 => ?_)
        show TkO _ _ _ _ _ _ _ _ _ _ 2 _ _
        have hset : ∀ b, b ≠ r → w₂.heap[b]? = w₁.heap[b]? := fun b hb => by rw [e2]; exact setRow_other _ _ _ _ hb
        have hA2 : w₂.heap[r]? = some (.cells (arrV 19 f) 40 (0, 0)) := by rw [e2]; exact setRow_heap _ _ _ _ _ _ (by rw [hv.2 r hA.1]; exact hA.2)
        have c3 : K l'.own w₂ FP' := hK.frame c (fun _ x => x) fun b hb => (hset b fun e => hrF (e ▸ hb)).trans (hv.2 b (hK.lt c hb).2)
        have s3 : Stp l w0 FP l' w₂ FP' := ⟨s.sam, s.own, ⟨by have h1 := s.fr.1; have h2 := hv.1; rw [e2]; show _ ≤ (World.setRow w₁ r (arrV 19 f)).heap.size; simp [World.setRow]; omega, fun b hb hn => (hset b fun e => hrl (e ▸ hb)).trans ((hv.2 b (s.own b hb)).trans (s.fr.2 b hb hn))⟩, s.fp⟩
        (repeat (first | refine TkO.done W1 (by rfl) ?_ | refine TkO.unwantedS W1 (by rfl) (by rfl) (by rfl) (by rfl) ?_ | refine TkO.pureS W1 (by rfl) (by rfl) (by rfl) (by rfl) (by first | exact pure_move (.inl rfl) rfl | exact pure_move (.inr rfl) rfl | exact pure_nilCheck rfl rfl | exact pure_field rfl rfl (by rfl) rfl (by decide +kernel) | exact pure_int rfl rfl rfl rfl | exact pure_not rfl rfl | exact pure_pickT rfl rfl rfl | exact pure_pickF rfl rfl rfl | exact pure_shift rfl rfl rfl rfl | exact pure_eqlNil rfl rfl rfl (by rfl) | exact pure_conv rfl rfl (by rfl) (by rfl)) ?_ | refine Tk.seq (WkP.wk W1) ?_ | refine Tk.reg W1 ?_ | refine Tk.skip (WkP.wk W1) ?_ | refine Tk.block (WkP.wk W1) ?_ | refine Tk.condT (WkP.wk W1) rfl ?_ | refine Tk.condF (WkP.wk W1) rfl ?_ | refine Tk.exit (WkP.wk W1) rfl ?_ | refine Tk.label (WkP.wk W1) ?_))
        refine Tk.ret W1.wk (TkR.leaveC W1.wk (hP ▸ b11) A1.rel (by rw [hP]; rfl) (by rw [hP, arrV_size]; rfl) (by rfl) hA.1 hA2 fun w₃ hv3 => h l' w₃ FP' ⟨s3.sam, s3.own, s3.fr.trans ⟨hv3.1, fun b hb _ => hv3.2 b (s.own b hb)⟩, s3.fp⟩ (hK.frame c3 (fun _ x => x) fun b hb => hv3.2 b (hK.lt c3 hb).2))
      | succ m ihm =>
        intro n l' w' FP' hn s c hA hrF
        have hn19 : n < 19 := by omega
        have A1 : Pr E l' := A.sam s.sam
        have W1 := Wl l' A1
        rw [hKK]
        refine Tk.seq W1.wk ?_
        refine Tk.reg W1 ?_
        refine TkO.pureS W1 (by rfl) (by rfl) (by rfl) (by rfl) (by (first | exact pure_move (.inl rfl) rfl | exact pure_move (.inr rfl) rfl | exact pure_nilCheck rfl rfl | exact pure_field rfl rfl (by rfl) rfl (by decide +kernel) | exact pure_int rfl rfl rfl rfl | exact pure_not rfl rfl | exact pure_pickT rfl rfl rfl | exact pure_pickF rfl rfl rfl | exact pure_shift rfl rfl rfl rfl | exact pure_eqlNil rfl rfl rfl (by rfl) | exact pure_conv rfl rfl (by rfl) (by rfl))) ?_
        refine TkO.done W1 (by rfl) ?_
        refine Tk.seq W1.wk ?_
        refine Tk.condT W1.wk (congrArg (fun b => some (Value.bool b)) (decide_eq_true (show (n : Int) < 19 by omega))) ?_
        repeat (first
          | refine TkO.pureS W1 (by rfl) (by rfl) (by rfl) (by rfl) (by exact pure_convE rfl rfl (by rfl) (by rfl) (wrap8u (r := n) (by omega))) ?_
          | refine TkO.done W1 (by rfl) ?_ | refine TkO.unwantedS W1 (by rfl) (by rfl) (by rfl) (by rfl) ?_ | refine TkO.pureS W1 (by rfl) (by rfl) (by rfl) (by rfl) (by first | exact pure_move (.inl rfl) rfl | exact pure_move (.inr rfl) rfl | exact pure_nilCheck rfl rfl | exact pure_field rfl rfl (by rfl) rfl (by decide +kernel) | exact pure_int rfl rfl rfl rfl | exact pure_not rfl rfl | exact pure_pickT rfl rfl rfl | exact pure_pickF rfl rfl rfl | exact pure_shift rfl rfl rfl rfl | exact pure_eqlNil rfl rfl rfl (by rfl) | exact pure_conv rfl rfl (by rfl) (by rfl)) ?_ | refine Tk.seq (WkP.wk W1) ?_ | refine Tk.reg W1 ?_ | refine Tk.skip (WkP.wk W1) ?_ | refine Tk.block (WkP.wk W1) ?_ | refine Tk.condT (WkP.wk W1) rfl ?_ | refine Tk.condF (WkP.wk W1) rfl ?_ | refine Tk.exit (WkP.wk W1) rfl ?_ | refine Tk.label (WkP.wk W1) ?_)
        refine TkO.call W1 (by rfl) (by rfl) (by rfl) (by rfl) b10 rfl fun fr1 hk1 => ?_
        refine hK.many N l' w' FP' n (by omega) A1 c fr1 _ fun l3 w3 FP3 s3 c3 => hk1 _ _ _ (TkO.lay (rfl : Nv.put _ _ _ = (_, _) :: _) ?_)
        have A3 : Pr E l3 := A1.sam s3.sam
        have W3 := Wl l3 A3
        have hA3 : l3.own r ∧ w3.heap[r]? = some (.cells (arrV 19 fun j => if j < n then f j else 0) 40 (0, 0)) := ⟨s3.own r hA.1, by rw [s3.fr.2 r hA.1 hrF]; exact hA.2⟩
        have hrF3 : ¬ FP3 r := fun x => (s3.fp r x).elim hrF fun y => by have := lt_of_heap hA.2; omega
        refine TkO.pureS W3 (by rfl) (by rfl) (by rfl) (by rfl) (pure_indexA rfl (by rfl) (by decide +kernel) rfl rfl (by omega)) ?_
        rw [show (0 + ((n : Int)).toNat) = n by omega]
        have hcell : w3.cell? (adr r n) = some (.int .i64 0) := by
          unfold World.cell?; rw [show w3.heap[(adr r n).block]? = _ from hA3.2]
          show (arrV 19 _)[n]? = _
          rw [arrV_get, if_pos hn19, if_neg (Nat.lt_irrefl _)]
        refine TkO.open (by rfl) (Tk.ostore W3.wk A3.rel (t := 3) (x := .tmp 12) (y := .tmp 11) (ad := adr r n) (v := .int .i64 (f n)) (by rfl) (by rfl) (by rfl) (by rfl) (by rw [hP]; exact ⟨_, by rfl, by rfl⟩) rfl rfl (by rfl) (by rfl) hA3.1 hcell (by unfold World.frozen?; rw [show w3.heap[(adr r n).block]? = _ from hA3.2]; simp) fun w₁ hv => ?_)
        show TkO _ _ _ _ _ _ _ _ _ _ 7 _ _
        have hset : ∀ b, b ≠ r → (w₁.setCell (adr r n) (.int .i64 (f n))).heap[b]? = w₁.heap[b]? := fun b hb => set_blk w₁ _ _ fun e => hb e.symm
        have hA4 : (w₁.setCell (adr r n) (.int .i64 (f n))).heap[r]? = some (.cells (arrV 19 fun j => if j < n + 1 then f j else 0) 40 (0, 0)) := by
          rw [heap_set (by rw [hv.2 r hA3.1]; exact hA3.2), arrV_set hn19]
          congr 2
          refine arrV_ext fun j hj => ?_
          by_cases e : j = n
          · subst e; rw [upd_same, if_pos (Nat.lt_succ_self _)]
          · rw [upd_ne _ _ e]
            by_cases e2 : j < n
            · rw [if_pos e2, if_pos (by omega)]
            · rw [if_neg e2, if_neg (by omega)]
        have c4 : K l3.own (w₁.setCell (adr r n) (.int .i64 (f n))) FP3 := hK.frame c3 (fun _ x => x) fun b hb => (hset b fun e => hrF3 (e ▸ hb)).trans (hv.2 b (hK.lt c3 hb).2)
        have s4 : Stp l w0 FP l3 (w₁.setCell (adr r n) (.int .i64 (f n))) FP3 := by
          have s5 := Stp.trans hB0 s s3
          exact ⟨s5.sam, s5.own, ⟨by have h1 := s5.fr.1; have h2 := hv.1; rw [setCell_size]; omega, fun b hb hn => (hset b fun e => hrl (e ▸ hb)).trans ((hv.2 b (s5.own b hb)).trans (s5.fr.2 b hb hn))⟩, s5.fp⟩
        refine TkO.done W3 (by rfl) ?_
        refine Tk.inBlock W3.wk ?_
        refine Tk.reg W3 ?_
        refine TkO.pureS W3 (by rfl) (by rfl) (by rfl) (by rfl) (by (first | exact pure_move (.inl rfl) rfl | exact pure_move (.inr rfl) rfl | exact pure_nilCheck rfl rfl | exact pure_field rfl rfl (by rfl) rfl (by decide +kernel) | exact pure_int rfl rfl rfl rfl | exact pure_not rfl rfl | exact pure_pickT rfl rfl rfl | exact pure_pickF rfl rfl rfl | exact pure_shift rfl rfl rfl rfl | exact pure_eqlNil rfl rfl rfl (by rfl) | exact pure_conv rfl rfl (by rfl) (by rfl))) ?_
        rw [wrap64 (by omega)]
        (repeat (first | refine TkO.done W3 (by rfl) ?_ | refine TkO.unwantedS W3 (by rfl) (by rfl) (by rfl) (by rfl) ?_ | refine TkO.pureS W3 (by rfl) (by rfl) (by rfl) (by rfl) (by first | exact pure_move (.inl rfl) rfl | exact pure_move (.inr rfl) rfl | exact pure_nilCheck rfl rfl | exact pure_field rfl rfl (by rfl) rfl (by decide +kernel) | exact pure_int rfl rfl rfl rfl | exact pure_not rfl rfl | exact pure_pickT rfl rfl rfl | exact pure_pickF rfl rfl rfl | exact pure_shift rfl rfl rfl rfl | exact pure_eqlNil rfl rfl rfl (by rfl) | exact pure_conv rfl rfl (by rfl) (by rfl)) ?_ | refine Tk.seq (WkP.wk W3) ?_ | refine Tk.reg W3 ?_ | refine Tk.skip (WkP.wk W3) ?_ | refine Tk.block (WkP.wk W3) ?_ | refine Tk.condT (WkP.wk W3) rfl ?_ | refine Tk.condF (WkP.wk W3) rfl ?_ | refine Tk.exit (WkP.wk W3) rfl ?_ | refine Tk.label (WkP.wk W3) ?_))
        refine Tk.inLoop W3.wk ?_
        rw [← hKK]
        exact Tk.sub (ihm (n + 1) l3 _ FP3 (by omega) s4 c4 ⟨hA3.1, hA4⟩ hrF3) (AllGet.sub ⟨rfl, rfl, rfl, trivial⟩)
    refine Tk.sub (HH 19 0 l2 w2 FP rfl s2 c2 ⟨hA.1, ?_⟩ hrF) (AllGet.sub ⟨rfl, rfl, rfl, trivial⟩)
    rw [hA.2]
    congr 2
end Go.Co.F1

namespace Go.Co.F1
open Go Go.Conc Go.Proofs
open Go.Co
open Go.ConcN (upd upd_ne upd_same)
variable {E : Geo} {N i : Nat} {l : Lo} {w : World}
set_option maxRecDepth 10000
def sumF (f : Nat → Int) : Nat → Int
  | 0 => 0
  | n + 1 => sumF f n + f n
theorem sumF_bd {f : Nat → Int} (h : ∀ j, 0 ≤ f j ∧ f j < 1125899906842624) : ∀ n, 0 ≤ sumF f n ∧ sumF f n ≤ (n : Int) * 1125899906842624
  | 0 => by simp [sumF]
  | n + 1 => by
    have h1 := sumF_bd h n
    have h2 := h n
    simp only [sumF]
    have : ((n + 1 : Nat) : Int) * 1125899906842624 = (n : Int) * 1125899906842624 + 1125899906842624 := by
      rw [Int.natCast_succ, Int.add_mul, Int.one_mul]
    omega
noncomputable def c12 : Code := (Try.f12.body).getD .skip
theorem b12 : Bod Try.prog 12 15 c12 #[.tmp 2] := ⟨Try.f12, Try.func12, by decide +kernel, rfl, rfl, rfl⟩
theorem pure_addE {P : Program} {env : Nv} {o : Oper} {t yt : TypeId} {x y : Operand} {k : IntKind} {p q r : Int} (ho : o.op = .binOp .add t x y yt) (hx : env.ev x = some (.int k p)) (hy : env.ev y = some (.int k q)) (hr : k.wrap (p + q) = r) : PureOp P env o (.int k r) :=
  pure_int ho hx hy (by simp only [intV]; rw [hr])
set_option maxHeartbeats 8000000 in
theorem sum12 {arg : Value} {f : Nat → Int} {K : (Nat → Prop) → World → (Nat → Prop) → Prop} {FP : Nat → Prop} (hK : CK E i arg f K) (A : Pr E l) (c : K l.own w FP) (hf : ∀ j, 0 ≤ f j ∧ f j < 1125899906842624) {fr : Frame} {cs : List Frame}
    (h : ∀ l' w' FP', Stp l w FP l' w' FP' → K l'.own w' FP' → Tr E N i l' (Conc.G (fr.finish (.int .i64 (sumF f 19))) cs) w') :
    Tr E N i l (Conc.G (Frame.enter Try.prog 12 #[arg] .normal) (fr :: cs)) w := by
  have hP := A.P
  have W : WkP Try.prog E l (base 12) := ⟨⟨A.fin, A.ch, by decide⟩, hP⟩
  refine Tr.enterP hP b12 (Nat.le_of_ble_eq_true rfl) ?_
  (repeat (first | refine TkO.done W (by rfl) ?_ | refine TkO.unwantedS W (by rfl) (by rfl) (by rfl) (by rfl) ?_ | refine TkO.pureS W (by rfl) (by rfl) (by rfl) (by rfl) (by first | exact pure_move (.inl rfl) rfl | exact pure_move (.inr rfl) rfl | exact pure_nilCheck rfl rfl | exact pure_field rfl rfl (by rfl) rfl (by decide +kernel) | exact pure_int rfl rfl rfl rfl | exact pure_not rfl rfl | exact pure_pickT rfl rfl rfl | exact pure_pickF rfl rfl rfl | exact pure_shift rfl rfl rfl rfl | exact pure_eqlNil rfl rfl rfl (by rfl) | exact pure_conv rfl rfl (by rfl) (by rfl)) ?_ | refine Tk.seq (WkP.wk W) ?_ | refine Tk.reg W ?_ | refine Tk.skip (WkP.wk W) ?_ | refine Tk.block (WkP.wk W) ?_ | refine Tk.condT (WkP.wk W) rfl ?_ | refine Tk.condF (WkP.wk W) rfl ?_ | refine Tk.exit (WkP.wk W) rfl ?_ | refine Tk.label (WkP.wk W) ?_))
  refine TkO.call W (by rfl) (by rfl) (by rfl) (by rfl) b11 rfl fun fr1 hk1 => ?_
  refine all11 hK A c fun l1 w1 FP1 s c1 => hk1 _ _ _ (TkO.lay (rfl : Nv.put _ _ _ = (_, _) :: _) ?_)
  have A1 : Pr E l1 := A.sam s.sam
  have W1 : WkP Try.prog E l1 (base 12) := wkp W A1.ch
  (repeat (first | refine TkO.done W1 (by rfl) ?_ | refine TkO.unwantedS W1 (by rfl) (by rfl) (by rfl) (by rfl) ?_ | refine TkO.pureS W1 (by rfl) (by rfl) (by rfl) (by rfl) (by first | exact pure_move (.inl rfl) rfl | exact pure_move (.inr rfl) rfl | exact pure_nilCheck rfl rfl | exact pure_field rfl rfl (by rfl) rfl (by decide +kernel) | exact pure_int rfl rfl rfl rfl | exact pure_not rfl rfl | exact pure_pickT rfl rfl rfl | exact pure_pickF rfl rfl rfl | exact pure_shift rfl rfl rfl rfl | exact pure_eqlNil rfl rfl rfl (by rfl) | exact pure_conv rfl rfl (by rfl) (by rfl)) ?_ | refine Tk.seq (WkP.wk W1) ?_ | refine Tk.reg W1 ?_ | refine Tk.skip (WkP.wk W1) ?_ | refine Tk.block (WkP.wk W1) ?_ | refine Tk.condT (WkP.wk W1) rfl ?_ | refine Tk.condF (WkP.wk W1) rfl ?_ | refine Tk.exit (WkP.wk W1) rfl ?_ | refine Tk.label (WkP.wk W1) ?_))
  refine Tk.loop W1.wk ?_
  refine Tk.cut fun KK hKK => ?_
  have HH : ∀ m n, n + m = 19 → Tk E N i l1 w1 (base 12) 15 [(2, .int .i64 (sumF f n)), (6, .agg (arrV 19 f)), (7, .int .i64 n)] [] KK (fr :: cs) := by
    intro m
    induction m with
    | zero =>
      intro n hn
      have hn : n = 19 := by omega
      subst hn
      rw [hKK]
      (repeat (first | refine TkO.done W1 (by rfl) ?_ | refine TkO.unwantedS W1 (by rfl) (by rfl) (by rfl) (by rfl) ?_ | refine TkO.pureS W1 (by rfl) (by rfl) (by rfl) (by rfl) (by first | exact pure_move (.inl rfl) rfl | exact pure_move (.inr rfl) rfl | exact pure_nilCheck rfl rfl | exact pure_field rfl rfl (by rfl) rfl (by decide +kernel) | exact pure_int rfl rfl rfl rfl | exact pure_not rfl rfl | exact pure_pickT rfl rfl rfl | exact pure_pickF rfl rfl rfl | exact pure_shift rfl rfl rfl rfl | exact pure_eqlNil rfl rfl rfl (by rfl) | exact pure_conv rfl rfl (by rfl) (by rfl)) ?_ | refine Tk.seq (WkP.wk W1) ?_ | refine Tk.reg W1 ?_ | refine Tk.skip (WkP.wk W1) ?_ | refine Tk.block (WkP.wk W1) ?_ | refine Tk.condT (WkP.wk W1) rfl ?_ | refine Tk.condF (WkP.wk W1) rfl ?_ | refine Tk.exit (WkP.wk W1) rfl ?_ | refine Tk.label (WkP.wk W1) ?_))
      exact Tk.ret W1.wk (TkR.leave1 W1.wk (hP ▸ b12) rfl (h _ _ _ s c1))
    | succ m ihm =>
      intro n hn
      have hn19 : n < 19 := by omega
      rw [hKK]
      refine Tk.seq W1.wk ?_
      refine Tk.reg W1 ?_
      refine TkO.pureS W1 (by rfl) (by rfl) (by rfl) (by rfl) (by (first | exact pure_move (.inl rfl) rfl | exact pure_move (.inr rfl) rfl | exact pure_nilCheck rfl rfl | exact pure_field rfl rfl (by rfl) rfl (by decide +kernel) | exact pure_int rfl rfl rfl rfl | exact pure_not rfl rfl | exact pure_pickT rfl rfl rfl | exact pure_pickF rfl rfl rfl | exact pure_shift rfl rfl rfl rfl | exact pure_eqlNil rfl rfl rfl (by rfl) | exact pure_conv rfl rfl (by rfl) (by rfl))) ?_
      refine TkO.done W1 (by rfl) ?_
      refine Tk.seq W1.wk ?_
      refine Tk.condT W1.wk (congrArg (fun b => some (Value.bool b)) (decide_eq_true (show (n : Int) < 19 by omega))) ?_
      have hb := sumF_bd hf n
      have hfn := hf n
      have hadd : IntKind.i64.wrap (sumF f n + f n) = sumF f (n + 1) := by
        simp only [sumF]
        rw [IntKind.wrap_i64]
        have : (n : Int) * 1125899906842624 ≤ 19 * 1125899906842624 := by
          have : (n : Int) ≤ 19 := by omega
          exact Int.mul_le_mul_of_nonneg_right this (by decide)
        omega
      have htn : ((n : Int)).toNat = n := by omega
      repeat (first
        | refine TkO.pureS W1 (by rfl) (by rfl) (by rfl) (by rfl) (by first | exact htn ▸ pure_indexV (f := f) (m := 19) rfl (by rfl) (by rfl) (by decide +kernel) rfl rfl (by omega) | exact pure_addE rfl rfl rfl hadd | exact pure_addE rfl rfl rfl (wrap64 (by omega))) ?_
        | refine TkO.done W1 (by rfl) ?_ | refine TkO.unwantedS W1 (by rfl) (by rfl) (by rfl) (by rfl) ?_ | refine TkO.pureS W1 (by rfl) (by rfl) (by rfl) (by rfl) (by first | exact pure_move (.inl rfl) rfl | exact pure_move (.inr rfl) rfl | exact pure_nilCheck rfl rfl | exact pure_field rfl rfl (by rfl) rfl (by decide +kernel) | exact pure_int rfl rfl rfl rfl | exact pure_not rfl rfl | exact pure_pickT rfl rfl rfl | exact pure_pickF rfl rfl rfl | exact pure_shift rfl rfl rfl rfl | exact pure_eqlNil rfl rfl rfl (by rfl) | exact pure_conv rfl rfl (by rfl) (by rfl)) ?_ | refine Tk.seq (WkP.wk W1) ?_ | refine Tk.reg W1 ?_ | refine Tk.skip (WkP.wk W1) ?_ | refine Tk.block (WkP.wk W1) ?_ | refine Tk.condT (WkP.wk W1) rfl ?_ | refine Tk.condF (WkP.wk W1) rfl ?_ | refine Tk.exit (WkP.wk W1) rfl ?_ | refine Tk.label (WkP.wk W1) ?_)
      refine Tk.inBlock W1.wk ?_
      repeat (first
        | refine TkO.pureS W1 (by rfl) (by rfl) (by rfl) (by rfl) (by exact pure_addE rfl rfl rfl (wrap64 (by omega))) ?_
        | refine TkO.done W1 (by rfl) ?_ | refine TkO.unwantedS W1 (by rfl) (by rfl) (by rfl) (by rfl) ?_ | refine TkO.pureS W1 (by rfl) (by rfl) (by rfl) (by rfl) (by first | exact pure_move (.inl rfl) rfl | exact pure_move (.inr rfl) rfl | exact pure_nilCheck rfl rfl | exact pure_field rfl rfl (by rfl) rfl (by decide +kernel) | exact pure_int rfl rfl rfl rfl | exact pure_not rfl rfl | exact pure_pickT rfl rfl rfl | exact pure_pickF rfl rfl rfl | exact pure_shift rfl rfl rfl rfl | exact pure_eqlNil rfl rfl rfl (by rfl) | exact pure_conv rfl rfl (by rfl) (by rfl)) ?_ | refine Tk.seq (WkP.wk W1) ?_ | refine Tk.reg W1 ?_ | refine Tk.skip (WkP.wk W1) ?_ | refine Tk.block (WkP.wk W1) ?_ | refine Tk.condT (WkP.wk W1) rfl ?_ | refine Tk.condF (WkP.wk W1) rfl ?_ | refine Tk.exit (WkP.wk W1) rfl ?_ | refine Tk.label (WkP.wk W1) ?_)
      refine Tk.inLoop W1.wk ?_
      rw [← hKK]
      exact Tk.sub (ihm (n + 1) (by omega)) (AllGet.sub ⟨rfl, rfl, rfl, trivial⟩)
  exact Tk.sub (HH 19 0 rfl) (AllGet.sub ⟨rfl, rfl, rfl, trivial⟩)
end Go.Co.F1

namespace Go.Co.F1
open Go Go.Conc Go.Proofs
open Go.Co
open Go.ConcN (upd upd_ne upd_same)
variable {E : Geo} {N i : Nat} {l : Lo} {w : World}
set_option maxRecDepth 10000
structure Kp (own : Nat → Prop) (w : World) (own' : Nat → Prop) (w' : World) : Prop where
  ow : ∀ b, own b → b < w.heap.size → own' b
  size : w.heap.size ≤ w'.heap.size
  heap : ∀ b, own b → b < w.heap.size → w'.heap[b]? = w.heap[b]?
theorem Kp.refl (own : Nat → Prop) (w : World) : Kp own w own w := ⟨fun _ h _ => h, Nat.le_refl _, fun _ _ _ => rfl⟩
theorem Kp.trans {own own1 own2 : Nat → Prop} {w w1 w2 : World} (h : Kp own w own1 w1) (k : Kp own1 w1 own2 w2) : Kp own w own2 w2 :=
  ⟨fun b x hb => k.ow b (h.ow b x hb) (Nat.lt_of_lt_of_le hb h.size), Nat.le_trans h.size k.size, fun b x hb => (k.heap b (h.ow b x hb) (Nat.lt_of_lt_of_le hb h.size)).trans (h.heap b x hb)⟩
theorem Kp.view {own : Nat → Prop} {w w' : World} (h : View own w w') : Kp own w own w' := ⟨fun _ x _ => x, h.1, fun b x _ => h.2 b x⟩
theorem Kp.get {own own' : Nat → Prop} {w w' : World} (h : Kp own w own' w') {b : Nat} {x : Obj} (ho : own b) (hb : w.heap[b]? = some x) : own' b ∧ w'.heap[b]? = some x := ⟨h.ow b ho (lt_of_heap hb), by rw [h.heap b ho (lt_of_heap hb)]; exact hb⟩
theorem sam_main {own : Nat → Prop} {l' : Lo} (h : Sam (mainLo own) l') : l' = mainLo l'.own := h
theorem pr_main {own : Nat → Prop} (hf : E.FinV) (hP : E.P = Try.prog) : Pr E (mainLo own) := ⟨hf, hP, rfl, rfl, rfl, rfl⟩
theorem wk_main {own : Nat → Prop} {b : Frame} (hf : E.FinV) (hP : E.P = Try.prog) (hk : b.kind ≠ .early) : WkP Try.prog E (mainLo own) b := ⟨⟨hf, rfl, hk⟩, hP⟩
theorem exec_allocC {P : Program} {a : Act} {o : Oper} {t : TypeId} {c : Array Value} (ho : o.op = .alloc t) (hz : ((P.info? t).bind fun i => i.zero.map (·.cells)) = some c) (w : World) :
    (execOp a.eval o).run P w = .ok (.value (.pointer (some ⟨w.heap.size, 0, none⟩))) { w with heap := w.heap.push (.cells c t (0, 0)) } ∧ (execOp a.eval o).events P w #[] = #[] := by
  cases hi : P.info? t with
  | none => rw [hi] at hz; cases hz
  | some i =>
    rw [hi] at hz
    simp only [Option.bind_some] at hz
    cases hzz : i.zero with
    | none => rw [hzz] at hz; cases hz
    | some z =>
      rw [hzz] at hz
      simp only [Option.map_some, Option.some.injEq] at hz
      rw [← hz]
      exact exec_alloc ho hi hzz
theorem exec_makeChan {P : Program} {a : Act} {o : Oper} {t e : TypeId} {x : Operand} {dir : ChanDir} {i : TypeInfo} {k : IntKind} (ho : o.op = .makeChan t x) (hx : a.eval x = .int k 0) (ht : P.underlying t = some (.chan dir e)) (hi : P.info? e = some i) (w : World) :
    (execOp a.eval o).run P w = .ok (.value (.chan (some w.heap.size))) { w with heap := w.heap.push (.chan 0 #[] false 0 0 false) } ∧ (execOp a.eval o).events P w #[] = #[] := by
  have h1 := run_makeChan (P := P) (w := w) ht hi k 0 (by decide) (by simp)
  have h2 := events_makeChan (P := P) (w := w) ht hi k 0 (by decide) (by simp)
  constructor
  · simp only [execOp, ho, hx]
    simp only [Sem.run_bind]
    have h1' : (Instr.makeChan t (.int k 0)).run P w = .ok (.chan (some w.heap.size)) { w with heap := w.heap.push (.chan 0 #[] false 0 0 false) } := h1
    simp [h1']
  · simp only [execOp, ho, hx]
    have h1' : (Instr.makeChan t (.int k 0)).run P w = .ok (.chan (some w.heap.size)) (w.alloc (.chan 0 #[] false 0 0 false)) := h1
    have h2' := h2 #[]
    simp only [Int.ofNat_zero] at h2'
    simp [show (Instr.makeChan t (.int k 0)).events P w #[] = #[] from h2']
section
variable {P : Program} {b : Frame} {n : Nat} {env : Nv} {ds : List Deferred} {k : List Item} {cs : List Frame} {ops : Array Oper} {j : Nat} {o : Oper} {own : Nat → Prop}
theorem kp_push {own : Nat → Prop} {w w₁ : World} {x : Obj} (hv : View own w w₁) : Kp own w (fun b => own b ∨ (w₁.heap.size ≤ b ∧ b < w₁.heap.size + 1)) { w₁ with heap := w₁.heap.push x } := by
  refine ⟨fun b h _ => .inl h, ?_, fun b h hb => ?_⟩
  · have := hv.1
    show _ ≤ (w₁.heap.push _).size
    simp; omega
  · rw [← hv.2 b h]
    simp [Array.getElem?_push, Nat.ne_of_lt (Nat.lt_of_lt_of_le hb hv.1)]
theorem Tk.newM (W : WkP P E (mainLo own) b) {rest : List Nat} {d : Nat} (ho : ops[j]? = some o) (hw : wantE ops env o = some true) (hdd : o.dst = some d) (hd : Nat.blt d n = true) (v : Nat → Value) (x : Obj)
    (hx : ∀ a, Has n env a → ∀ w₁ : World, (execOp a.eval o).run P w₁ = .ok (.value (v w₁.heap.size)) { w₁ with heap := w₁.heap.push x } ∧ (execOp a.eval o).events P w₁ #[] = #[])
    (h : ∀ own' w' r, Kp own w own' w' → w.heap.size ≤ r → own' r → w'.heap[r]? = some x → Tk E N i (mainLo own') w' b n ((d, v r) :: env) ds (.inRegion ops rest :: k) cs) :
    Tk E N i (mainLo own) w b n env ds (.inRegion ops (j :: rest) :: k) cs := by
  refine Tk.newO W.wk rfl ho hw hdd hd v x (by rw [W.hP]; exact hx) fun w₁ hv r hr => ?_
  subst hr
  exact h (fun b => own b ∨ (w₁.heap.size ≤ b ∧ b < w₁.heap.size + 1)) _ _ (kp_push hv) hv.1 (.inr ⟨Nat.le_refl _, Nat.lt_succ_self _⟩) (heap_push rfl)
theorem TkO.newM (W : WkP P E (mainLo own) b) {d : Nat} (ho : ops[j]? = some o) (hw : wantE ops env o = some true) (hdd : o.dst = some d) (hd : Nat.blt d n = true) (v : Nat → Value) (x : Obj)
    (hx : ∀ a, Has n env a → ∀ w₁ : World, (execOp a.eval o).run P w₁ = .ok (.value (v w₁.heap.size)) { w₁ with heap := w₁.heap.push x } ∧ (execOp a.eval o).events P w₁ #[] = #[])
    (h : ∀ own' w' r, Kp own w own' w' → w.heap.size ≤ r → own' r → w'.heap[r]? = some x → TkO E N i (mainLo own') w' b n ((d, v r) :: env) ds ops (j + 1) k cs) :
    TkO E N i (mainLo own) w b n env ds ops j k cs := TkO.open ho (Tk.newM W ho hw hdd hd v x hx h)
end
end Go.Co.F1

namespace Go.Co.F1
open Go Go.Conc Go.Proofs
open Go.Co
open Go.ConcN (upd upd_ne upd_same)
variable {E : Geo} {N i : Nat} {l : Lo} {w : World}
set_option maxRecDepth 10000
theorem b14c : Bod Try.prog 14 31 c14 #[.cell 4 40] := ⟨Try.f14, Try.func14, by decide +kernel, rfl, rfl, rfl⟩
set_option maxHeartbeats 4000000 in
/-- Tally, as far as its company. -/
theorem tally14pre {own : Nat → Prop} {wk : Int} {bs : Option Addr} {nj cap : Nat} (hf : E.FinV) (hP : E.P = Try.prog) {cs : List Frame}
    (h : ∀ own' w' A C H B c, Kp own w own' w' → TSt w' C H B c → (∀ x, x = A ∨ x = C ∨ x = H ∨ x = B ∨ x = c → w.heap.size ≤ x ∧ own' x) → w'.heap[A]? = some (.cells (arrV 19 fun _ => 0) 40 (0, 0)) → (A ≠ C ∧ A ≠ H ∧ A ≠ B ∧ A ≠ c) →
      Tk E N 0 (mainLo own') w' (base 14) 31 [(0, .int .i64 wk), (1, .slice bs nj cap), (4, ptr A 0), (5, ptr C 0), (6, ptr B 0), (7, ptr H 0)] [] [.code r14] cs) :
    Tr E N 0 (mainLo own) (Conc.G (Frame.enter Try.prog 14 #[.int .i64 wk, .slice bs nj cap] .normal) cs) w := by
  have Wl : ∀ own', WkP Try.prog E (mainLo own') (base 14) := fun own' => wk_main hf hP (by decide)
  obtain ⟨ty, b14⟩ := b14
  refine Tr.enterP hP b14 (Nat.le_of_ble_eq_true rfl) ?_
  refine Tk.seq (Wl _).wk ?_
  refine Tk.reg (Wl _) ?_
  refine TkO.newM (Wl _) (d := 4) (by rfl) (by rfl) (by rfl) (by rfl) (fun r => ptr r 0) (.cells (arrV 19 fun _ => 0) 40 (0, 0)) (fun a ha w₁ => ?_) fun own1 w1 A k1 A1 A2 A3 => ?_
  · have := exec_allocC (P := Try.prog) (a := a) (o := { dst := some 4, op := .alloc 40, type := 0, pos := "", after := #[], guard := none }) (t := 40) (c := Array.replicate 19 (.int .i64 0)) rfl (by rfl) w₁
    rw [show Array.replicate 19 (Value.int .i64 0) = arrV 19 fun _ => 0 from arrV_zero] at this
    exact this
  refine TkO.done (Wl _) (by rfl) ?_
  refine Tk.seq (Wl _).wk ?_
  refine Tk.reg (Wl _) ?_
  refine TkO.newM (Wl _) (d := 5) (by rfl) (by rfl) (by rfl) (by rfl) (fun r => ptr r 0) (.cells #[.int .u32 0, .int .i32 0, .int .u32 0, .slice none 0 0] 38 (0, 0)) (fun a ha w₁ => exec_allocC (t := 38) (by rfl) (by rfl) w₁) fun own2 w2 C k2 C1 C2 C3 => ?_
  refine TkO.done (Wl _) (by rfl) ?_
  refine Tk.seq (Wl _).wk ?_
  refine Tk.reg (Wl _) ?_
  refine TkO.newM (Wl _) (d := 6) (by rfl) (by rfl) (by rfl) (by rfl) (fun r => ptr r 0) (.cells #[.int .u64 0, .int .u32 0] 60 (0, 0)) (fun a ha w₁ => exec_allocC (t := 60) (by rfl) (by rfl) w₁) fun own3 w3 B k3 B1 B2 B3 => ?_
  refine TkO.done (Wl _) (by rfl) ?_
  refine Tk.seq (Wl _).wk ?_
  refine Tk.reg (Wl _) ?_
  refine TkO.newM (Wl _) (d := 10) (by rfl) (by rfl) (by rfl) (by rfl) (fun r => .chan (some r)) (.chan 0 #[] false 0 0 false) (fun a ha w₁ => exec_makeChan (t := 61) (x := .const (.int .i64 0)) (by rfl) rfl (by rfl) (by rfl) w₁) fun own4 w4 c k4 c1 c2 c3 => ?_
  refine TkO.newM (Wl _) (d := 7) (by rfl) (by rfl) (by rfl) (by rfl) (fun r => ptr r 0) (.cells #[.chan none] 61 (0, 0)) (fun a ha w₁ => exec_allocC (t := 61) (by rfl) (by rfl) w₁) fun own5 w5 H k5 H1 H2 H3 => ?_
  have hcell : w5.cell? (adr H 0) = some (.chan none) := by rw [cell_at H3]; rfl
  have hfr : w5.frozen? (adr H 0) = false := by unfold World.frozen?; rw [show w5.heap[(adr H 0).block]? = _ from H3]; simp
  refine TkO.open (by rfl) (Tk.ostore (Wl _).wk rfl (t := 61) (x := .tmp 7) (y := .tmp 10) (ad := adr H 0) (v := .chan (some c)) (by rfl) (by rfl) (by rfl) (by rfl) (by rw [hP]; exact ⟨_, by rfl, by rfl⟩) rfl rfl (by rfl) (by rfl) H2 hcell hfr fun w6 hv6 => ?_)
  show TkO _ _ _ _ _ _ _ _ _ _ 3 _ _
  refine TkO.done (Wl _) (by rfl) ?_
  have k25 := k3.trans (k4.trans k5)
  have k15 := k2.trans k25
  have k05 := k1.trans k15
  have k35 := k4.trans k5
  have lA := lt_of_heap A3
  have lC := lt_of_heap C3
  have lB := lt_of_heap B3
  have lc := lt_of_heap c3
  have s1 := k1.size; have s2 := k2.size; have s3 := k3.size; have s4 := k4.size; have s5 := k5.size
  obtain ⟨A5, A5h⟩ := k15.get A2 A3
  obtain ⟨C5, C5h⟩ := k25.get C2 C3
  obtain ⟨B5, B5h⟩ := k35.get B2 B3
  obtain ⟨c5, c5h⟩ := k5.get c2 c3
  have hset : ∀ b, b ≠ H → (w6.setCell (adr H 0) (.chan (some c))).heap[b]? = w6.heap[b]? := fun b hb => set_blk w6 _ _ fun e => hb e.symm
  have C6 : (w6.setCell (adr H 0) (.chan (some c))).heap[C]? = some (.cells #[.int .u32 0, .int .i32 0, .int .u32 0, .slice none 0 0] 38 (0, 0)) := by rw [hset C (by omega), hv6.2 C C5]; exact C5h
  have B6 : (w6.setCell (adr H 0) (.chan (some c))).heap[B]? = some (.cells #[.int .u64 0, .int .u32 0] 60 (0, 0)) := by rw [hset B (by omega), hv6.2 B B5]; exact B5h
  have A6 : (w6.setCell (adr H 0) (.chan (some c))).heap[A]? = some (.cells (arrV 19 fun _ => 0) 40 (0, 0)) := by rw [hset A (by omega), hv6.2 A A5]; exact A5h
  have c6 : (w6.setCell (adr H 0) (.chan (some c))).heap[c]? = some (.chan 0 #[] false 0 0 false) := by rw [hset c (by omega), hv6.2 c c5]; exact c5h
  have H6 : (w6.setCell (adr H 0) (.chan (some c))).heap[H]? = some (.cells #[.chan (some c)] 61 (0, 0)) := by
    rw [heap_set (by rw [hv6.2 H H2]; exact H3)]; rfl
  have fz : ∀ (b : Nat) (x : Array Value) (e : TypeId), (w6.setCell (adr H 0) (.chan (some c))).heap[b]? = some (.cells x e (0, 0)) → ∀ o, (w6.setCell (adr H 0) (.chan (some c))).frozen? (adr b o) = false := fun b x e hb o => by
    unfold World.frozen?; rw [show (w6.setCell (adr H 0) (.chan (some c))).heap[(adr b o).block]? = _ from hb]; simp
  refine Tk.sub (env' := [(0, .int .i64 wk), (1, .slice bs nj cap), (4, ptr A 0), (5, ptr C 0), (6, ptr B 0), (7, ptr H 0)]) ?_ (AllGet.sub ⟨rfl, rfl, rfl, rfl, rfl, rfl, trivial⟩)
  refine h own5 _ A C H B c ⟨k05.ow, ?_, fun b hb hlt => ?_⟩ ⟨by rw [cell_at C6]; rfl, by rw [cell_at C6]; rfl, by rw [cell_at C6]; rfl, by rw [cell_at C6]; rfl, fun o _ => fz _ _ _ C6 o, by rw [cell_at H6]; rfl, fz _ _ _ H6 0, by rw [cell_at B6]; rfl, by rw [cell_at B6]; rfl, fun o _ => fz _ _ _ B6 o, ⟨0, 0, c6⟩⟩ (fun x hx => ?_) A6 ⟨by omega, by omega, by omega, by omega⟩
  · rw [setCell_size]; exact Nat.le_trans k05.size hv6.1
  · rw [hset b (by omega), hv6.2 b (k05.ow b hb hlt)]
    exact k05.heap b hb hlt
  · rcases hx with rfl | rfl | rfl | rfl | rfl
    · exact ⟨A1, A5⟩
    · exact ⟨by omega, C5⟩
    · exact ⟨by omega, H2⟩
    · exact ⟨by omega, B5⟩
    · exact ⟨by omega, c5⟩
set_option maxHeartbeats 4000000 in
/-- Tally, behind its company. -/
theorem tally14post {own : Nat → Prop} {A C : Nat} {FP : Nat → Prop} {vals : Nat → Int} (hf : E.FinV) (hP : E.P = Try.prog) (hA : own A) (hAh : w.heap[A]? = some (.cells (arrV 19 fun _ => 0) 40 (0, 0))) (c : Ctr own w C FP vals) (hAF : ¬ FP A) {fr : Frame} {cs : List Frame}
    (h : ∀ own' w', (∀ b, own b → own' b) → w.heap.size ≤ w'.heap.size → (∀ b, own b → b < w.heap.size → ¬ FP b → b ≠ A → w'.heap[b]? = w.heap[b]?) → Tr E N 0 (mainLo own') (Conc.G (fr.finish (.agg (arrV 19 (cnt vals)))) cs) w') :
    Tk E N 0 (mainLo own) w (base 14) 31 [(4, ptr A 0), (5, ptr C 0)] [] [.code s14] (fr :: cs) := by
  have Wl : ∀ own', WkP Try.prog E (mainLo own') (base 14) := fun own' => wk_main hf hP (by decide)
  refine Tk.seq (Wl _).wk ?_
  refine Tk.reg (Wl _) ?_
  refine TkO.call (Wl _) (by rfl) (by rfl) (by rfl) (by rfl) b11 rfl fun fr1 hk1 => ?_
  refine all11 (ck_own C vals) (pr_main hf hP) c fun l' w' FP' s c' => hk1 _ _ _ (TkO.lay (rfl : Nv.put _ _ _ = (_, _) :: _) ?_)
  have el := sam_main s.sam
  have hA' : l'.own A := s.own A hA
  have hAh' : w'.heap[A]? = some (.cells (arrV 19 fun _ => 0) 40 (0, 0)) := by rw [s.fr.2 A hA hAF]; exact hAh
  have so := s.own
  have sf := s.fr
  rw [el] at hA' so c' ⊢
  generalize l'.own = own1 at hA' so c' ⊢
  refine TkO.open (by rfl) (Tk.ostoreA (Wl _).wk rfl (x := .tmp 4) (y := .tmp 30) (g := A) (c := arrV 19 (cnt vals)) (old := arrV 19 fun _ => 0) (by rfl) (by rfl) (by rfl) (by rfl) (by rw [hP, arrV_size]; rfl) (by rw [arrV_size, arrV_size]) arrV_one (by rfl) (by rfl) hA' hAh' fun w₁ w₂ hv e2 => ?_)
  show TkO _ _ _ _ _ _ _ _ _ _ 2 _ _
  have hset : ∀ b, b ≠ A → w₂.heap[b]? = w₁.heap[b]? := fun b hb => by rw [e2]; exact setRow_other _ _ _ _ hb
  have hA2 : w₂.heap[A]? = some (.cells (arrV 19 (cnt vals)) 40 (0, 0)) := by rw [e2]; exact setRow_heap _ _ _ _ _ _ (by rw [hv.2 A hA']; exact hAh')
  have hsz : w₂.heap.size = w₁.heap.size := by rw [e2]; simp [World.setRow]
  refine TkO.done (Wl _) (by rfl) ?_
  refine Tk.ret (Wl _).wk (TkR.leaveC (Wl _).wk (hP ▸ b14c) rfl (by rw [hP]; rfl) (by rw [hP, arrV_size]; rfl) (by rfl) hA' hA2 fun w₃ hv3 => h own1 w₃ so ?_ fun b hb hlt hn hne => ?_)
  · have h1 := sf.1; have h2 := hv.1; have h3 := hv3.1; omega
  · rw [hv3.2 b (so b hb), hset b hne, hv.2 b (so b hb)]
    exact sf.2 b hb hn
end Go.Co.F1

namespace Go.Co.F1
open Go Go.Conc Go.Proofs
open Go.Co
open Go.ConcM (OsLater)
open Go.ConcN (sumTo upd upd_ne upd_same)
set_option maxRecDepth 10000
structure Old (W : World) (own : Nat → Prop) (w : World) : Prop where
  size : W.heap.size ≤ w.heap.size
  heap : ∀ b, b < W.heap.size → own b ∧ w.heap[b]? = W.heap[b]?
theorem Old.kp {W : World} {own own' : Nat → Prop} {w w' : World} (h : Old W own w) (k : Kp own w own' w') : Old W own' w' :=
  ⟨Nat.le_trans h.size k.size, fun b hb => ⟨k.ow b (h.heap b hb).1 (Nat.lt_of_lt_of_le hb h.size), (k.heap b (h.heap b hb).1 (Nat.lt_of_lt_of_le hb h.size)).trans (h.heap b hb).2⟩⟩
theorem Old.view {W : World} {own : Nat → Prop} {w w' : World} (h : Old W own w) (v : View own w w') : Old W own w' := h.kp (Kp.view v)
structure EndAt (W : World) (l : Lo) (g : Goroutine) (w : World) : Prop where
  lo : ∃ own, l = mainLo own ∧ Old W own w
  ends : ∀ w, stepG Try.prog true g w = .ended (.done (.bool true)) w #[]
def rsn (rr : Nat → Nat) (q : Nat) : Option Nat := if 0 < rr q ∧ rr q < 19 then some (rr q) else none
structure AtTally (W : World) (S0 : Nat) (F : Nat → Lo → Goroutine → World → Prop) (l : Lo) (g : Goroutine) (w : World) : Prop where
  ex : ∃ (own : Nat → Prop) (A C H B c nj cap : Nat) (cs : List Frame) (a : Act) (wk : Int) (bs : Option Addr) (rr : Nat → Nat),
    l = mainLo own ∧ g = Conc.G ((base 14).at a [.code r14]) cs ∧ Has 31 [(0, .int .i64 wk), (1, .slice bs nj cap), (4, ptr A 0), (5, ptr C 0), (6, ptr B 0), (7, ptr H 0)] a ∧ a.defers = [] ∧
    Old W own w ∧ TSt w C H B c ∧ (∀ x, x = C ∨ x = H ∨ x = B ∨ x = c → S0 ≤ x ∧ own x) ∧ nj < 4611686018427387904 ∧
    (∀ q, q < nj → ∃ b o, bs = some ⟨b, o, none⟩ ∧ less own C H B c b ∧ w.cell? ⟨b, o + q, none⟩ = some (.int .u8 (rr q))) ∧
    ∀ E2 N2 own2 w2 FP, E2.FinV → E2.P = Try.prog → E2.fin = F w2.heap.size → (∀ b, less own C H B c b → own2 b ∧ w2.heap[b]? = w.heap[b]?) → w.heap.size ≤ w2.heap.size → Ctr own2 w2 C FP (fun r => (sentTo (rsn rr) r nj : Int)) → (∀ b, FP b → ¬ less own C H B c b) →
      Tk E2 N2 0 (mainLo own2) w2 (base 14) 31 [(4, ptr A 0), (5, ptr C 0)] [] [.code s14] cs
theorem EndAt.view {W : World} {l : Lo} {g : Goroutine} {w w' : World} (h : EndAt W l g w) (hv : View l.own w w') : EndAt W l g w' := by
  obtain ⟨⟨own, rfl, ho⟩, he⟩ := h
  exact ⟨⟨own, rfl, ho.view hv⟩, he⟩
theorem TSt.view {own : Nat → Prop} {w w' : World} {C H B c : Nat} (s : TSt w C H B c) (hv : View own w w') (h1 : own C) (h2 : own H) (h3 : own B) (h4 : own c) : TSt w' C H B c := by
  have cC : ∀ o, w'.cell? (adr C o) = w.cell? (adr C o) ∧ w'.frozen? (adr C o) = w.frozen? (adr C o) := fun o => cell_same (a := adr C o) (hv.2 C h1)
  have cH : ∀ o, w'.cell? (adr H o) = w.cell? (adr H o) ∧ w'.frozen? (adr H o) = w.frozen? (adr H o) := fun o => cell_same (a := adr H o) (hv.2 H h2)
  have cB : ∀ o, w'.cell? (adr B o) = w.cell? (adr B o) ∧ w'.frozen? (adr B o) = w.frozen? (adr B o) := fun o => cell_same (a := adr B o) (hv.2 B h3)
  exact ⟨by rw [(cC 0).1]; exact s.c0, by rw [(cC 1).1]; exact s.c1, by rw [(cC 2).1]; exact s.c2, by rw [(cC 3).1]; exact s.c3, fun o ho => by rw [(cC o).2]; exact s.cf o ho, by rw [(cH 0).1]; exact s.h0, by rw [(cH 0).2]; exact s.hf,
    by rw [(cB 0).1]; exact s.b0, by rw [(cB 1).1]; exact s.b1, fun o ho => by rw [(cB o).2]; exact s.bf o ho, by obtain ⟨x, r, hc⟩ := s.ch; exact ⟨x, r, by rw [hv.2 c h4]; exact hc⟩⟩
theorem AtTally.view {W : World} {S0 : Nat} {F : Nat → Lo → Goroutine → World → Prop} {l : Lo} {g : Goroutine} {w w' : World} (h : AtTally W S0 F l g w) (hv : View l.own w w') : AtTally W S0 F l g w' := by
  obtain ⟨own, A, C, H, B, c, nj, cap, cs, a, wk, bs, rr, rfl, hg, ha, hds, ho, hs, hx, hn, hr, hp⟩ := h
  refine ⟨own, A, C, H, B, c, nj, cap, cs, a, wk, bs, rr, rfl, hg, ha, hds, ho.view hv, hs.view hv (hx _ (by simp)).2 (hx _ (by simp)).2 (hx _ (by simp)).2 (hx _ (by simp)).2, hx, hn, fun q hq => ?_, fun E2 N2 own2 w2 FP h1 h2 h3 h4 h5 => hp E2 N2 own2 w2 FP h1 h2 h3 (fun b hb => ⟨(h4 b hb).1, ?_⟩) (Nat.le_trans hv.1 h5)⟩
  · obtain ⟨b, o, e, h1, h2⟩ := hr q hq
    exact ⟨b, o, e, h1, by rw [(cell_same (a := ⟨b, o + q, none⟩) (hv.2 b h1.1)).1]; exact h2⟩
  · rw [(h4 b hb).2]; exact hv.2 b hb.1
structure JoinAt (own0 : Nat → Prop) (w0 : World) (A C : Nat) (cs : List Frame) (l : Lo) (g : Goroutine) (w : World) : Prop where
  live : l.live = true
  mr : l.mr = none
  job : l.job = none
  deaf : l.deaf = 0
  gr : l.gr = .joined
  own : l.own = own0
  view : View own0 w0 w
  g : ∃ a, g = Conc.G ((base 14).at a [.code s14]) cs ∧ Has 31 [(4, ptr A 0), (5, ptr C 0)] a ∧ a.defers = []
theorem phase_end {E : Geo} (hf : E.FinV) {gs : Array Goroutine} {w : World} {sl : Option (Nat × Nat)} {t : Trace} (h : Arrives E.pro gs w sl t) :
    ∃ n gs' w' sl' t' G x g, runNT E.P n (crowd gs w sl) t = (.next (crowd gs' w' sl'), t') ∧ GI E G w' t' ∧ G.n = gs'.size ∧ gs'[0]? = some x ∧ x.status = .running ∧ x.frame = g.frame ∧ x.callers = g.callers ∧ x.dying = g.dying ∧
      E.fin (G.th 0) g w' ∧ (∀ i, (G.th i).live = true → i = 0) ∧ Rest E.P gs' t' := by
  obtain ⟨n, gs', w', sl', t', G, q, x, g, w0, h1, h2, h3, h4, h5, h6, h7, h8, h9, h10, h11, h12, _⟩ := h
  exact ⟨n, gs', w', sl', t', G, x, g, h1, h2, h3, h4, h5, h6, h7, h8, hf _ _ _ _ h10 h11, E.laws.finish h2 h9 h10, ⟨fun i y hi hy => ⟨q i, h12 i y hi hy⟩⟩⟩
theorem runNT_tr {P : Program} {m m' m'' : Machine} {t t' t'' : Trace} {a b : Nat} (h : runNT P a m t = (.next m', t')) (k : runNT P b m' t' = (.next m'', t'')) : runNT P (a + b) m t = (.next m'', t'') := by
  rw [runNT_add, h]; exact k
theorem Past.nil {B : Nat} : Past (fun _ => False) 1 0 B #[] :=
  ⟨fun said => by rintro ⟨i, j, _, ⟨a, b, ha, _⟩, _⟩; simp [Trace.act?] at ha, fun op hop => by simp at hop, fun i op a h => by simp at h, fun i op h => by simp at h, fun i a h => by simp [Trace.act?] at h, Nat.zero_le _, rfl, fun j _ => rfl, fun b hb => hb.elim, Nat.one_pos⟩
def Fins (W : World) : Nat → Nat → Lo → Goroutine → World → Prop
  | 0, _ => EndAt W
  | k + 1, S0 => AtTally W S0 (Fins W k)
theorem Fins.joined {W : World} : ∀ {k S0 : Nat} {l : Lo} {g : Goroutine} {w : World}, Fins W k S0 l g w → l.gr = .joined
  | 0, _, _, _, _, h => by obtain ⟨⟨_, rfl, _⟩, _⟩ := (h : EndAt W _ _ _); rfl
  | k + 1, _, _, _, _, h => by obtain ⟨⟨_, _, _, _, _, _, _, _, _, _, _, _, _, rfl, _⟩⟩ := (h : AtTally W _ (Fins W k) _ _ _); rfl
theorem Fins.view {W : World} {w w' : World} : ∀ {k S0 : Nat} {l : Lo} {g : Goroutine}, Fins W k S0 l g w → View l.own w w' → Fins W k S0 l g w'
  | 0, _, _, _, h, hv => EndAt.view h hv
  | _ + 1, _, _, _, h, hv => AtTally.view h hv
abbrev KeptR (W : World) (v : Value) (w' : World) : Prop := v = .bool true ∧ w'.tape = W.tape ∧ w'.output = W.output ∧ OsLater W.os w'.os ∧ W.heap.size ≤ w'.heap.size ∧ ∀ b, b < W.heap.size → w'.heap[b]? = W.heap[b]?
set_option maxHeartbeats 4000000 in
/-- ████ A LAW WITH SO MANY TALLYS, FROM WHERE GOROUTINE 0 IS ALONE TO ITS LAST STEP, ON WHATEVER TAPE. ████ -/
theorem law_from {W : World} : ∀ (k : Nat) (Sh : Nat → Prop) (n R : Nat) (gs : Array Goroutine) (w : World) (sl : Option (Nat × Nat)) (t : Trace) (x g : Goroutine) (own : Nat → Prop),
    Past Sh n R w.heap.size t → (∀ b, own b → b < w.heap.size ∧ ¬ Sh b) → n = gs.size → Rest Try.prog gs t → gs[0]? = some x → x.status = .running → x.frame = g.frame → x.callers = g.callers → x.dying = g.dying →
    w.tape = W.tape → w.output = W.output → OsLater W.os w.os → (∀ E N, E.FinV → E.P = Try.prog → E.fin = Fins W k w.heap.size → Tr E N 0 (mainLo own) g w) →
    ∃ M last o w' t', runNT Try.prog (M + 1) (crowd gs w sl) t = (.ended o w', t') ∧ runN Try.prog M (crowd gs w sl) = .next last ∧ step Try.prog last = .ended o w' ∧ Conc.Good Try.prog (KeptR W) last o w' t' := by
  intro k
  induction k with
  | zero =>
    intro Sh n R gs w sl t x g own p0 hown hn R0 hx hxr u1 u2 u3 kt ko ks hT
    have j2 : ∀ l g w, EndAt W l g w → l.gr = .joined := fun l g w h => by obtain ⟨⟨_, rfl, _⟩, _⟩ := h; rfl
    let E2 := Co.solo Try.prog Sh n w (EndAt W) j2
    have f2 : E2.FinV := fun l g w w' h hv => EndAt.view h hv
    have hG2 : GI E2 (soloGh n own) w t := solo_GI p0 hown
    have a2 := phase (gs := gs) (sl := sl) (x := x) (g := g) hG2 hn (fun i hi => by
      by_cases e : i = 0
      · exact e
      · simp [soloGh, e, deadLo] at hi) R0 hx hxr u1 u2 u3 fun N => hT E2 N f2 rfl rfl
    obtain ⟨n3, gs3, w3, sl3, t3, G3, x3, g3, r3, i3, z3, q3, s3, u1, u2, u3, fin3, o3, R3⟩ := phase_end f2 a2
    have fin3 : EndAt W (G3.th 0) g3 w3 := fin3
    obtain ⟨own3, hl3, ho3⟩ := fin3.lo
    have p3 : Past Sh G3.n w.heap.size w3.heap.size t3 := solo_past i3 (by rw [hl3]; rfl)
    have hq : ∃ q : Nat → Nat, ∀ i y, 0 < i → gs3[i]? = some y → QuitsD Try.prog (q i) (Deaf t3 i) y := by
      refine (Classical.skolem (p := fun i k => ∀ y, 0 < i → gs3[i]? = some y → QuitsD Try.prog k (Deaf t3 i) y)).1 fun i => ?_
      cases e : gs3[i]? with
      | none => exact ⟨0, fun y _ hy => by cases hy⟩
      | some z =>
        rcases Nat.eq_zero_or_pos i with e0 | e0
        · exact ⟨0, fun y hi _ => by omega⟩
        · obtain ⟨k, hk⟩ := R3.quit i z e0 e
          exact ⟨k, fun y _ hy => by cases hy; exact hk⟩
    obtain ⟨q, hq⟩ := hq
    have hkept : w3.tape = W.tape ∧ w3.output = W.output ∧ OsLater W.os w3.os := ⟨i3.m.tape.trans kt, i3.m.output.trans ko, ks.trans i3.m.os⟩
    obtain ⟨N, last, o, w', t', b1, b2, b3, b4⟩ := beside_ends (P := Try.prog) (Shun := fun l => ∃ b, l = .cell b ∧ Sh b.block) (B := w3.heap.size) (D := fun _ _ _ => False) (n := 0) (sl := sl3) (a := x3) (w := w3) (gs := gs3) (t := t3) (q := q)
      (Post := KeptR W)
      (fun _ _ _ h => h.elim) q3 ⟨hq, fun j hj => p3.quiet j (by rw [z3]; exact hj)⟩
      ⟨p3.clean, fun i a ha hm => by
        obtain ⟨op, h1, h2⟩ := touch_of ha
        rcases p3.known i op a h1 h2 hm with k | ⟨b, k1, k2, k3⟩
        · exact .inl k
        · exact .inr ⟨⟨b, k1, k2⟩, k3⟩, fun i g hg hg0 hc => by
        obtain ⟨op, h1, h2⟩ := Option.map_eq_some_iff.1 hg
        obtain ⟨qq, z, k1, k2, k3⟩ := p3.over i op h1 (by rw [h2]; exact hg0) hc
        refine ⟨qq, by unfold Trace.g?; rw [k1]; exact congrArg some k2, k3.resolve_left fun e => ?_⟩
        subst e
        rw [h1] at k1; cases k1
        exact hg0 (h2.symm.trans k2), p3.deaf, p3.seen⟩
      (fun w₁ ⟨d, hd⟩ => ⟨s3, .bool true, #[], by
        have hst := fin3.ends w₁
        rw [← hst]
        exact stepG_same u1 u2 u3 w₁, fun e he => by simp at he, rfl, by rw [hd]; exact hkept.1, by rw [hd]; exact hkept.2.1, by rw [hd]; exact hkept.2.2, by rw [hd]; exact ho3.size, fun b hb => by rw [hd]; exact (ho3.heap b hb).2⟩)
    have rN : runN Try.prog n3 (crowd gs w sl) = .next (crowd gs3 w3 sl3) := by
      have := runNT_fst Try.prog n3 (crowd gs w sl) t
      rw [← this, show runNT Try.prog n3 (crowd gs w sl) t = _ from r3]
    refine ⟨n3 + N, last, o, w', t', ?_, ?_, b3, b4⟩
    · rw [show n3 + N + 1 = n3 + (N + 1) by omega, runNT_add, show runNT Try.prog n3 (crowd gs w sl) t = _ from r3]
      exact b1
    · rw [runN_add, rN]
      exact b2
  | succ k ih =>
    intro Sh n R gs w sl t x g own p0 hown hn R0 hx hxr v1 v2 v3 kt ko ks hT
    -- alone, as far as Tally
    let E1 := Co.solo Try.prog Sh n w (Fins W (k + 1) w.heap.size) fun l g w h => Fins.joined h
    have f1 : E1.FinV := fun l g w w' h hv => Fins.view h hv
    have hG1 : GI E1 (soloGh n own) w t := solo_GI p0 hown
    have a1 := phase (gs := gs) (sl := sl) (x := x) (g := g) hG1 hn (fun i hi => by
      by_cases e : i = 0
      · exact e
      · simp [soloGh, e, deadLo] at hi) R0 hx hxr v1 v2 v3 fun N => hT E1 N f1 rfl rfl
    obtain ⟨n1, gs1, w1, sl1, t1, G1, x1, g1, r1, i1, z1, q1, s1, e1, e2, e3, fin1, o1, R1⟩ := phase_end f1 a1
    have fin1 : AtTally W w.heap.size (Fins W k) (G1.th 0) g1 w1 := fin1
    obtain ⟨own1, A, C, H, B, c, nj, cap, cs, a, wk, bs, rr, hl, hg, ha, hds, ho, hs, hx1, hnj, hr, hp⟩ := fin1.ex
    have p1 : Past Sh G1.n w.heap.size w1.heap.size t1 := solo_past i1 (by rw [hl]; rfl)
    have ownlt : ∀ b, own1 b → b < w1.heap.size ∧ ¬ Sh b := fun b hb => ⟨i1.s.old 0 b i1.a.live0 (by rw [hl]; exact hb), (i1.s.nsh 0 b i1.a.live0 (by rw [hl]; exact hb)).2.2.2⟩
    have sC := (ownlt C (hx1 C (by simp)).2).2
    have sH := (ownlt H (hx1 H (by simp)).2).2
    have sB := (ownlt B (hx1 B (by simp)).2).2
    have sc := (ownlt c (hx1 c (by simp)).2).2
    -- Tally's company
    have jJ : ∀ l g w, JoinAt (less own1 C H B c) w1 A C cs l g w → l.gr = .joined := fun l g w h => h.gr
    let E0 := tGeo Sh G1.n w1 C H B c nj (fun q => .int .u8 (rr q)) (rsn rr) (JoinAt (less own1 C H B c) w1 A C cs) jJ
    have f0 : E0.FinV := fun l g w w' h hv => ⟨h.live, h.mr, h.job, h.deaf, h.gr, h.own, h.view.trans (h.own ▸ hv), h.g⟩
    have hlf := nWk_le wk
    have hG0 : GI E0 (tGh G1.n (less own1 C H B c) C H c (nWk wk)) w1 t1 := tally_GI p1 ownlt hs (hx1 B (by simp)).1 ⟨sC, sH, sB, sc⟩ hlf
    have TGh : TG E0 C H B := ⟨⟨rfl, f0, Nat.zero_lt_one, ⟨rfl, rfl, rfl⟩, by show tIni C (adr C 3) = _; unfold tIni; rw [if_pos rfl], rfl⟩, ⟨Nat.zero_lt_one, rfl, rfl⟩, rfl, hnj, fun q => ⟨rr q, rfl, rfl⟩⟩
    have a0 := phase (gs := gs1) (sl := sl1) (x := x1) (g := g1) hG0 z1 (fun i hi => by
      by_cases e : i = 0
      · exact e
      · simp [tGh, e, deadLo] at hi) R1 q1 s1 e1 e2 e3 fun N => by
      rw [hg]
      refine main14 (E := E0) (A := A) (bs := bs) (cap := cap) (wk := wk) TGh (Nat.le_of_ble_eq_true rfl) ⟨rfl, rfl, rfl, rfl, rfl, rfl, rfl, rfl⟩ ⟨fun q hq => ?_⟩ rfl (kk := []) (fun l' w' Wt' how hvw => ?_) a ha hds
      · obtain ⟨b, o, h1, h2, h3⟩ := hr q hq
        exact ⟨b, o, h1, h2, h3⟩
      · intro a' ha' hds'
        exact Pro.Lv.fold ⟨runs_G _ _, .inl ⟨rfl, Wt'.ch, ⟨Wt'.live, Wt'.mr, Wt'.job, Wt'.deaf, Wt'.gr, how, hvw, a', rfl, ha', hds'⟩⟩⟩
    obtain ⟨n2, gs2, w2, sl2, t2, G2, x2, g2, r2, i2, z2, q2, s2, y1, y2, y3, fin2, o2, R2⟩ := phase_end f0 a0
    have fin2 : JoinAt (less own1 C H B c) w1 A C cs (G2.th 0) g2 w2 := fin2
    obtain ⟨FP, hC, hFP⟩ := tally_ctr i2 fin2.gr o2 fin2.mr fin2.job hs.CB sC
    have p2 : Past (fun b => Sh b ∨ b = B) G2.n w1.heap.size w2.heap.size t2 := GI.past i2 Nat.zero_lt_one fin2.gr fin2.deaf o2 rfl
    obtain ⟨a', hg2, ha', hds'⟩ := fin2.g
    have hsz : w1.heap.size ≤ w2.heap.size := fin2.view.1
    -- .. and on
    obtain ⟨M, last, o, w', t', b1, b2, b3, b4⟩ := ih (fun b => Sh b ∨ b = B) G2.n w1.heap.size gs2 w2 sl2 t2 x2 g2 (fun b => b < w2.heap.size ∧ ¬ (Sh b ∨ b = B)) p2 (fun b hb => hb) z2 R2 q2 s2 y1 y2 y3
      (i2.m.tape.trans (i1.m.tape.trans kt)) (i2.m.output.trans (i1.m.output.trans ko)) ((ks.trans i1.m.os).trans i2.m.os) fun E N fE PE finE => by
        rw [hg2]
        exact hp E N _ w2 FP fE PE finE (fun b hb => ⟨⟨Nat.lt_of_lt_of_le (ownlt b hb.1).1 hsz, fun e => e.elim (ownlt b hb.1).2 hb.2.2.2.1⟩, fin2.view.2 b hb⟩) hsz hC (fun b hb => by rw [← fin2.own]; exact hFP b hb) a' ha' hds'
    have r12 : runNT Try.prog (n1 + n2) (crowd gs w sl) t = (.next (crowd gs2 w2 sl2), t2) := runNT_tr r1 r2
    have rN : runN Try.prog (n1 + n2) (crowd gs w sl) = .next (crowd gs2 w2 sl2) := by
      have := runNT_fst Try.prog (n1 + n2) (crowd gs w sl) t
      rw [← this, r12]
    refine ⟨n1 + n2 + M, last, o, w', t', ?_, ?_, b3, b4⟩
    · rw [show n1 + n2 + M + 1 = (n1 + n2) + (M + 1) by omega, runNT_add, r12]
      exact b1
    · rw [runN_add, rN]
      exact b2
theorem law_runs {W : World} {g0 : Goroutine} (k : Nat) (hg0 : g0.status = .running)
    (hT : ∀ E N, E.FinV → E.P = Try.prog → E.fin = Fins W k W.heap.size → Tr E N 0 (mainLo fun b => b < W.heap.size) g0 W) :
    ∃ M last o w' t', runNT Try.prog (M + 1) (Conc.solo g0 W) #[] = (.ended o w', t') ∧ runN Try.prog M (Conc.solo g0 W) = .next last ∧ step Try.prog last = .ended o w' ∧ Conc.Good Try.prog (KeptR W) last o w' t' := by
  rw [solo_eq_crowd]
  exact law_from k (fun _ => False) 1 0 #[g0] W none #[] g0 g0 (fun b => b < W.heap.size) Past.nil (fun b hb => ⟨hb, fun e => e⟩) rfl ⟨fun i y hi hy => by cases i with | zero => omega | succ i => simp at hy⟩ rfl hg0 rfl rfl rfl rfl rfl (OsLater.refl _) hT
end Go.Co.F1

namespace Go.Co.F1
open Go Go.Conc Go.Proofs
open Go.Co
open Go.ConcN (upd upd_ne upd_same)
variable {E : Geo} {N i : Nat} {l : Lo} {w : World} {own own' : Nat → Prop} {w' : World} {FP FP' : Nat → Prop}
set_option maxRecDepth 10000
structure Kf (own : Nat → Prop) (w : World) (FP : Nat → Prop) (own' : Nat → Prop) (w' : World) (FP' : Nat → Prop) : Prop where
  ow : ∀ b, own b → own' b
  size : w.heap.size ≤ w'.heap.size
  heap : ∀ b, own b → ¬ FP b → w'.heap[b]? = w.heap[b]?
  fp : ∀ b, FP' b → FP b ∨ w.heap.size ≤ b
theorem stp_main {l' : Lo} (h : Stp (mainLo own) w FP l' w' FP') : l' = mainLo l'.own ∧ Kf own w FP l'.own w' FP' := ⟨sam_main h.sam, h.own, h.fr.1, h.fr.2, h.fp⟩
theorem Old.kf {W : World} (h : Old W own w) (k : Kf own w FP own' w' FP') (hF : ∀ b, FP b → W.heap.size ≤ b) : Old W own' w' ∧ ∀ b, FP' b → W.heap.size ≤ b :=
  ⟨⟨Nat.le_trans h.size k.size, fun b hb => ⟨k.ow b (h.heap b hb).1, (k.heap b (h.heap b hb).1 fun e => by have := hF b e; omega).trans (h.heap b hb).2⟩⟩, fun b hb => (k.fp b hb).elim (hF b) fun e => Nat.le_trans h.size e⟩
theorem add7M {C r : Nat} {vals : Nat → Int} (hf : E.FinV) (hP : E.P = Try.prog) (c : Ctr own w C FP vals) (hv : ∀ r, 0 ≤ vals r ∧ vals r < 4611686018427387904) {fr : Frame} {cs : List Frame}
    (h : ∀ own' w' FP', Kf own w FP own' w' FP' → Ctr own' w' C FP' (if isR r = true then upd vals r (vals r + 1) else vals) → Tr E N i (mainLo own') (Conc.G (fr.finish (.bool (isR r))) cs) w') :
    Tr E N i (mainLo own) (Conc.G (Frame.enter Try.prog 7 #[ptr C 0, .int .u8 r] .normal) (fr :: cs)) w :=
  add7O (pr_main hf hP) c hv fun l' w' FP' s c' => by
    obtain ⟨e, k⟩ := stp_main s
    rw [e]; exact h _ _ _ k c'
theorem add7NilM {r : Nat} (hf : E.FinV) (hP : E.P = Try.prog) {fr : Frame} {cs : List Frame} (h : Tr E N i (mainLo own) (Conc.G (fr.finish (.bool false)) cs) w) :
    Tr E N i (mainLo own) (Conc.G (Frame.enter Try.prog 7 #[.pointer none, .int .u8 r] .normal) (fr :: cs)) w := add7Nil (pr_main hf hP) h
theorem many10M {C r : Nat} {vals : Nat → Int} (hf : E.FinV) (hP : E.P = Try.prog) (c : Ctr own w C FP vals) {fr : Frame} {cs : List Frame}
    (h : ∀ own' w' FP', Kf own w FP own' w' FP' → Ctr own' w' C FP' vals → Tr E N i (mainLo own') (Conc.G (fr.finish (.int .i64 (cnt vals r))) cs) w') :
    Tr E N i (mainLo own) (Conc.G (Frame.enter Try.prog 10 #[ptr C 0, .int .u8 r] .normal) (fr :: cs)) w :=
  many10O (pr_main hf hP) c fun l' w' FP' s c' => by
    obtain ⟨e, k⟩ := stp_main s
    rw [e]; exact h _ _ _ k c'
theorem many10NilM {r : Nat} (hf : E.FinV) (hP : E.P = Try.prog) {fr : Frame} {cs : List Frame} (h : Tr E N i (mainLo own) (Conc.G (fr.finish (.int .i64 0)) cs) w) :
    Tr E N i (mainLo own) (Conc.G (Frame.enter Try.prog 10 #[.pointer none, .int .u8 r] .normal) (fr :: cs)) w := many10Nil (pr_main hf hP) h
theorem all11M {C : Nat} {vals : Nat → Int} (hf : E.FinV) (hP : E.P = Try.prog) (c : Ctr own w C FP vals) {fr : Frame} {cs : List Frame}
    (h : ∀ own' w' FP', Kf own w FP own' w' FP' → Ctr own' w' C FP' vals → Tr E N i (mainLo own') (Conc.G (fr.finish (.agg (arrV 19 (cnt vals)))) cs) w') :
    Tr E N i (mainLo own) (Conc.G (Frame.enter Try.prog 11 #[ptr C 0] .normal) (fr :: cs)) w :=
  all11 (ck_own C vals) (pr_main hf hP) c fun l' w' FP' s c' => by
    obtain ⟨e, k⟩ := stp_main s
    rw [e]; exact h _ _ _ k c'
theorem all11NilM (hf : E.FinV) (hP : E.P = Try.prog) {fr : Frame} {cs : List Frame}
    (h : ∀ own' w', Kf own w (fun _ => False) own' w' (fun _ => False) → Tr E N i (mainLo own') (Conc.G (fr.finish (.agg (arrV 19 fun _ => 0))) cs) w') :
    Tr E N i (mainLo own) (Conc.G (Frame.enter Try.prog 11 #[.pointer none] .normal) (fr :: cs)) w :=
  all11 (ck_nil) (pr_main hf hP) (FP := fun _ => False) (fun _ e => e) fun l' w' FP' s c' => by
    obtain ⟨e, k⟩ := stp_main s
    rw [e]; exact h _ _ ⟨k.ow, k.size, k.heap, fun b e => e.elim⟩
theorem sum12M {C : Nat} {vals : Nat → Int} (hf : E.FinV) (hP : E.P = Try.prog) (c : Ctr own w C FP vals) (hv : ∀ j, 0 ≤ cnt vals j ∧ cnt vals j < 1125899906842624) {fr : Frame} {cs : List Frame}
    (h : ∀ own' w' FP', Kf own w FP own' w' FP' → Ctr own' w' C FP' vals → Tr E N i (mainLo own') (Conc.G (fr.finish (.int .i64 (sumF (cnt vals) 19))) cs) w') :
    Tr E N i (mainLo own) (Conc.G (Frame.enter Try.prog 12 #[ptr C 0] .normal) (fr :: cs)) w :=
  sum12 (ck_own C vals) (pr_main hf hP) c hv fun l' w' FP' s c' => by
    obtain ⟨e, k⟩ := stp_main s
    rw [e]; exact h _ _ _ k c'
theorem sum12NilM (hf : E.FinV) (hP : E.P = Try.prog) {fr : Frame} {cs : List Frame}
    (h : ∀ own' w', Kf own w (fun _ => False) own' w' (fun _ => False) → Tr E N i (mainLo own') (Conc.G (fr.finish (.int .i64 0)) cs) w') :
    Tr E N i (mainLo own) (Conc.G (Frame.enter Try.prog 12 #[.pointer none] .normal) (fr :: cs)) w :=
  sum12 (f := fun _ => 0) (ck_nil) (pr_main hf hP) (FP := fun _ => False) (fun _ e => e) (fun _ => ⟨by decide, by decide⟩) fun l' w' FP' s c' => by
    obtain ⟨e, k⟩ := stp_main s
    have e0 : sumF (fun _ => 0) 19 = 0 := by decide
    rw [e, e0]; exact h _ _ ⟨k.ow, k.size, k.heap, fun b e => e.elim⟩
theorem events_build_arr {P : Program} (w : World) (t : TypeId) {m : Nat} {e : TypeId} {it ie : TypeInfo} {z : Value} {cells : Array Value} (hu : P.underlying t = some (.array m e)) (hit : P.info? t = some it) (hz : it.zero = some z) (hie : P.info? e = some ie)
    (h : Instr.fill (fun i => some (i * ie.size, ie.size)) z.cells [] = some cells) (es : Array Event) : (Instr.build t #[]).events P w es = es := by
  have hr : (zeroValue t).run P w = .ok z w := by simp [zeroValue, typeInfo, hit, hz]
  have hs : (sizeOf e).run P w = .ok ie.size w := by simp [sizeOf, typeInfo, hie]
  simp [Instr.build, run_underlying hu, hr, events_underlying, events_sizeOf, hs, h]
theorem pure_build40 {env : Nv} {o : Oper} (ho : o.op = .build 40 #[]) : PureOp Try.prog env o (.agg (arrV 19 fun _ => 0)) := fun n a _ w => by
  have r1 := run_build (P := Try.prog) w 40 #[] (Array.replicate 19 (.int .i64 0)) (by rfl)
  rw [show Array.replicate 19 (Value.int .i64 0) = arrV 19 fun _ => 0 from arrV_zero] at r1
  have r2 := events_build_arr (P := Try.prog) w 40 (m := 19) (e := _) (it := _) (ie := _) (z := .agg (Array.replicate 19 (.int .i64 0))) (cells := Array.replicate 19 (.int .i64 0)) (by rfl) (by rfl) (by rfl) (by rfl) (by rfl) #[]
  constructor
  · simp [execOp, ho, r1]
  · simp [execOp, ho, r2]
theorem exec_slice5 {P : Program} {a : Act} {o : Oper} {t elem : TypeId} {i : TypeInfo} {z : Value} {parts : Array (Nat × Operand)} {ps : List (Nat × Value)} {c : Array Value} {len : Nat} (ho : o.op = .buildSlice t len parts) (hps : (parts.map fun (i, x) => (i, a.eval x)) = ps.toArray) (hu : P.underlying t = some (.slice elem)) (hi : P.info? elem = some i) (hz : i.zero = some z)
    (hsmall : ¬ len * i.size > 2 ^ 24) (hpos : ¬ len * i.size = 0) (h : Instr.fill (fun j => some (j * i.size, i.size)) ((Array.range (len * i.size)).map (z.cells[· % z.cells.size]!)) ps = some c) (w : World) :
    (execOp a.eval o).run P w = .ok (.value (.slice (some ⟨w.heap.size, 0, none⟩) len len)) { w with heap := w.heap.push (.cells c elem (0, 0)) } ∧ (execOp a.eval o).events P w #[] = #[] := by
  have h1 := run_zero (w := w) hi hz
  have h2 : (underlying t).run P w = .ok (.slice elem) w := run_underlying hu w
  have h3 := sizeOf_run hi w
  have h4 : P.cellsOf elem = i.size := by simp [Program.cellsOf, hi]
  rw [h4] at h3
  constructor
  · simp only [execOp, ho]
    rw [hps]
    simp [Instr.buildSlice, newRow, h1, h2, h3, h, hsmall, hpos]
  · simp only [execOp, ho]
    rw [hps]
    simp [Instr.buildSlice, newRow, h1, h2, h3, h, hsmall, hpos, events_underlying, events_sizeOf]
end Go.Co.F1

namespace Go.Co.F1
open Go Go.Conc Go.Proofs
open Go.Co
open Go.ConcN (upd upd_ne upd_same)
variable {E : Geo} {N i : Nat} {l : Lo} {w : World} {own own' : Nat → Prop} {w' : World} {FP FP' : Nat → Prop}
set_option maxRecDepth 10000
noncomputable def c6 : Code := (Try.f6.body).getD .skip
def vW (r : Nat) : Int := if r = 5 then 2 else if r = 15 then 1 else 0
def rrW (q : Nat) : Nat := if q = 0 then 5 else if q = 1 then 15 else if q = 2 then 0 else if q = 3 then 5 else 99
def slW : Array Value := #[.int .u8 5, .int .u8 15, .int .u8 0, .int .u8 5, .int .u8 99]
theorem vW_bd : ∀ r, 0 ≤ vW r ∧ vW r < 4611686018427387904 := fun r => by
  unfold vW
  split
  · decide
  · split <;> decide
theorem cnt_vW0 (r : Nat) : cnt vW r = vW r := by
  unfold cnt
  split
  · rfl
  · rename_i h
    unfold isR at h
    unfold vW
    by_cases e5 : r = 5
    · subst e5; exact absurd (by decide) h
    · by_cases e15 : r = 15
      · subst e15; exact absurd (by decide) h
      · rw [if_neg e5, if_neg e15]
theorem cnt_vW : ∀ r, r < 19 → cnt vW r = vW r := fun r _ => cnt_vW0 r
theorem cnt_bd : ∀ r, 0 ≤ cnt vW r ∧ cnt vW r < 1125899906842624 := fun r => by
  rw [cnt_vW0]
  unfold vW
  split
  · decide
  · split <;> decide
theorem cnt_tally : ∀ r, r < 19 → cnt (fun r => (sentTo (rsn rrW) r 5 : Int)) r = vW r := by decide
theorem sumW : sumF (cnt vW) 19 = 3 := by decide
def valW (K A S x : Nat) : Value := match x with
  | 1 => ptr K 0
  | 2 | 57 | 62 | 67 | 72 => .pointer none
  | 7 => ptr A 0
  | 6 | 22 | 26 | 58 => .bool false
  | 30 => .int .i64 2
  | 34 => .int .i64 1
  | 38 | 63 | 68 => .int .i64 0
  | 47 => .int .i64 3
  | 42 => .agg (arrV 19 (cnt vW))
  | 43 | 53 => .agg (arrV 19 vW)
  | 51 => .slice (some (adr S 0)) 5 5
  | 52 => .agg (arrV 19 (cnt fun r => (sentTo (rsn rrW) r 5 : Int)))
  | 73 | 74 => .agg (arrV 19 fun _ => 0)
  | _ => .bool true
structure Wm (W : World) (S0 : Nat) (K A : Nat) (own : Nat → Prop) (w : World) (FP : Nat → Prop) : Prop where
  old : Old W own w
  sz : S0 ≤ w.heap.size
  ctr : Ctr own w K FP vW
  fpo : ∀ b, FP b → W.heap.size ≤ b
  arr : own A ∧ w.heap[A]? = some (.cells (arrV 19 vW) 40 (0, 0))
  na : ¬ FP A
structure Sl (own : Nat → Prop) (w : World) (FP : Nat → Prop) (S : Nat) : Prop where
  ow : own S
  heap : w.heap[S]? = some (.cells slW 5 (0, 0))
  ns : ¬ FP S
theorem Kf.kp (k : Kf own w (fun _ => False) own' w' (fun _ => False)) : Kp own w own' w' := ⟨fun b hb _ => k.ow b hb, k.size, fun b hb _ => k.heap b hb fun e => e⟩
theorem Wm.kf {W : World} {S0 K A : Nat} (m : Wm W S0 K A own w FP) (k : Kf own w FP own' w' FP') (c : Ctr own' w' K FP' vW) : Wm W S0 K A own' w' FP' := by
  obtain ⟨o, f⟩ := m.old.kf k m.fpo
  exact ⟨o, Nat.le_trans m.sz k.size, c, f, ⟨k.ow A m.arr.1, by rw [k.heap A m.arr.1 m.na]; exact m.arr.2⟩, fun e => (k.fp A e).elim m.na fun x => by have := lt_of_heap m.arr.2; omega⟩
theorem Sl.kf {S : Nat} (s : Sl own w FP S) (k : Kf own w FP own' w' FP') : Sl own' w' FP' S :=
  ⟨k.ow S s.ow, by rw [k.heap S s.ow s.ns]; exact s.heap, fun e => (k.fp S e).elim s.ns fun x => by have := lt_of_heap s.heap; omega⟩
theorem Ctr.frame2 {C : Nat} {vals : Nat → Int} (h : Ctr own w C FP vals) (k : Kp own w own' w') : Ctr own' w' C FP vals := by
  have hv : ∀ b, FP b → own' b ∧ w'.heap[b]? = w.heap[b]? := fun b hb => ⟨k.ow b (h.lt hb).2 (h.lt hb).1, k.heap b (h.lt hb).2 (h.lt hb).1⟩
  rcases h with ⟨h1, h2, h3⟩ | ⟨R, cap, ps, h⟩
  · exact .inl ⟨h1.mono (hv C ((h2 C).2 rfl)).1 (hv C ((h2 C).2 rfl)).2, h2, h3⟩
  · have vC := hv C ((h.fp C).2 (.inl rfl))
    have vR := hv R ((h.fp R).2 (.inr (.inl rfl)))
    refine .inr ⟨R, cap, ps, ⟨h.cb.mono vC.1 vC.2, ?_, h.len, h.nodup, fun r p hp => ?_, h.fp⟩⟩
    · obtain ⟨h1, h3⟩ := h.row
      exact ⟨vR.1, fun r p hp => by rw [(cell_same (a := adr R r) vR.2).1]; exact h3 r p hp⟩
    · obtain ⟨h1, h2, h3⟩ := h.cell r p hp
      have vp := hv p ((h.fp p).2 (.inr (.inr (List.mem_of_getElem? hp))))
      have e := cell_same (a := adr p 0) vp.2
      exact ⟨vp.1, by rw [e.1]; exact h2, by rw [e.2]; exact h3⟩
theorem Wm.kp {W : World} {S0 K A : Nat} (m : Wm W S0 K A own w FP) (k : Kp own w own' w') : Wm W S0 K A own' w' FP :=
  ⟨m.old.kp k, Nat.le_trans m.sz k.size, m.ctr.frame2 k, m.fpo, k.get m.arr.1 m.arr.2, m.na⟩
theorem Sl.kp {S : Nat} (s : Sl own w FP S) (k : Kp own w own' w') : Sl own' w' FP S := ⟨(k.get s.ow s.heap).1, (k.get s.ow s.heap).2, s.ns⟩
abbrev bsW : List Nat := [1, 2, 3, 4, 5, 6, 7]
def Iw (W : World) (F2 : Nat → Lo → Goroutine → World → Prop) (K A : Nat) (ops : Array Oper) (E : Geo) (L : Array Bool) (l : Lo) (w : World) (env : Nv) : Prop :=
  ∃ own S0 S FP, l = mainLo own ∧ E.FinV ∧ E.P = Try.prog ∧ (¬ Up L 38 → E.fin = AtTally W S0 F2) ∧ (Up L 38 → E.fin = F2 S0) ∧ Facts ops (valW K A S) bsW L env ∧ Wm W S0 K A own w FP ∧ (Up L 37 → Sl own w FP S)
section
variable {W : World} {F2 : Nat → Lo → Goroutine → World → Prop} {S0 K A S j : Nat} {ops : Array Oper} {L : Array Bool} {env env' : Nv}
theorem Iw.kf (h1 : 37 ≠ j) (h2 : 38 ≠ j) (hf : E.FinV) (hP : E.P = Try.prog) (h38 : ¬ Up L 38 → E.fin = AtTally W S0 F2) (h38' : Up L 38 → E.fin = F2 S0) (m : Wm W S0 K A own w FP) (hS : Up L 37 → Sl own w FP S) (k : Kf own w FP own' w' FP') (c : Ctr own' w' K FP' vW) (F : Facts ops (valW K A S) bsW (L.setIfInBounds j true) env') :
    Iw W F2 K A ops E (L.setIfInBounds j true) (mainLo own') w' env' :=
  ⟨own', S0, S, FP', rfl, hf, hP, fun x => h38 fun y => x ((up_ne h2).2 y), fun x => h38' ((up_ne h2).1 x), F, m.kf k c, fun x => (hS ((up_ne h1).1 x)).kf k⟩
theorem Iw.kp (h1 : 37 ≠ j) (h2 : 38 ≠ j) (hf : E.FinV) (hP : E.P = Try.prog) (h38 : ¬ Up L 38 → E.fin = AtTally W S0 F2) (h38' : Up L 38 → E.fin = F2 S0) (m : Wm W S0 K A own w FP) (hS : Up L 37 → Sl own w FP S) (k : Kp own w own' w') (F : Facts ops (valW K A S) bsW (L.setIfInBounds j true) env') :
    Iw W F2 K A ops E (L.setIfInBounds j true) (mainLo own') w' env' :=
  ⟨own', S0, S, FP, rfl, hf, hP, fun x => h38 fun y => x ((up_ne h2).2 y), fun x => h38' ((up_ne h2).1 x), F, m.kp k, fun x => (hS ((up_ne h1).1 x)).kp k⟩
theorem Iw.same (h1 : 37 ≠ j) (h2 : 38 ≠ j) (hf : E.FinV) (hP : E.P = Try.prog) (h38 : ¬ Up L 38 → E.fin = AtTally W S0 F2) (h38' : Up L 38 → E.fin = F2 S0) (m : Wm W S0 K A own w FP) (hS : Up L 37 → Sl own w FP S) (F : Facts ops (valW K A S) bsW (L.setIfInBounds j true) env') :
    Iw W F2 K A ops E (L.setIfInBounds j true) (mainLo own) w env' := Iw.kp h1 h2 hf hP h38 h38' m hS (Kp.refl _ _) F
variable {b : Frame} {n : Nat} {ds : List Deferred} {k : List Item} {cs : List Frame} {o : Oper}
theorem ev1 {x : Operand} {u : Value} (h1 : env.ev x = some u) : evsA env [x] = some [u] := by simp [evsA, h1]
theorem ev2 {x y : Operand} {u v : Value} (h1 : env.ev x = some u) (h2 : env.ev y = some v) : evsA env [x, y] = some [u, v] := by simp [evsA, h1, h2]
def ptW : Array (Nat × Operand) := #[(0, .const (.int .u8 5)), (1, .const (.int .u8 15)), (2, .const (.int .u8 0)), (3, .const (.int .u8 5)), (4, .const (.int .u8 99))]
theorem ptW_map (a : Act) : (ptW.map fun (i, x) => (i, a.eval x)) = [(0, Value.int .u8 5), (1, .int .u8 15), (2, .int .u8 0), (3, .int .u8 5), (4, .int .u8 99)].toArray := by
  simp [ptW, Act.eval]
theorem fillW : Instr.fill (fun j => some (j * 1, 1)) ((Array.range (5 * 1)).map ((Value.int .u8 0).cells[· % (Value.int .u8 0).cells.size]!)) [(0, Value.int .u8 5), (1, .int .u8 15), (2, .int .u8 0), (3, .int .u8 5), (4, .int .u8 99)] = some slW := by
  have e : (Array.range (5 * 1)).map ((Value.int .u8 0).cells[· % (Value.int .u8 0).cells.size]!) = #[.int .u8 0, .int .u8 0, .int .u8 0, .int .u8 0, .int .u8 0] := by
    apply Array.ext
    · simp
    · intro i h1 h2
      have h3 : i < 5 := by simpa using h1
      have h4 : i % 1 = 0 := Nat.mod_one i
      have : i = 0 ∨ i = 1 ∨ i = 2 ∨ i = 3 ∨ i = 4 := by omega
      rcases this with rfl | rfl | rfl | rfl | rfl <;> simp [Value.cells]
  rw [e]
  simp [Instr.fill, Value.cells, slW]
theorem i5 : ∃ i, Try.prog.info? 5 = some i ∧ i.size = 1 ∧ i.zero = some (.int .u8 0) := ⟨_, by rfl, by rfl, by rfl⟩
theorem Iw.s37 (Wk : WkP Try.prog E (mainLo own) b) {rest : List Nat} (ho : ops[37]? = some o) (hw : wantE ops env o = some true) (hdd : o.dst = some 51) (hd : Nat.blt 51 n = true) (hop : o.op = .buildSlice 22 5 ptW) (hL : bsW.contains 51 = false) (hput : onlyPut ops 37 51 = true) (hf : E.FinV) (hP : E.P = Try.prog)
    (h38 : ¬ Up L 38 → E.fin = AtTally W S0 F2) (h38' : Up L 38 → E.fin = F2 S0) (hu : ¬ Up L 37) (m : Wm W S0 K A own w FP) (F : Facts ops (valW K A S) bsW L env)
    (hk : ∀ E2 N2 l' w' env', Iw W F2 K A ops E2 (L.setIfInBounds 37 true) l' w' env' → Tk E2 N2 0 l' w' b n env' ds (.inRegion ops rest :: k) cs) : Tk E N 0 (mainLo own) w b n env ds (.inRegion ops (37 :: rest) :: k) cs := by
  obtain ⟨i5, hi5, hs5, hz5⟩ := i5
  refine Tk.newM Wk (d := 51) ho hw hdd hd (fun r => .slice (some (adr r 0)) 5 5) (.cells slW 5 (0, 0)) (fun a ha w₁ => exec_slice5 (P := Try.prog) (t := 22) (elem := 5) (i := i5) (z := .int .u8 0) (parts := ptW) (ps := [(0, .int .u8 5), (1, .int .u8 15), (2, .int .u8 0), (3, .int .u8 5), (4, .int .u8 99)]) (c := slW) hop (ptW_map a) (by rfl) hi5 hz5 (by rw [hs5]; decide) (by rw [hs5]; decide) (by rw [hs5]; exact fillW) w₁) fun own' w' r kp hr hown hheap => hk _ _ _ _ _ ?_
  refine ⟨own', S0, r, FP, rfl, hf, hP, fun x => h38 fun y => x ((up_ne (by decide)).2 y), fun x => h38' ((up_ne (by decide)).1 x), ?_, m.kp kp, fun _ => ⟨hown, hheap, fun e => by have := (m.ctr.lt e).1; omega⟩⟩
  have := (F.chg1 (val' := valW K A r) (j := 37) (d := 51) (fun x hx => by unfold valW; split <;> first | rfl | exact absurd rfl hx) hL hput hu).put (j := 37) (d := 51) ho hdd
  exact this
set_option maxHeartbeats 1000000 in
/-- TALLY, in wakes. -/
theorem Iw.s38 {fr : Frame} (hf : E.FinV) (hP : E.P = Try.prog) (hfin : E.fin = AtTally W S0 F2) (m : Wm W S0 K A own w FP) (s : Sl own w FP S)
    (hk : ∀ E2 N2 own2 w2 S2, E2.FinV → E2.P = Try.prog → E2.fin = F2 S2 → S2 ≤ w2.heap.size → Kp own w own2 w2 → Tr E2 N2 0 (mainLo own2) (Conc.G (fr.finish (.agg (arrV 19 (cnt fun r => (sentTo (rsn rrW) r 5 : Int))))) cs) w2) :
    Tr E N 0 (mainLo own) (Conc.G (Frame.enter Try.prog 14 #[.int .i64 3, .slice (some (adr S 0)) 5 5] .normal) (fr :: cs)) w := by
  refine tally14pre hf hP fun own' w' A' C H B c kp st hx hA' hne => ?_
  intro a ha hds
  have hlow : ∀ b, own b → b < w.heap.size → less own' C H B c b ∧ b ≠ A' := fun b hb hlt => by
    have h1 := (hx C (by simp)).1; have h2 := (hx H (by simp)).1; have h3 := (hx B (by simp)).1; have h4 := (hx c (by simp)).1; have h5 := (hx A' (by simp)).1
    exact ⟨⟨kp.ow b hb hlt, by omega, by omega, by omega, by omega⟩, by omega⟩
  have hlA : less own' C H B c A' := ⟨(hx A' (by simp)).2, hne⟩
  refine Pro.Lv.fold ⟨runs_G _ _, .inl ⟨rfl, rfl, ?_⟩⟩
  show E.fin _ _ _
  rw [hfin]
  refine ⟨own', A', C, H, B, c, 5, 5, fr :: cs, a, 3, some (adr S 0), rrW, rfl, rfl, ha, hds, m.old.kp kp, st, fun x hx' => ⟨Nat.le_trans m.sz (hx x (by rcases hx' with h | h | h | h <;> simp [h])).1, (hx x (by rcases hx' with h | h | h | h <;> simp [h])).2⟩, by decide, fun q hq => ⟨S, 0, rfl, (hlow S s.ow (lt_of_heap s.heap)).1, ?_⟩, fun E2 N2 own2 w2 FP2 f2 P2 fin2 hb hsz hc hfp => ?_⟩
  · have hS' := kp.get s.ow s.heap
    rw [cell_at hS'.2]
    have : q = 0 ∨ q = 1 ∨ q = 2 ∨ q = 3 ∨ q = 4 := by omega
    rcases this with rfl | rfl | rfl | rfl | rfl <;> rfl
  · refine tally14post f2 P2 (hb A' hlA).1 (by rw [(hb A' hlA).2]; exact hA') hc (fun e => hfp A' e hlA) fun own3 w3 o3 s3 h3 => hk E2 N2 own3 w3 w2.heap.size f2 P2 fin2 s3 ⟨fun b hb' hlt => ?_, ?_, fun b hb' hlt => ?_⟩
    · exact o3 b (hb b (hlow b hb' hlt).1).1
    · exact Nat.le_trans kp.size (Nat.le_trans hsz s3)
    · obtain ⟨q1, q2⟩ := hlow b hb' hlt
      have hb2 : b < w2.heap.size := Nat.lt_of_lt_of_le hlt (Nat.le_trans kp.size hsz)
      rw [h3 b (hb b q1).1 hb2 (fun e => hfp b e q1) q2, (hb b q1).2]
      exact kp.heap b hb' hlt
end
set_option maxHeartbeats 40000000 in
theorem wakesR {W : World} {F2 : Nat → Lo → Goroutine → World → Prop} {K A : Nat} {ops : Array Oper} {cs : List Frame} {k : List Item} (hops : c6.regOps 6 = some ops) :
    ∀ E N L l w env j, Iw W F2 K A ops E L l w env → j < ops.size → Closed ops L → ¬ Up L j → (∀ o, ops[j]? = some o → ∀ e ∈ o.after, Region.binds .any e = true → Up L e.on) → ∀ rest, (∀ E2 N2 l' w' env', Iw W F2 K A ops E2 (L.setIfInBounds j true) l' w' env' → Tk E2 N2 0 l' w' (base 6) 77 env' [] (.inRegion ops rest :: k) cs) → Tk E N 0 l w (base 6) 77 env [] (.inRegion ops (j :: rest) :: k) cs := by
  intro E N L l w env j ⟨own, S0, S, FP, hl, hf, hP, h38, h38', F, M, hS⟩ hj hcl hu hb rest hk'
  subst hl
  cases hops
  have hj64 : j < 64 := hj
  have hLs : L.size = 64 := F.size
  have W : WkP Try.prog E (mainLo own) (base 6) := wk_main hf hP (by decide)
  have hcases : j = 0 ∨ j = 1 ∨ j = 2 ∨ j = 3 ∨ j = 4 ∨ j = 5 ∨ j = 6 ∨ j = 7 ∨ j = 8 ∨ j = 9 ∨ j = 10 ∨ j = 11 ∨ j = 12 ∨ j = 13 ∨ j = 14 ∨ j = 15 ∨ j = 16 ∨ j = 17 ∨ j = 18 ∨ j = 19 ∨ j = 20 ∨ j = 21 ∨ j = 22 ∨ j = 23 ∨ j = 24 ∨ j = 25 ∨ j = 26 ∨ j = 27 ∨ j = 28 ∨ j = 29 ∨ j = 30 ∨ j = 31 ∨ j = 32 ∨ j = 33 ∨ j = 34 ∨ j = 35 ∨ j = 36 ∨ j = 37 ∨ j = 38 ∨ j = 39 ∨ j = 40 ∨ j = 41 ∨ j = 42 ∨ j = 43 ∨ j = 44 ∨ j = 45 ∨ j = 46 ∨ j = 47 ∨ j = 48 ∨ j = 49 ∨ j = 50 ∨ j = 51 ∨ j = 52 ∨ j = 53 ∨ j = 54 ∨ j = 55 ∨ j = 56 ∨ j = 57 ∨ j = 58 ∨ j = 59 ∨ j = 60 ∨ j = 61 ∨ j = 62 ∨ j = 63 := by omega
  rcases hcases with rfl | rfl | rfl | rfl | rfl | rfl | rfl | rfl | rfl | rfl | rfl | rfl | rfl | rfl | rfl | rfl | rfl | rfl | rfl | rfl | rfl | rfl | rfl | rfl | rfl | rfl | rfl | rfl | rfl | rfl | rfl | rfl | rfl | rfl | rfl | rfl | rfl | rfl | rfl | rfl | rfl | rfl | rfl | rfl | rfl | rfl | rfl | rfl | rfl | rfl | rfl | rfl | rfl | rfl | rfl | rfl | rfl | rfl | rfl | rfl | rfl | rfl | rfl | rfl
  · refine Tk.pure W.wk (by rfl) (by rfl) (by rfl) (pure_move (x := .tmp 3) (.inl rfl) (F.base 3 rfl)) ?_
    exact hk' _ _ _ _ _ (Iw.same (j := 0) (by decide) (by decide) hf hP h38 h38' M hS (F.step (j := 0) (d := 14) (by rfl) rfl rfl))
  · refine Tk.pure W.wk (by rfl) (by rfl) (by rfl) (pure_move (x := .tmp 14) (.inl rfl) (F.get (j := 0) (d := 14) (by rfl) rfl (up_of hb (by rfl) 0 (by rfl)))) ?_
    exact hk' _ _ _ _ _ (Iw.same (j := 1) (by decide) (by decide) hf hP h38 h38' M hS (F.step (j := 1) (d := 15) (by rfl) rfl rfl))
  · refine Tk.pure W.wk (by rfl) (wantE_up (m := 1) (d := 15) (by rfl) (by rfl) (F.get (j := 1) (d := 15) (by rfl) rfl (up_of hb (by rfl) 1 (by rfl)))) (by rfl) (pure_move (x := .tmp 4) (.inl rfl) (F.base 4 rfl)) ?_
    exact hk' _ _ _ _ _ (Iw.same (j := 2) (by decide) (by decide) hf hP h38 h38' M hS (F.step (j := 2) (d := 16) (by rfl) rfl rfl))
  · refine Tk.pure W.wk (by rfl) (by rfl) (by rfl) (pure_pickT (c := .tmp 15) (x := .tmp 16) rfl (F.get (j := 1) (d := 15) (by rfl) rfl (up_of hb (by rfl) 1 (by rfl))) (F.get (j := 2) (d := 16) (by rfl) rfl (up_of hb (by rfl) 2 (by rfl)))) ?_
    exact hk' _ _ _ _ _ (Iw.same (j := 3) (by decide) (by decide) hf hP h38 h38' M hS (F.step (j := 3) (d := 17) (by rfl) rfl rfl))
  · refine Tk.pure W.wk (by rfl) (by rfl) (by rfl) (pure_move (x := .tmp 17) (.inl rfl) (F.get (j := 3) (d := 17) (by rfl) rfl (up_of hb (by rfl) 3 (by rfl)))) ?_
    exact hk' _ _ _ _ _ (Iw.same (j := 4) (by decide) (by decide) hf hP h38 h38' M hS (F.step (j := 4) (d := 18) (by rfl) rfl rfl))
  · refine Tk.pure W.wk (by rfl) (wantE_up (m := 4) (d := 18) (by rfl) (by rfl) (F.get (j := 4) (d := 18) (by rfl) rfl (up_of hb (by rfl) 4 (by rfl)))) (by rfl) (pure_move (x := .tmp 5) (.inl rfl) (F.base 5 rfl)) ?_
    exact hk' _ _ _ _ _ (Iw.same (j := 5) (by decide) (by decide) hf hP h38 h38' M hS (F.step (j := 5) (d := 19) (by rfl) rfl rfl))
  · refine Tk.pure W.wk (by rfl) (by rfl) (by rfl) (pure_pickT (c := .tmp 18) (x := .tmp 19) rfl (F.get (j := 4) (d := 18) (by rfl) rfl (up_of hb (by rfl) 4 (by rfl))) (F.get (j := 5) (d := 19) (by rfl) rfl (up_of hb (by rfl) 5 (by rfl)))) ?_
    exact hk' _ _ _ _ _ (Iw.same (j := 6) (by decide) (by decide) hf hP h38 h38' M hS (F.step (j := 6) (d := 20) (by rfl) rfl rfl))
  · refine Tk.pure W.wk (by rfl) (by rfl) (by rfl) (pure_move (x := .tmp 20) (.inl rfl) (F.get (j := 6) (d := 20) (by rfl) rfl (up_of hb (by rfl) 6 (by rfl)))) ?_
    exact hk' _ _ _ _ _ (Iw.same (j := 7) (by decide) (by decide) hf hP h38 h38' M hS (F.step (j := 7) (d := 21) (by rfl) rfl rfl))
  · refine Tk.pure W.wk (by rfl) (wantE_up (m := 7) (d := 21) (by rfl) (by rfl) (F.get (j := 7) (d := 21) (by rfl) rfl (up_of hb (by rfl) 7 (by rfl)))) (by rfl) (pure_move (x := .tmp 6) (.inl rfl) (F.base 6 rfl)) ?_
    exact hk' _ _ _ _ _ (Iw.same (j := 8) (by decide) (by decide) hf hP h38 h38' M hS (F.step (j := 8) (d := 22) (by rfl) rfl rfl))
  · refine Tk.pure W.wk (by rfl) (wantE_up (m := 7) (d := 21) (by rfl) (by rfl) (F.get (j := 7) (d := 21) (by rfl) rfl (up_of hb (by rfl) 7 (by rfl)))) (by rfl) (pure_not (x := .tmp 22) rfl (F.get (j := 8) (d := 22) (by rfl) rfl (up_of hb (by rfl) 8 (by rfl)))) ?_
    exact hk' _ _ _ _ _ (Iw.same (j := 9) (by decide) (by decide) hf hP h38 h38' M hS (F.step (j := 9) (d := 23) (by rfl) rfl rfl))
  · refine Tk.pure W.wk (by rfl) (by rfl) (by rfl) (pure_pickT (c := .tmp 21) (x := .tmp 23) rfl (F.get (j := 7) (d := 21) (by rfl) rfl (up_of hb (by rfl) 7 (by rfl))) (F.get (j := 9) (d := 23) (by rfl) rfl (up_of hb (by rfl) 9 (by rfl)))) ?_
    exact hk' _ _ _ _ _ (Iw.same (j := 10) (by decide) (by decide) hf hP h38 h38' M hS (F.step (j := 10) (d := 24) (by rfl) rfl rfl))
  · refine Tk.pure W.wk (by rfl) (by rfl) (by rfl) (pure_move (x := .tmp 24) (.inl rfl) (F.get (j := 10) (d := 24) (by rfl) rfl (up_of hb (by rfl) 10 (by rfl)))) ?_
    exact hk' _ _ _ _ _ (Iw.same (j := 11) (by decide) (by decide) hf hP h38 h38' M hS (F.step (j := 11) (d := 25) (by rfl) rfl rfl))
  · refine Tk.callE W (by rfl) (wantE_up (m := 11) (d := 25) (by rfl) (by rfl) (F.get (j := 11) (d := 25) (by rfl) rfl (up_of hb (by rfl) 11 (by rfl)))) (by rfl) (by rfl) (by rfl) b7 (ev2 (x := .tmp 1) (y := .const (.int .u8 19)) (F.base 1 rfl) rfl) fun fr1 hk1 => ?_
    refine add7M (r := 19) hf hP M.ctr vW_bd fun own' w' FP' k c' => hk1 _ _ _ _ _ (hk' _ _ _ _ _ (Iw.kf (j := 12) (by decide) (by decide) hf hP h38 h38' M hS k c' (F.put (j := 12) (d := 26) (by rfl) rfl)))
  · refine Tk.pure W.wk (by rfl) (wantE_up (m := 11) (d := 25) (by rfl) (by rfl) (F.get (j := 11) (d := 25) (by rfl) rfl (up_of hb (by rfl) 11 (by rfl)))) (by rfl) (pure_not (x := .tmp 26) rfl (F.get (j := 12) (d := 26) (by rfl) rfl (up_of hb (by rfl) 12 (by rfl)))) ?_
    exact hk' _ _ _ _ _ (Iw.same (j := 13) (by decide) (by decide) hf hP h38 h38' M hS (F.step (j := 13) (d := 27) (by rfl) rfl rfl))
  · refine Tk.pure W.wk (by rfl) (by rfl) (by rfl) (pure_pickT (c := .tmp 25) (x := .tmp 27) rfl (F.get (j := 11) (d := 25) (by rfl) rfl (up_of hb (by rfl) 11 (by rfl))) (F.get (j := 13) (d := 27) (by rfl) rfl (up_of hb (by rfl) 13 (by rfl)))) ?_
    exact hk' _ _ _ _ _ (Iw.same (j := 14) (by decide) (by decide) hf hP h38 h38' M hS (F.step (j := 14) (d := 28) (by rfl) rfl rfl))
  · refine Tk.pure W.wk (by rfl) (by rfl) (by rfl) (pure_move (x := .tmp 28) (.inl rfl) (F.get (j := 14) (d := 28) (by rfl) rfl (up_of hb (by rfl) 14 (by rfl)))) ?_
    exact hk' _ _ _ _ _ (Iw.same (j := 15) (by decide) (by decide) hf hP h38 h38' M hS (F.step (j := 15) (d := 29) (by rfl) rfl rfl))
  · refine Tk.callE W (by rfl) (wantE_up (m := 15) (d := 29) (by rfl) (by rfl) (F.get (j := 15) (d := 29) (by rfl) rfl (up_of hb (by rfl) 15 (by rfl)))) (by rfl) (by rfl) (by rfl) b10 (ev2 (x := .tmp 1) (y := .const (.int .u8 5)) (F.base 1 rfl) rfl) fun fr1 hk1 => ?_
    refine many10M (r := 5) hf hP M.ctr fun own' w' FP' k c' => hk1 _ _ _ _ _ (hk' _ _ _ _ _ (Iw.kf (j := 16) (by decide) (by decide) hf hP h38 h38' M hS k c' (F.put (j := 16) (d := 30) (by rfl) rfl)))
  · refine Tk.pure W.wk (by rfl) (wantE_up (m := 15) (d := 29) (by rfl) (by rfl) (F.get (j := 15) (d := 29) (by rfl) rfl (up_of hb (by rfl) 15 (by rfl)))) (by rfl) (pure_int (op := .eql) (x := .tmp 30) (y := .const (.int .i64 2)) rfl (F.get (j := 16) (d := 30) (by rfl) rfl (up_of hb (by rfl) 16 (by rfl))) rfl rfl) ?_
    exact hk' _ _ _ _ _ (Iw.same (j := 17) (by decide) (by decide) hf hP h38 h38' M hS (F.step (j := 17) (d := 31) (by rfl) rfl rfl))
  · refine Tk.pure W.wk (by rfl) (by rfl) (by rfl) (pure_pickT (c := .tmp 29) (x := .tmp 31) rfl (F.get (j := 15) (d := 29) (by rfl) rfl (up_of hb (by rfl) 15 (by rfl))) (F.get (j := 17) (d := 31) (by rfl) rfl (up_of hb (by rfl) 17 (by rfl)))) ?_
    exact hk' _ _ _ _ _ (Iw.same (j := 18) (by decide) (by decide) hf hP h38 h38' M hS (F.step (j := 18) (d := 32) (by rfl) rfl rfl))
  · refine Tk.pure W.wk (by rfl) (by rfl) (by rfl) (pure_move (x := .tmp 32) (.inl rfl) (F.get (j := 18) (d := 32) (by rfl) rfl (up_of hb (by rfl) 18 (by rfl)))) ?_
    exact hk' _ _ _ _ _ (Iw.same (j := 19) (by decide) (by decide) hf hP h38 h38' M hS (F.step (j := 19) (d := 33) (by rfl) rfl rfl))
  · refine Tk.callE W (by rfl) (wantE_up (m := 19) (d := 33) (by rfl) (by rfl) (F.get (j := 19) (d := 33) (by rfl) rfl (up_of hb (by rfl) 19 (by rfl)))) (by rfl) (by rfl) (by rfl) b10 (ev2 (x := .tmp 1) (y := .const (.int .u8 15)) (F.base 1 rfl) rfl) fun fr1 hk1 => ?_
    refine many10M (r := 15) hf hP M.ctr fun own' w' FP' k c' => hk1 _ _ _ _ _ (hk' _ _ _ _ _ (Iw.kf (j := 20) (by decide) (by decide) hf hP h38 h38' M hS k c' (F.put (j := 20) (d := 34) (by rfl) rfl)))
  · refine Tk.pure W.wk (by rfl) (wantE_up (m := 19) (d := 33) (by rfl) (by rfl) (F.get (j := 19) (d := 33) (by rfl) rfl (up_of hb (by rfl) 19 (by rfl)))) (by rfl) (pure_int (op := .eql) (x := .tmp 34) (y := .const (.int .i64 1)) rfl (F.get (j := 20) (d := 34) (by rfl) rfl (up_of hb (by rfl) 20 (by rfl))) rfl rfl) ?_
    exact hk' _ _ _ _ _ (Iw.same (j := 21) (by decide) (by decide) hf hP h38 h38' M hS (F.step (j := 21) (d := 35) (by rfl) rfl rfl))
  · refine Tk.pure W.wk (by rfl) (by rfl) (by rfl) (pure_pickT (c := .tmp 33) (x := .tmp 35) rfl (F.get (j := 19) (d := 33) (by rfl) rfl (up_of hb (by rfl) 19 (by rfl))) (F.get (j := 21) (d := 35) (by rfl) rfl (up_of hb (by rfl) 21 (by rfl)))) ?_
    exact hk' _ _ _ _ _ (Iw.same (j := 22) (by decide) (by decide) hf hP h38 h38' M hS (F.step (j := 22) (d := 36) (by rfl) rfl rfl))
  · refine Tk.pure W.wk (by rfl) (by rfl) (by rfl) (pure_move (x := .tmp 36) (.inl rfl) (F.get (j := 22) (d := 36) (by rfl) rfl (up_of hb (by rfl) 22 (by rfl)))) ?_
    exact hk' _ _ _ _ _ (Iw.same (j := 23) (by decide) (by decide) hf hP h38 h38' M hS (F.step (j := 23) (d := 37) (by rfl) rfl rfl))
  · refine Tk.callE W (by rfl) (wantE_up (m := 23) (d := 37) (by rfl) (by rfl) (F.get (j := 23) (d := 37) (by rfl) rfl (up_of hb (by rfl) 23 (by rfl)))) (by rfl) (by rfl) (by rfl) b10 (ev2 (x := .tmp 1) (y := .const (.int .u8 200)) (F.base 1 rfl) rfl) fun fr1 hk1 => ?_
    refine many10M (r := 200) hf hP M.ctr fun own' w' FP' k c' => hk1 _ _ _ _ _ (hk' _ _ _ _ _ (Iw.kf (j := 24) (by decide) (by decide) hf hP h38 h38' M hS k c' (F.put (j := 24) (d := 38) (by rfl) rfl)))
  · refine Tk.pure W.wk (by rfl) (wantE_up (m := 23) (d := 37) (by rfl) (by rfl) (F.get (j := 23) (d := 37) (by rfl) rfl (up_of hb (by rfl) 23 (by rfl)))) (by rfl) (pure_int (op := .eql) (x := .tmp 38) (y := .const (.int .i64 0)) rfl (F.get (j := 24) (d := 38) (by rfl) rfl (up_of hb (by rfl) 24 (by rfl))) rfl rfl) ?_
    exact hk' _ _ _ _ _ (Iw.same (j := 25) (by decide) (by decide) hf hP h38 h38' M hS (F.step (j := 25) (d := 39) (by rfl) rfl rfl))
  · refine Tk.pure W.wk (by rfl) (by rfl) (by rfl) (pure_pickT (c := .tmp 37) (x := .tmp 39) rfl (F.get (j := 23) (d := 37) (by rfl) rfl (up_of hb (by rfl) 23 (by rfl))) (F.get (j := 25) (d := 39) (by rfl) rfl (up_of hb (by rfl) 25 (by rfl)))) ?_
    exact hk' _ _ _ _ _ (Iw.same (j := 26) (by decide) (by decide) hf hP h38 h38' M hS (F.step (j := 26) (d := 40) (by rfl) rfl rfl))
  · refine Tk.pure W.wk (by rfl) (by rfl) (by rfl) (pure_move (x := .tmp 40) (.inl rfl) (F.get (j := 26) (d := 40) (by rfl) rfl (up_of hb (by rfl) 26 (by rfl)))) ?_
    exact hk' _ _ _ _ _ (Iw.same (j := 27) (by decide) (by decide) hf hP h38 h38' M hS (F.step (j := 27) (d := 41) (by rfl) rfl rfl))
  · refine Tk.callE W (by rfl) (wantE_up (m := 27) (d := 41) (by rfl) (by rfl) (F.get (j := 27) (d := 41) (by rfl) rfl (up_of hb (by rfl) 27 (by rfl)))) (by rfl) (by rfl) (by rfl) b11 (ev1 (x := .tmp 1) (F.base 1 rfl)) fun fr1 hk1 => ?_
    refine all11M hf hP M.ctr fun own' w' FP' k c' => hk1 _ _ _ _ _ (hk' _ _ _ _ _ (Iw.kf (j := 28) (by decide) (by decide) hf hP h38 h38' M hS k c' (F.put (j := 28) (d := 42) (by rfl) rfl)))
  · refine Tk.oloadA W.wk rfl (x := .tmp 7) (g := A) (d := 43) (by rfl) (wantE_up (m := 27) (d := 41) (by rfl) (by rfl) (F.get (j := 27) (d := 41) (by rfl) rfl (up_of hb (by rfl) 27 (by rfl)))) (by rfl) (by rfl) (by rfl) (by rw [hP]; rfl) (by rw [hP, arrV_size]; rfl) (F.base 7 rfl) M.arr.1 M.arr.2 ?_
    exact hk' _ _ _ _ _ (Iw.same (j := 29) (by decide) (by decide) hf hP h38 h38' M hS (F.put (j := 29) (d := 43) (by rfl) rfl))
  · refine Tk.pure W.wk (by rfl) (wantE_up (m := 27) (d := 41) (by rfl) (by rfl) (F.get (j := 27) (d := 41) (by rfl) rfl (up_of hb (by rfl) 27 (by rfl)))) (by rfl) (by rw [hP]; exact pure_eqArr (x := .tmp 42) (y := .tmp 43) rfl (F.get (j := 28) (d := 42) (by rfl) rfl (up_of hb (by rfl) 28 (by rfl))) (F.get (j := 29) (d := 43) (by rfl) rfl (up_of hb (by rfl) 29 (by rfl))) (by rfl) (by rfl) (by decide +kernel) (by decide +kernel)) ?_
    exact hk' _ _ _ _ _ (Iw.same (j := 30) (by decide) (by decide) hf hP h38 h38' M hS (F.step (j := 30) (d := 44) (by rfl) rfl (congrArg Value.bool (arrEq_true (cnt_vW)))))
  · refine Tk.pure W.wk (by rfl) (by rfl) (by rfl) (pure_pickT (c := .tmp 41) (x := .tmp 44) rfl (F.get (j := 27) (d := 41) (by rfl) rfl (up_of hb (by rfl) 27 (by rfl))) (F.get (j := 30) (d := 44) (by rfl) rfl (up_of hb (by rfl) 30 (by rfl)))) ?_
    exact hk' _ _ _ _ _ (Iw.same (j := 31) (by decide) (by decide) hf hP h38 h38' M hS (F.step (j := 31) (d := 45) (by rfl) rfl rfl))
  · refine Tk.pure W.wk (by rfl) (by rfl) (by rfl) (pure_move (x := .tmp 45) (.inl rfl) (F.get (j := 31) (d := 45) (by rfl) rfl (up_of hb (by rfl) 31 (by rfl)))) ?_
    exact hk' _ _ _ _ _ (Iw.same (j := 32) (by decide) (by decide) hf hP h38 h38' M hS (F.step (j := 32) (d := 46) (by rfl) rfl rfl))
  · refine Tk.callE W (by rfl) (wantE_up (m := 32) (d := 46) (by rfl) (by rfl) (F.get (j := 32) (d := 46) (by rfl) rfl (up_of hb (by rfl) 32 (by rfl)))) (by rfl) (by rfl) (by rfl) b12 (ev1 (x := .tmp 1) (F.base 1 rfl)) fun fr1 hk1 => ?_
    refine sum12M hf hP M.ctr cnt_bd fun own' w' FP' k c' => by rw [sumW]; exact hk1 _ _ _ _ _ (hk' _ _ _ _ _ (Iw.kf (j := 33) (by decide) (by decide) hf hP h38 h38' M hS k c' (F.put (j := 33) (d := 47) (by rfl) rfl)))
  · refine Tk.pure W.wk (by rfl) (wantE_up (m := 32) (d := 46) (by rfl) (by rfl) (F.get (j := 32) (d := 46) (by rfl) rfl (up_of hb (by rfl) 32 (by rfl)))) (by rfl) (pure_int (op := .eql) (x := .tmp 47) (y := .const (.int .i64 3)) rfl (F.get (j := 33) (d := 47) (by rfl) rfl (up_of hb (by rfl) 33 (by rfl))) rfl rfl) ?_
    exact hk' _ _ _ _ _ (Iw.same (j := 34) (by decide) (by decide) hf hP h38 h38' M hS (F.step (j := 34) (d := 48) (by rfl) rfl rfl))
  · refine Tk.pure W.wk (by rfl) (by rfl) (by rfl) (pure_pickT (c := .tmp 46) (x := .tmp 48) rfl (F.get (j := 32) (d := 46) (by rfl) rfl (up_of hb (by rfl) 32 (by rfl))) (F.get (j := 34) (d := 48) (by rfl) rfl (up_of hb (by rfl) 34 (by rfl)))) ?_
    exact hk' _ _ _ _ _ (Iw.same (j := 35) (by decide) (by decide) hf hP h38 h38' M hS (F.step (j := 35) (d := 49) (by rfl) rfl rfl))
  · refine Tk.pure W.wk (by rfl) (by rfl) (by rfl) (pure_move (x := .tmp 49) (.inl rfl) (F.get (j := 35) (d := 49) (by rfl) rfl (up_of hb (by rfl) 35 (by rfl)))) ?_
    exact hk' _ _ _ _ _ (Iw.same (j := 36) (by decide) (by decide) hf hP h38 h38' M hS (F.step (j := 36) (d := 50) (by rfl) rfl rfl))
  · exact Iw.s37 W (by rfl) (wantE_up (m := 36) (d := 50) (by rfl) (by rfl) (F.get (j := 36) (d := 50) (by rfl) rfl (up_of hb (by rfl) 36 (by rfl)))) (by rfl) (by rfl) (by rfl) (by rfl) (by decide +kernel) hf hP h38 h38' hu M F hk'
  · refine Tk.callE W (by rfl) (wantE_up (m := 36) (d := 50) (by rfl) (by rfl) (F.get (j := 36) (d := 50) (by rfl) rfl (up_of hb (by rfl) 36 (by rfl)))) (by rfl) (by rfl) (by rfl) b14c (ev2 (x := .const (.int .i64 3)) (y := .tmp 51) rfl (F.get (j := 37) (d := 51) (by rfl) rfl (up_of hb (by rfl) 37 (by rfl)))) fun fr1 hk1 => ?_
    refine Iw.s38 (fr := fr1) hf hP (h38 hu) M (hS (up_of hb (by rfl) 37 (by rfl))) fun E2 N2 own2 w2 S2 f2 P2 fin2 sz2 k => hk1 _ _ _ _ _ (hk' _ _ _ _ _ ?_)
    exact ⟨own2, S2, S, FP, rfl, f2, P2, fun x => absurd (up_eq (by rw [hLs]; decide)) x, fun _ => fin2, F.put (j := 38) (d := 52) (by rfl) rfl, ⟨(M.kp k).old, sz2, (M.kp k).ctr, (M.kp k).fpo, (M.kp k).arr, (M.kp k).na⟩, fun x => (hS ((up_ne (by decide)).1 x)).kp k⟩
  · refine Tk.oloadA W.wk rfl (x := .tmp 7) (g := A) (d := 53) (by rfl) (wantE_up (m := 36) (d := 50) (by rfl) (by rfl) (F.get (j := 36) (d := 50) (by rfl) rfl (up_of hb (by rfl) 36 (by rfl)))) (by rfl) (by rfl) (by rfl) (by rw [hP]; rfl) (by rw [hP, arrV_size]; rfl) (F.base 7 rfl) M.arr.1 M.arr.2 ?_
    exact hk' _ _ _ _ _ (Iw.same (j := 39) (by decide) (by decide) hf hP h38 h38' M hS (F.put (j := 39) (d := 53) (by rfl) rfl))
  · refine Tk.pure W.wk (by rfl) (wantE_up (m := 36) (d := 50) (by rfl) (by rfl) (F.get (j := 36) (d := 50) (by rfl) rfl (up_of hb (by rfl) 36 (by rfl)))) (by rfl) (by rw [hP]; exact pure_eqArr (x := .tmp 52) (y := .tmp 53) rfl (F.get (j := 38) (d := 52) (by rfl) rfl (up_of hb (by rfl) 38 (by rfl))) (F.get (j := 39) (d := 53) (by rfl) rfl (up_of hb (by rfl) 39 (by rfl))) (by rfl) (by rfl) (by decide +kernel) (by decide +kernel)) ?_
    exact hk' _ _ _ _ _ (Iw.same (j := 40) (by decide) (by decide) hf hP h38 h38' M hS (F.step (j := 40) (d := 54) (by rfl) rfl (congrArg Value.bool (arrEq_true (cnt_tally)))))
  · refine Tk.pure W.wk (by rfl) (by rfl) (by rfl) (pure_pickT (c := .tmp 50) (x := .tmp 54) rfl (F.get (j := 36) (d := 50) (by rfl) rfl (up_of hb (by rfl) 36 (by rfl))) (F.get (j := 40) (d := 54) (by rfl) rfl (up_of hb (by rfl) 40 (by rfl)))) ?_
    exact hk' _ _ _ _ _ (Iw.same (j := 41) (by decide) (by decide) hf hP h38 h38' M hS (F.step (j := 41) (d := 55) (by rfl) rfl rfl))
  · refine Tk.pure W.wk (by rfl) (by rfl) (by rfl) (pure_move (x := .tmp 55) (.inl rfl) (F.get (j := 41) (d := 55) (by rfl) rfl (up_of hb (by rfl) 41 (by rfl)))) ?_
    exact hk' _ _ _ _ _ (Iw.same (j := 42) (by decide) (by decide) hf hP h38 h38' M hS (F.step (j := 42) (d := 56) (by rfl) rfl rfl))
  · refine Tk.pure W.wk (by rfl) (wantE_up (m := 42) (d := 56) (by rfl) (by rfl) (F.get (j := 42) (d := 56) (by rfl) rfl (up_of hb (by rfl) 42 (by rfl)))) (by rfl) (pure_move (x := .tmp 2) (.inl rfl) (F.base 2 rfl)) ?_
    exact hk' _ _ _ _ _ (Iw.same (j := 43) (by decide) (by decide) hf hP h38 h38' M hS (F.step (j := 43) (d := 57) (by rfl) rfl rfl))
  · refine Tk.callE W (by rfl) (wantE_up (m := 42) (d := 56) (by rfl) (by rfl) (F.get (j := 42) (d := 56) (by rfl) rfl (up_of hb (by rfl) 42 (by rfl)))) (by rfl) (by rfl) (by rfl) b7 (ev2 (x := .tmp 57) (y := .const (.int .u8 5)) (F.get (j := 43) (d := 57) (by rfl) rfl (up_of hb (by rfl) 43 (by rfl))) rfl) fun fr1 hk1 => ?_
    refine add7NilM (r := 5) hf hP (hk1 _ _ _ _ _ (hk' _ _ _ _ _ (Iw.same (j := 44) (by decide) (by decide) hf hP h38 h38' M hS (F.put (j := 44) (d := 58) (by rfl) rfl))))
  · refine Tk.pure W.wk (by rfl) (wantE_up (m := 42) (d := 56) (by rfl) (by rfl) (F.get (j := 42) (d := 56) (by rfl) rfl (up_of hb (by rfl) 42 (by rfl)))) (by rfl) (pure_not (x := .tmp 58) rfl (F.get (j := 44) (d := 58) (by rfl) rfl (up_of hb (by rfl) 44 (by rfl)))) ?_
    exact hk' _ _ _ _ _ (Iw.same (j := 45) (by decide) (by decide) hf hP h38 h38' M hS (F.step (j := 45) (d := 59) (by rfl) rfl rfl))
  · refine Tk.pure W.wk (by rfl) (by rfl) (by rfl) (pure_pickT (c := .tmp 56) (x := .tmp 59) rfl (F.get (j := 42) (d := 56) (by rfl) rfl (up_of hb (by rfl) 42 (by rfl))) (F.get (j := 45) (d := 59) (by rfl) rfl (up_of hb (by rfl) 45 (by rfl)))) ?_
    exact hk' _ _ _ _ _ (Iw.same (j := 46) (by decide) (by decide) hf hP h38 h38' M hS (F.step (j := 46) (d := 60) (by rfl) rfl rfl))
  · refine Tk.pure W.wk (by rfl) (by rfl) (by rfl) (pure_move (x := .tmp 60) (.inl rfl) (F.get (j := 46) (d := 60) (by rfl) rfl (up_of hb (by rfl) 46 (by rfl)))) ?_
    exact hk' _ _ _ _ _ (Iw.same (j := 47) (by decide) (by decide) hf hP h38 h38' M hS (F.step (j := 47) (d := 61) (by rfl) rfl rfl))
  · refine Tk.pure W.wk (by rfl) (wantE_up (m := 47) (d := 61) (by rfl) (by rfl) (F.get (j := 47) (d := 61) (by rfl) rfl (up_of hb (by rfl) 47 (by rfl)))) (by rfl) (pure_move (x := .tmp 2) (.inl rfl) (F.base 2 rfl)) ?_
    exact hk' _ _ _ _ _ (Iw.same (j := 48) (by decide) (by decide) hf hP h38 h38' M hS (F.step (j := 48) (d := 62) (by rfl) rfl rfl))
  · refine Tk.callE W (by rfl) (wantE_up (m := 47) (d := 61) (by rfl) (by rfl) (F.get (j := 47) (d := 61) (by rfl) rfl (up_of hb (by rfl) 47 (by rfl)))) (by rfl) (by rfl) (by rfl) b10 (ev2 (x := .tmp 62) (y := .const (.int .u8 5)) (F.get (j := 48) (d := 62) (by rfl) rfl (up_of hb (by rfl) 48 (by rfl))) rfl) fun fr1 hk1 => ?_
    refine many10NilM (r := 5) hf hP (hk1 _ _ _ _ _ (hk' _ _ _ _ _ (Iw.same (j := 49) (by decide) (by decide) hf hP h38 h38' M hS (F.put (j := 49) (d := 63) (by rfl) rfl))))
  · refine Tk.pure W.wk (by rfl) (wantE_up (m := 47) (d := 61) (by rfl) (by rfl) (F.get (j := 47) (d := 61) (by rfl) rfl (up_of hb (by rfl) 47 (by rfl)))) (by rfl) (pure_int (op := .eql) (x := .tmp 63) (y := .const (.int .i64 0)) rfl (F.get (j := 49) (d := 63) (by rfl) rfl (up_of hb (by rfl) 49 (by rfl))) rfl rfl) ?_
    exact hk' _ _ _ _ _ (Iw.same (j := 50) (by decide) (by decide) hf hP h38 h38' M hS (F.step (j := 50) (d := 64) (by rfl) rfl rfl))
  · refine Tk.pure W.wk (by rfl) (by rfl) (by rfl) (pure_pickT (c := .tmp 61) (x := .tmp 64) rfl (F.get (j := 47) (d := 61) (by rfl) rfl (up_of hb (by rfl) 47 (by rfl))) (F.get (j := 50) (d := 64) (by rfl) rfl (up_of hb (by rfl) 50 (by rfl)))) ?_
    exact hk' _ _ _ _ _ (Iw.same (j := 51) (by decide) (by decide) hf hP h38 h38' M hS (F.step (j := 51) (d := 65) (by rfl) rfl rfl))
  · refine Tk.pure W.wk (by rfl) (by rfl) (by rfl) (pure_move (x := .tmp 65) (.inl rfl) (F.get (j := 51) (d := 65) (by rfl) rfl (up_of hb (by rfl) 51 (by rfl)))) ?_
    exact hk' _ _ _ _ _ (Iw.same (j := 52) (by decide) (by decide) hf hP h38 h38' M hS (F.step (j := 52) (d := 66) (by rfl) rfl rfl))
  · refine Tk.pure W.wk (by rfl) (wantE_up (m := 52) (d := 66) (by rfl) (by rfl) (F.get (j := 52) (d := 66) (by rfl) rfl (up_of hb (by rfl) 52 (by rfl)))) (by rfl) (pure_move (x := .tmp 2) (.inl rfl) (F.base 2 rfl)) ?_
    exact hk' _ _ _ _ _ (Iw.same (j := 53) (by decide) (by decide) hf hP h38 h38' M hS (F.step (j := 53) (d := 67) (by rfl) rfl rfl))
  · refine Tk.callE W (by rfl) (wantE_up (m := 52) (d := 66) (by rfl) (by rfl) (F.get (j := 52) (d := 66) (by rfl) rfl (up_of hb (by rfl) 52 (by rfl)))) (by rfl) (by rfl) (by rfl) b12 (ev1 (x := .tmp 67) (F.get (j := 53) (d := 67) (by rfl) rfl (up_of hb (by rfl) 53 (by rfl)))) fun fr1 hk1 => ?_
    refine sum12NilM hf hP fun own' w' k => hk1 _ _ _ _ _ (hk' _ _ _ _ _ (Iw.kp (j := 54) (by decide) (by decide) hf hP h38 h38' M hS k.kp (F.put (j := 54) (d := 68) (by rfl) rfl)))
  · refine Tk.pure W.wk (by rfl) (wantE_up (m := 52) (d := 66) (by rfl) (by rfl) (F.get (j := 52) (d := 66) (by rfl) rfl (up_of hb (by rfl) 52 (by rfl)))) (by rfl) (pure_int (op := .eql) (x := .tmp 68) (y := .const (.int .i64 0)) rfl (F.get (j := 54) (d := 68) (by rfl) rfl (up_of hb (by rfl) 54 (by rfl))) rfl rfl) ?_
    exact hk' _ _ _ _ _ (Iw.same (j := 55) (by decide) (by decide) hf hP h38 h38' M hS (F.step (j := 55) (d := 69) (by rfl) rfl rfl))
  · refine Tk.pure W.wk (by rfl) (by rfl) (by rfl) (pure_pickT (c := .tmp 66) (x := .tmp 69) rfl (F.get (j := 52) (d := 66) (by rfl) rfl (up_of hb (by rfl) 52 (by rfl))) (F.get (j := 55) (d := 69) (by rfl) rfl (up_of hb (by rfl) 55 (by rfl)))) ?_
    exact hk' _ _ _ _ _ (Iw.same (j := 56) (by decide) (by decide) hf hP h38 h38' M hS (F.step (j := 56) (d := 70) (by rfl) rfl rfl))
  · refine Tk.pure W.wk (by rfl) (by rfl) (by rfl) (pure_move (x := .tmp 70) (.inl rfl) (F.get (j := 56) (d := 70) (by rfl) rfl (up_of hb (by rfl) 56 (by rfl)))) ?_
    exact hk' _ _ _ _ _ (Iw.same (j := 57) (by decide) (by decide) hf hP h38 h38' M hS (F.step (j := 57) (d := 71) (by rfl) rfl rfl))
  · refine Tk.pure W.wk (by rfl) (wantE_up (m := 57) (d := 71) (by rfl) (by rfl) (F.get (j := 57) (d := 71) (by rfl) rfl (up_of hb (by rfl) 57 (by rfl)))) (by rfl) (pure_move (x := .tmp 2) (.inl rfl) (F.base 2 rfl)) ?_
    exact hk' _ _ _ _ _ (Iw.same (j := 58) (by decide) (by decide) hf hP h38 h38' M hS (F.step (j := 58) (d := 72) (by rfl) rfl rfl))
  · refine Tk.callE W (by rfl) (wantE_up (m := 57) (d := 71) (by rfl) (by rfl) (F.get (j := 57) (d := 71) (by rfl) rfl (up_of hb (by rfl) 57 (by rfl)))) (by rfl) (by rfl) (by rfl) b11 (ev1 (x := .tmp 72) (F.get (j := 58) (d := 72) (by rfl) rfl (up_of hb (by rfl) 58 (by rfl)))) fun fr1 hk1 => ?_
    refine all11NilM hf hP fun own' w' k => hk1 _ _ _ _ _ (hk' _ _ _ _ _ (Iw.kp (j := 59) (by decide) (by decide) hf hP h38 h38' M hS k.kp (F.put (j := 59) (d := 73) (by rfl) rfl)))
  · refine Tk.pure W.wk (by rfl) (wantE_up (m := 57) (d := 71) (by rfl) (by rfl) (F.get (j := 57) (d := 71) (by rfl) rfl (up_of hb (by rfl) 57 (by rfl)))) (by rfl) (by rw [hP]; exact pure_build40 rfl) ?_
    exact hk' _ _ _ _ _ (Iw.same (j := 60) (by decide) (by decide) hf hP h38 h38' M hS (F.step (j := 60) (d := 74) (by rfl) rfl rfl))
  · refine Tk.pure W.wk (by rfl) (wantE_up (m := 57) (d := 71) (by rfl) (by rfl) (F.get (j := 57) (d := 71) (by rfl) rfl (up_of hb (by rfl) 57 (by rfl)))) (by rfl) (by rw [hP]; exact pure_eqArr (x := .tmp 73) (y := .tmp 74) rfl (F.get (j := 59) (d := 73) (by rfl) rfl (up_of hb (by rfl) 59 (by rfl))) (F.get (j := 60) (d := 74) (by rfl) rfl (up_of hb (by rfl) 60 (by rfl))) (by rfl) (by rfl) (by decide +kernel) (by decide +kernel)) ?_
    exact hk' _ _ _ _ _ (Iw.same (j := 61) (by decide) (by decide) hf hP h38 h38' M hS (F.step (j := 61) (d := 75) (by rfl) rfl (congrArg Value.bool (arrEq_true (fun _ _ => rfl)))))
  · refine Tk.pure W.wk (by rfl) (by rfl) (by rfl) (pure_pickT (c := .tmp 71) (x := .tmp 75) rfl (F.get (j := 57) (d := 71) (by rfl) rfl (up_of hb (by rfl) 57 (by rfl))) (F.get (j := 61) (d := 75) (by rfl) rfl (up_of hb (by rfl) 61 (by rfl)))) ?_
    exact hk' _ _ _ _ _ (Iw.same (j := 62) (by decide) (by decide) hf hP h38 h38' M hS (F.step (j := 62) (d := 76) (by rfl) rfl rfl))
  · refine Tk.pure W.wk (by rfl) (by rfl) (by rfl) (pure_move (x := .tmp 76) (.inr rfl) (F.get (j := 62) (d := 76) (by rfl) rfl (up_of hb (by rfl) 62 (by rfl)))) ?_
    exact hk' _ _ _ _ _ (Iw.same (j := 63) (by decide) (by decide) hf hP h38 h38' M hS (F.step (j := 63) (d := 0) (by rfl) rfl rfl))
end Go.Co.F1
