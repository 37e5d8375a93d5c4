/- A theory of many goroutines that count at once (a channel, a wait group, once, a mutex), the walks of the program's functions in it, and the law CountsSame of the seat, proved out of them. No condition beyond those that stand in each statement. -/
import Derived.Conc.Beside
import Derived.Conc.CrowdComm
import Derived.Conc.CrowdCom2
import Derived.Conc.MuSpec
namespace Go.Co
open Go Go.Conc
open Go.ConcN (sumTo upd sumTo_upd upd_ne upd_same)
section
variable {α : Type}
def Lfp (F : (α → Prop) → α → Prop) (a : α) : Prop := ∀ Q : α → Prop, (∀ b, F Q b → Q b) → Q a
variable {F : (α → Prop) → α → Prop}
theorem Lfp.fold (mono : ∀ Q Q' : α → Prop, (∀ a, Q a → Q' a) → ∀ a, F Q a → F Q' a) {a : α} (h : F (Lfp F) a) : Lfp F a := fun Q hQ => hQ a (mono _ _ (fun _b hb => hb Q hQ) a h)
theorem Lfp.unfold (mono : ∀ Q Q' : α → Prop, (∀ a, Q a → Q' a) → ∀ a, F Q a → F Q' a) {a : α} (h : Lfp F a) : F (Lfp F) a := h (F (Lfp F)) fun _ hb => mono _ _ (fun _ hc => Lfp.fold mono hc) _ hb
theorem Lfp.induct (mono : ∀ Q Q' : α → Prop, (∀ a, Q a → Q' a) → ∀ a, F Q a → F Q' a) {Q : α → Prop} (step : ∀ a, F (fun b => Q b ∧ Lfp F b) a → Q a) {a : α} (h : Lfp F a) : Q a := by
  have : (fun b => Q b ∧ Lfp F b) a := h (fun b => Q b ∧ Lfp F b) fun b hb => ⟨step b hb, Lfp.fold mono (mono (fun b => Q b ∧ Lfp F b) _ (fun _ hc => hc.2) b hb)⟩
  exact this.1
end
section
variable {α : Type} (F : Nat → (α → Prop) → α → Prop)
def Below (S : (Nat → α) → Prop) (k : Nat) (f : Nat → α) : Prop := ∀ h : Nat → α, (∀ i, i < k → Lfp (F i) (h i)) → S (fun i => if i < k then h i else f i)
variable {F}
theorem prod_below (mono : ∀ i (Q Q' : α → Prop), (∀ a, Q a → Q' a) → ∀ a, F i Q a → F i Q' a) {n : Nat} {S : (Nat → α) → Prop}
    (hS : ∀ f : Nat → α, (∀ j, j < n → Lfp (F j) (f j) ∧ F j (fun a => S (upd f j a) ∧ Lfp (F j) a) (f j)) → S f) : ∀ k, k ≤ n → ∀ f : Nat → α,
    (∀ j, k ≤ j → j < n → Lfp (F j) (f j) ∧ F j (fun a => Below F S k (upd f j a) ∧ Lfp (F j) a) (f j)) → Below F S k f := by
  intro k
  induction k with
  | zero =>
    intro _ f hf h _
    simp only [Nat.not_lt_zero, if_false]
    refine hS f fun j hj => ?_
    obtain ⟨h1, h2⟩ := hf j (Nat.zero_le _) hj
    refine ⟨h1, mono j _ _ (fun a ha => ⟨?_, ha.2⟩) _ h2⟩
    have := ha.1 f (fun i hi => absurd hi (Nat.not_lt_zero _))
    simpa only [Nat.not_lt_zero, if_false] using this
  | succ k ih =>
    intro hk f hf
    -- by induction on what stands at k
    have key : ∀ a, Lfp (F k) a → Below F S k (upd f k a) := by
      intro a ha
      refine Lfp.induct (Q := fun a => Below F S k (upd f k a)) (mono k) (fun a hFa => ?_) ha
      refine ih (by omega) (upd f k a) fun j hj hjn => ?_
      by_cases hjk : j = k
      · subst hjk
        rw [upd_same]
        refine ⟨Lfp.fold (mono j) (mono j _ _ (fun b hb => hb.2) _ hFa), mono j _ _ (fun b hb => ⟨?_, hb.2⟩) _ hFa⟩
        have e : upd (upd f j a) j b = upd f j b := by funext x; unfold upd; split <;> rfl
        rw [e]; exact hb.1
      · obtain ⟨h1, h2⟩ := hf j (by omega) hjn
        rw [upd_ne f a hjk]
        refine ⟨h1, mono j _ _ (fun b hb => ⟨?_, hb.2⟩) _ h2⟩
        intro h hh
        have hall : ∀ i, i < k + 1 → Lfp (F i) ((fun i => if i = k then a else h i) i) := fun i hi => by
          by_cases hik : i = k
          · subst hik
            simp only [if_true]
            exact Lfp.fold (mono i) (mono i _ _ (fun b hb => hb.2) _ hFa)
          · simp only [if_neg hik]; exact hh i (by omega)
        have := hb.1 (fun i => if i = k then a else h i) hall
        refine cast (congrArg S ?_) this
        funext i
        by_cases hik : i = k
        · subst hik
          have : ¬ i = j := fun e => hjk e.symm
          simp [upd, this]
        · by_cases hlt : i < k
          · simp [hlt, hik, show i < k + 1 by omega]
          · simp [hlt, show ¬ i < k + 1 by omega, upd, hik]
    intro h hh
    have := key (h k) (hh k (by omega)) h fun i hi => hh i (by omega)
    refine cast (congrArg S ?_) this
    funext i
    by_cases hik : i = k
    · subst hik; simp [upd]
    · by_cases hlt : i < k
      · simp [hlt, show i < k + 1 by omega]
      · simp [hlt, show ¬ i < k + 1 by omega, upd, hik]
theorem prod_ind (mono : ∀ i (Q Q' : α → Prop), (∀ a, Q a → Q' a) → ∀ a, F i Q a → F i Q' a) {n : Nat} {S : (Nat → α) → Prop}
    (hS : ∀ f : Nat → α, (∀ j, j < n → Lfp (F j) (f j) ∧ F j (fun a => S (upd f j a) ∧ Lfp (F j) a) (f j)) → S f) (f : Nat → α) (hf : ∀ j, j < n → Lfp (F j) (f j)) : S f := by
  have := prod_below mono hS n (Nat.le_refl _) f (fun j h1 h2 => absurd h2 (by omega)) f (fun i hi => hf i hi)
  simpa only [ite_self] using this
end
end Go.Co

namespace Go.Co
open Go Go.Conc
open Go.ConcN (sumTo upd sumTo_upd upd_ne upd_same)
inductive Ch where
  | no
  | recv
  | send (v : Value)
structure Pro where
  P : Program
  Gh : Type
  Lo : Type
  lo : Gh → Nat → Lo
  sz : Gh → Nat
  act : Gh → Nat → Prop
  own : Lo → Nat → Prop
  deaf : Lo → Nat
  grow : Lo → Nat → Nat → Lo
  growG : Gh → Nat → Nat → Nat → Gh
  ch : Lo → Ch
  c : Nat
  cl : Gh → Bool
  PK : Gh → Nat → Prop
  Φ : Gh → Nat
  GI : Gh → World → Trace → Prop
  fin : Lo → Goroutine → World → Prop
  got : Lo → Value → Lo → Prop
  shut : Lo → Lo → Prop
  sent : Lo → Lo → Prop
  still : Lo → Prop
def View (own : Nat → Prop) (w w' : World) : Prop := w.heap.size ≤ w'.heap.size ∧ ∀ b, own b → w'.heap[b]? = w.heap[b]?
theorem View.refl (own : Nat → Prop) (w : World) : View own w w := ⟨Nat.le_refl _, fun _ _ => rfl⟩
theorem View.trans {own : Nat → Prop} {a b c : World} (h : View own a b) (k : View own b c) : View own a c := ⟨Nat.le_trans h.1 k.1, fun x hx => (k.2 x hx).trans (h.2 x hx)⟩
theorem View.at {own : Nat → Prop} {a b : World} (h : View own a b) (d : Nat) : View own a (b.at d) := h
def PEv (own : Nat → Prop) (e : Event) : Prop :=
  (∃ a wr s, e = ⟨.cell a, wr, s⟩ ∧ own a.block) ∨ (∃ r wr, e = ⟨.obj r, wr, false⟩ ∧ own r) ∨ (∃ m wr s, e = ⟨.mark m, wr, s⟩ ∧ (Neutral m ∨ ∃ a, (m = .acquire a ∨ m = .releaseMerge a) ∧ own a.block))
structure Priv (own : Nat → Prop) (w w' : World) (es : Array Event) : Prop where
  size : w.heap.size ≤ w'.heap.size
  block : ∀ b, ¬ own b → b < w.heap.size → w'.heap[b]? = w.heap[b]?
  tape : w'.tape = w.tape
  os : w'.os = w.os
  output : w'.output = w.output
  evs : ∀ e ∈ es, PEv (fun b => own b ∨ (w.heap.size ≤ b ∧ b < w'.heap.size)) e
abbrev Pro.Node (Y : Pro) := Y.Lo × Goroutine × World
def Pro.Out (Y : Pro) (X : Nat → Y.Node → Prop) (i : Nat) (Q : Y.Node → Prop) (G : Y.Gh) (g : Goroutine) (w : World) (t : Trace) : Prop :=
  (∃ g' w' es G', stepG Y.P (i == 0) g w = .go g' w' es ∧ g'.status = .running ∧ Y.GI G' w' (t ++ MemOp.ofEvents i g.frame.fn g.frame.place es) ∧ Y.sz G' = Y.sz G ∧
      (∀ j, j ≠ i → Y.lo G' j = Y.lo G j ∧ (Y.act G' j ↔ Y.act G j) ∧ (Y.act G j → View (Y.own (Y.lo G j)) w w')) ∧
      (mayWake Y.P g = true ∨ ((∀ j, Y.PK G j → Y.PK G' j) ∧ Y.cl G' = Y.cl G)) ∧ Y.Φ G' ≤ Y.Φ G ∧
      ((Y.act G' i ∧ (Q (Y.lo G' i, g', w') ∨ (Y.Φ G' < Y.Φ G ∧ X i (Y.lo G' i, g', w')))) ∨
       (¬ Y.act G' i ∧ i ≠ 0 ∧ Y.Φ G' < Y.Φ G ∧ ∃ k, QuitsD Y.P k (deafBehind (Y.deaf (Y.lo G i)) es) g'))) ∨
  (stepG Y.P (i == 0) g w = .go { g with status := .blocked } w #[] ∧ Y.PK G i) ∨
  (i = 0 ∧ ∃ g' child w' es, stepG Y.P true g w = .spawn g' child w' es ∧ ∀ fn : FuncId, ∃ G',
      Y.GI G' w' (((t ++ MemOp.ofEvents 0 g.frame.fn g.frame.place es).push { g := 0, fn := g.frame.fn, pos := g.frame.place, act := .go (Y.sz G) }).push { g := Y.sz G, fn := fn, pos := g.frame.place, act := .start }) ∧
      Y.sz G' = Y.sz G + 1 ∧ Y.act G' 0 ∧ Y.act G' (Y.sz G) ∧ Y.Φ G' < Y.Φ G ∧
      (∀ j, j ≠ 0 → j ≠ Y.sz G → Y.lo G' j = Y.lo G j ∧ (Y.act G' j ↔ Y.act G j) ∧ (Y.act G j → View (Y.own (Y.lo G j)) w w')) ∧
      (∀ j, j ≠ Y.sz G → Y.PK G j → Y.PK G' j) ∧ Y.cl G' = Y.cl G ∧ X 0 (Y.lo G' 0, g', w') ∧ X (Y.sz G) (Y.lo G' (Y.sz G), child, w'))
def Pro.F (Y : Pro) (X : Nat → Y.Node → Prop) (i : Nat) (Q : Y.Node → Prop) (n : Y.Node) : Prop :=
  (n.2.1.status = .running ∧ n.2.1.offers = none ∧ n.2.1.dying = none) ∧
  ((i = 0 ∧ Y.ch n.1 = .no ∧ Y.fin n.1 n.2.1 n.2.2) ∨
   (Y.ch n.1 = .no ∧ ∀ w, View (Y.own n.1) n.2.2 w → ∃ g' w' es, stepG Y.P (i == 0) n.2.1 w = .go g' w' es ∧ g'.status = .running ∧ Priv (Y.own n.1) w w' es ∧ (Y.still n.1 → ∀ e ∈ es, (MemAct.ofEvent e).touch? = none) ∧ Q (Y.grow n.1 w.heap.size w'.heap.size, g', w')) ∨
   (Y.ch n.1 = .no ∧ ∀ G w t, Y.GI G w t → Y.act G i → Y.lo G i = n.1 → View (Y.own n.1) n.2.2 w → Y.Out X i Q G n.2.1 w t) ∨
   (i ≠ 0 ∧ Y.ch n.1 = .recv ∧ ∀ w, View (Y.own n.1) n.2.2 w → ∃ z, stepG Y.P false n.2.1 w = .comm n.2.1 #[rcase Y.c z] true (.recv true) w #[] ∧
      (∀ v l', Y.got n.1 v l' → X i (l', Conc.served n.2.1 (recvd true v true), w)) ∧ (∀ l', Y.shut n.1 l' → Q (l', Conc.served n.2.1 (recvd true z false), w))) ∨
   (i = 0 ∧ ∃ v, Y.ch n.1 = .send v ∧ ∀ w, View (Y.own n.1) n.2.2 w → ∃ z, stepG Y.P true n.2.1 w = .comm n.2.1 #[scase Y.c v z] true .send w #[] ∧
      ∀ l', Y.sent n.1 l' → X 0 (l', Conc.served n.2.1 undef, w)))
theorem Pro.Out.mono {Y : Pro} {X X' : Nat → Y.Node → Prop} {i : Nat} {Q Q' : Y.Node → Prop} {G : Y.Gh} {g : Goroutine} {w : World} {t : Trace} (hX : ∀ i a, X i a → X' i a) (hQ : ∀ a, Q a → Q' a) (h : Y.Out X i Q G g w t) : Y.Out X' i Q' G g w t := by
  rcases h with ⟨g', w', es, G', h1, h2, h3, h4, h5, h6, h7, h8⟩ | h | ⟨h0, g', child, w', es, h1, h2⟩
  · refine .inl ⟨g', w', es, G', h1, h2, h3, h4, h5, h6, h7, ?_⟩
    rcases h8 with ⟨a, b | ⟨c, d⟩⟩ | h8
    · exact .inl ⟨a, .inl (hQ _ b)⟩
    · exact .inl ⟨a, .inr ⟨c, hX _ _ d⟩⟩
    · exact .inr h8
  · exact .inr (.inl h)
  · refine .inr (.inr ⟨h0, g', child, w', es, h1, fun fn => ?_⟩)
    obtain ⟨G', a1, a2, a3, a4, a5, a6, a7, a8, a9, a10⟩ := h2 fn
    exact ⟨G', a1, a2, a3, a4, a5, a6, a7, a8, hX _ _ a9, hX _ _ a10⟩
theorem Pro.F.mono2 {Y : Pro} {X X' : Nat → Y.Node → Prop} {i : Nat} {Q Q' : Y.Node → Prop} {n : Y.Node} (hX : ∀ i a, X i a → X' i a) (hQ : ∀ a, Q a → Q' a) (h : Y.F X i Q n) : Y.F X' i Q' n := by
  obtain ⟨h0, h⟩ := h
  refine ⟨h0, ?_⟩
  rcases h with h | ⟨hc, h⟩ | ⟨hc, h⟩ | ⟨hi, hc, h⟩ | ⟨hi, v, hc, h⟩
  · exact .inl h
  · refine .inr (.inl ⟨hc, fun w hw => ?_⟩)
    obtain ⟨g', w', es, a, b, c, e, d⟩ := h w hw
    exact ⟨g', w', es, a, b, c, e, hQ _ d⟩
  · exact .inr (.inr (.inl ⟨hc, fun G w t a b c d => (h G w t a b c d).mono hX hQ⟩))
  · refine .inr (.inr (.inr (.inl ⟨hi, hc, fun w hw => ?_⟩)))
    obtain ⟨z, a, b, c⟩ := h w hw
    exact ⟨z, a, fun v l' hl => hX _ _ (b v l' hl), fun l' hl => hQ _ (c l' hl)⟩
  · refine .inr (.inr (.inr (.inr ⟨hi, v, hc, fun w hw => ?_⟩)))
    obtain ⟨z, a, b⟩ := h w hw
    exact ⟨z, a, fun l' hl => hX _ _ (b l' hl)⟩
theorem Pro.F.mono (Y : Pro) (X : Nat → Y.Node → Prop) (i : Nat) (Q Q' : Y.Node → Prop) (hQ : ∀ a, Q a → Q' a) (a : Y.Node) (h : Y.F X i Q a) : Y.F X i Q' a := h.mono2 (fun _ _ x => x) hQ
def Pro.Lv (Y : Pro) : Nat → Nat → Y.Node → Prop
  | 0, _, _ => True
  | N + 1, i, a => Lfp (Y.F (Y.Lv N) i) a
theorem Pro.Lv.less {Y : Pro} : ∀ {N i : Nat} {a : Y.Node}, Y.Lv (N + 1) i a → Y.Lv N i a
  | 0, _, _, _ => trivial
  | N + 1, i, a, h => by
    refine Lfp.induct (F := Y.F (Y.Lv (N + 1)) i) (Pro.F.mono Y _ i) (Q := Y.Lv (N + 1) i) (fun b hb => ?_) h
    exact Lfp.fold (Pro.F.mono Y _ i) (hb.mono2 (fun _ _ x => Pro.Lv.less x) fun _ x => x.1)
theorem Pro.Lv.fold {Y : Pro} {N i : Nat} {a : Y.Node} (h : Y.F (Y.Lv N) i (Y.Lv (N + 1) i) a) : Y.Lv (N + 1) i a := Lfp.fold (Pro.F.mono Y _ i) h
def passOps (c s r k : Nat) (f0 fk : FuncId) (p0 pk : String) : Trace :=
  #[{ g := 0, fn := f0, pos := p0, act := .send c s }, { g := k, fn := fk, pos := pk, act := .recv c r 0 }, { g := 0, fn := f0, pos := p0, act := .sendDone c s }, { g := k, fn := fk, pos := pk, act := .recvDone c r }]
structure Pro.Laws (Y : Pro) : Prop where
  draw : ∀ {G w t} d, Y.GI G w t → Y.GI G (w.at d) t
  priv : ∀ {G w t i w' es} (fn : FuncId) (pos : String), Y.GI G w t → Y.act G i → Priv (Y.own (Y.lo G i)) w w' es → (Y.still (Y.lo G i) → ∀ e ∈ es, (MemAct.ofEvent e).touch? = none) → Y.GI (Y.growG G i w.heap.size w'.heap.size) w' (t ++ MemOp.ofEvents i fn pos es)
  grow_lo : ∀ G i a b, Y.lo (Y.growG G i a b) i = Y.grow (Y.lo G i) a b
  grow_ne : ∀ G i a b j, j ≠ i → Y.lo (Y.growG G i a b) j = Y.lo G j
  grow_sz : ∀ G i a b, Y.sz (Y.growG G i a b) = Y.sz G
  grow_act : ∀ G i a b j, Y.act (Y.growG G i a b) j ↔ Y.act G j
  grow_cl : ∀ G i a b, Y.cl (Y.growG G i a b) = Y.cl G
  grow_PK : ∀ G i a b j, Y.PK G j → Y.PK (Y.growG G i a b) j
  grow_Φ : ∀ G i a b, Y.Φ (Y.growG G i a b) = Y.Φ G
  own_grow : ∀ l a b c, Y.own (Y.grow l a b) c ↔ Y.own l c ∨ (a ≤ c ∧ c < b)
  apart : ∀ {G w t i j b}, Y.GI G w t → Y.act G i → Y.act G j → i ≠ j → Y.own (Y.lo G i) b → ¬ Y.own (Y.lo G j) b
  old : ∀ {G w t i b}, Y.GI G w t → Y.act G i → Y.own (Y.lo G i) b → b < w.heap.size
  hears : ∀ {G w t i}, Y.GI G w t → Y.act G i → Deaf t i = Y.deaf (Y.lo G i)
  mute : ∀ {G w t j es} (fn : FuncId) (pos : String), Y.GI G w t → ¬ Y.act G j → j ≠ 0 → j < Y.sz G → (∀ e ∈ es, Event.mute e = true) → Y.GI G w (t ++ MemOp.ofEvents j fn pos es)
  chan : ∀ {G w t i}, Y.GI G w t → Y.act G i → Y.ch (Y.lo G i) ≠ .no → (∃ s r, w.heap[Y.c]? = some (.chan 0 #[] (Y.cl G) s r false)) ∧ ∀ j, Y.act G j → ¬ Y.own (Y.lo G j) Y.c
  only0 : ∀ {G w t i v}, Y.GI G w t → Y.act G i → Y.ch (Y.lo G i) = .send v → i = 0 ∧ Y.cl G = false
  deliver : ∀ {G w t v k s r} (d : Nat) (f0 fk : FuncId) (p0 pk : String), Y.GI G w t → Y.act G 0 → Y.act G k → k ≠ 0 → Y.ch (Y.lo G 0) = .send v → Y.ch (Y.lo G k) = .recv → w.heap[Y.c]? = some (.chan 0 #[] false s r false) →
    ∃ G', Y.GI G' ((w.at d).setChan Y.c 0 #[] false (s + 1) (r + 1) false) (t ++ passOps Y.c s r k f0 fk p0 pk) ∧ Y.Φ G' < Y.Φ G ∧ Y.sent (Y.lo G 0) (Y.lo G' 0) ∧ Y.got (Y.lo G k) v (Y.lo G' k) ∧ Y.sz G' = Y.sz G ∧ Y.cl G' = Y.cl G ∧
      (∀ j, Y.act G' j ↔ Y.act G j) ∧ (∀ j, j ≠ 0 → j ≠ k → Y.lo G' j = Y.lo G j) ∧ (∀ j, j ≠ 0 → j ≠ k → Y.PK G j → Y.PK G' j)
  closed : ∀ {G w t k} (fk : FuncId) (pk : String), Y.GI G w t → Y.act G k → k ≠ 0 → Y.ch (Y.lo G k) = .recv → Y.cl G = true →
    ∃ G', Y.GI G' w (t ++ #[{ g := k, fn := fk, pos := pk, act := .recvClosed Y.c }]) ∧ Y.Φ G' ≤ Y.Φ G ∧ Y.shut (Y.lo G k) (Y.lo G' k) ∧ Y.sz G' = Y.sz G ∧ Y.cl G' = Y.cl G ∧ (∀ j, Y.act G' j ↔ Y.act G j) ∧ (∀ j, j ≠ k → Y.lo G' j = Y.lo G j) ∧ (∀ j, j ≠ k → Y.PK G j → Y.PK G' j)
  got_own : ∀ {l v l' b}, Y.got l v l' → Y.own l' b → Y.own l b
  sent_own : ∀ {l l' b}, Y.sent l l' → Y.own l' b → Y.own l b
  shut_own : ∀ {l l' b}, Y.shut l l' → Y.own l' b → Y.own l b
  size : ∀ {G w t i}, Y.GI G w t → Y.act G i → i < Y.sz G
  finish : ∀ {G w t g w0}, Y.GI G w t → Y.act G 0 → Y.fin (Y.lo G 0) g w0 → ∀ i, Y.act G i → i = 0
  prog : ∀ {G w t}, Y.GI G w t → Y.act G 0 → (∀ i, Y.act G i → Y.PK G i ∨ (i ≠ 0 ∧ Y.ch (Y.lo G i) = .recv ∧ Y.cl G = false) ∨ (i = 0 ∧ ∃ v, Y.ch (Y.lo G i) = .send v)) →
    (∀ v i, Y.ch (Y.lo G 0) = .send v → ¬ Y.PK G 0 → Y.act G i → ¬ Y.PK G i → Y.ch (Y.lo G i) ≠ .recv) → False
end Go.Co

namespace Go.Co
open Go Go.Conc
open Go.ConcN (sumTo upd sumTo_upd upd_ne upd_same sumTo_congr le_sumTo sumTo_le)
theorem mayWake_same {P : Program} {g h : Goroutine} (e : g.frame = h.frame) : mayWake P g = mayWake P h := by unfold mayWake; rw [e]
variable {Y : Pro}
def Stand (Y : Pro) (G : Y.Gh) (i : Nat) (g x : Goroutine) : Prop :=
  x.frame = g.frame ∧ x.callers = g.callers ∧ x.dying = g.dying ∧
    (x.status = .running ∨ (x.status = .blocked ∧ x.offers = none ∧ Y.PK G i) ∨
     (x.status = .blocked ∧ i ≠ 0 ∧ Y.ch (Y.lo G i) = .recv ∧ ∃ z, x = parked g #[rcase Y.c z] (.recv true)) ∨
     (x.status = .blocked ∧ i = 0 ∧ ∃ v z, Y.ch (Y.lo G i) = .send v ∧ x = parked g #[scase Y.c v z] .send))
structure Cfg (Y : Pro) (f : Nat → Y.Node) (G : Y.Gh) (w : World) (t : Trace) (gs : Array Goroutine) (q : Nat → Nat) : Prop where
  gi : Y.GI G w t
  sz : Y.sz G = gs.size
  main : Y.act G 0
  stand : ∀ i, Y.act G i → (f i).1 = Y.lo G i ∧ View (Y.own (Y.lo G i)) (f i).2.2 w ∧ ∃ x, gs[i]? = some x ∧ Stand Y G i (f i).2.1 x
  quit : ∀ i x, ¬ Y.act G i → gs[i]? = some x → QuitsD Y.P (q i) (Deaf t i) x
  above : ∀ j, gs.size ≤ j → Deaf t j = 0
  meet : ∀ k x0 xk, Y.act G k → k ≠ 0 → gs[0]? = some x0 → gs[k]? = some xk → x0.status = .blocked → x0.offers ≠ none → xk.status = .blocked → xk.offers ≠ none → False
  shut : ∀ k xk, Y.act G k → k ≠ 0 → gs[k]? = some xk → xk.status = .blocked → xk.offers ≠ none → Y.cl G = false
def Arrives (Y : Pro) (gs : Array Goroutine) (w : World) (sl : Option (Nat × Nat)) (t : Trace) : Prop :=
  ∃ (n : Nat) (gs' : Array Goroutine) (w' : World) (sl' : Option (Nat × Nat)) (t' : Trace) (G : Y.Gh) (q : Nat → Nat) (x g : Goroutine) (w0 : World),
    runNT Y.P n (crowd gs w sl) t = (.next (crowd gs' w' sl'), t') ∧ Y.GI G w' t' ∧ Y.sz G = gs'.size ∧ gs'[0]? = some x ∧ x.status = .running ∧ x.frame = g.frame ∧ x.callers = g.callers ∧ x.dying = g.dying ∧
      Y.act G 0 ∧ Y.fin (Y.lo G 0) g w0 ∧ View (Y.own (Y.lo G 0)) w0 w' ∧ (∀ i y, 0 < i → gs'[i]? = some y → QuitsD Y.P (q i) (Deaf t' i) y) ∧ ∀ j, gs'.size ≤ j → Deaf t' j = 0
theorem Arrives.step {gs gs1 : Array Goroutine} {w w1 : World} {sl sl1 : Option (Nat × Nat)} {t : Trace} {ops : Trace} (h : stepT Y.P (crowd gs w sl) = (.next (crowd gs1 w1 sl1), ops)) (k : Arrives Y gs1 w1 sl1 (t ++ ops)) : Arrives Y gs w sl t := by
  obtain ⟨n, gs', w', sl', t', G, q, x, g, w0, h1, hr⟩ := k
  exact ⟨n + 1, gs', w', sl', t', G, q, x, g, w0, by simp only [runNT, h]; exact h1, hr⟩
def isRun (gs : Array Goroutine) (i : Nat) : Nat := match gs[i]? with
  | some x => if x.status = .running then 1 else 0
  | none => 0
def runs (gs : Array Goroutine) : Nat := sumTo gs.size (isRun gs)
theorem isRun_le (gs : Array Goroutine) (i : Nat) : isRun gs i ≤ 1 := by unfold isRun; split <;> (try split) <;> omega
theorem runs_le (gs : Array Goroutine) : runs gs ≤ gs.size := by
  have := sumTo_le (f := isRun gs) (c := 1) (j := gs.size) fun i _ => isRun_le gs i
  unfold runs; omega
theorem sumTo_less {f g : Nat → Nat} {i : Nat} : ∀ {n : Nat}, i < n → (∀ j, j < n → f j ≤ g j) → f i < g i → sumTo n f < sumTo n g
  | n + 1, hi, hle, hlt => by
    have hlast := hle n (by omega)
    by_cases e : i = n
    · subst e
      have : sumTo i f ≤ sumTo i g := by
        clear hi hlt hlast
        have hl : ∀ j, j < i → f j ≤ g j := fun j hj => hle j (by omega)
        clear hle
        induction i with
        | zero => exact Nat.le_refl _
        | succ i ih => simp only [sumTo]; have := ih (fun j hj => hl j (by omega)); have := hl i (by omega); omega
      simp only [sumTo]; omega
    · have := sumTo_less (n := n) (by omega) (fun j hj => hle j (by omega)) hlt
      simp only [sumTo]; omega
theorem runs_set {gs : Array Goroutine} {i : Nat} {x y : Goroutine} (hi : gs[i]? = some x) (hx : x.status = .running) (hy : y.status ≠ .running) : runs (gs.setIfInBounds i y) < runs gs := by
  obtain ⟨hlt, _⟩ := Array.getElem?_eq_some_iff.1 hi
  unfold runs
  rw [Array.size_setIfInBounds]
  refine sumTo_less hlt (fun j hj => ?_) ?_
  · by_cases e : i = j
    · subst e; unfold isRun; rw [Array.getElem?_setIfInBounds_self_of_lt hlt]; simp [hy]
    · unfold isRun; rw [Array.getElem?_setIfInBounds_ne e]; exact Nat.le_refl _
  · unfold isRun
    rw [Array.getElem?_setIfInBounds_self_of_lt hlt, hi]
    simp [hx, hy]
theorem woken_blocked_none {P : Program} {a a' o : Goroutine} {w : World} (ho : o.status = .blocked) (hf : o.offers = none) (hw : mayWake P a = true) (ha : a'.status = .running) : woken P a a' w o = { o with status := .running } := by
  unfold woken
  rw [if_pos (by simp [hw, ha])]
  unfold Goroutine.again
  simp [ho, hf]
theorem woken_frame {P : Program} {a a' o : Goroutine} {w : World} : (woken P a a' w o).frame = o.frame ∧ (woken P a a' w o).callers = o.callers ∧ (woken P a a' w o).dying = o.dying := by
  unfold woken
  split
  · unfold Goroutine.again
    split
    · simp only
      split <;> exact ⟨rfl, rfl, rfl⟩
    · exact ⟨rfl, rfl, rfl⟩
    · exact ⟨rfl, rfl, rfl⟩
    · exact ⟨rfl, rfl, rfl⟩
  · exact ⟨rfl, rfl, rfl⟩
theorem Stand.woken {G G' : Y.Gh} {j : Nat} {g x a a' : Goroutine} {w : World} (h : Stand Y G j g x) (hlo : Y.lo G' j = Y.lo G j) (ha : a'.status = .running)
    (hpk : mayWake Y.P a = true ∨ (Y.PK G j → Y.PK G' j)) (hch : Y.ch (Y.lo G j) ≠ .no → ∃ s r, w.heap[Y.c]? = some (.chan 0 #[] (Y.cl G') s r false)) : Stand Y G' j g (Conc.woken Y.P a a' w x) := by
  obtain ⟨h1, h2, h3, h4⟩ := h
  obtain ⟨w1, w2, w3⟩ := woken_frame (P := Y.P) (a := a) (a' := a') (o := x) (w := w)
  refine ⟨w1.trans h1, w2.trans h2, w3.trans h3, ?_⟩
  rcases h4 with h4 | ⟨h4, h5, h6⟩ | ⟨h4, h5, h6, z, hz⟩ | ⟨h4, h5, v, z, h6, hz⟩
  · rw [woken_run h4]; exact .inl h4
  · rcases hpk with hw | hk
    · rw [woken_blocked_none h4 h5 hw ha]; exact .inl rfl
    · by_cases hw : mayWake Y.P a = true
      · rw [woken_blocked_none h4 h5 hw ha]; exact .inl rfl
      · have : Conc.woken Y.P a a' w x = x := by unfold Conc.woken; rw [if_neg (by simp [hw])]
        rw [this]; exact .inr (.inl ⟨h4, h5, hk h6⟩)
  · obtain ⟨s, r, hc⟩ := hch (by rw [h6]; simp)
    by_cases hw : (mayWake Y.P a && a'.status != .blocked && a'.status != .waiting) = true
    · cases hcl : Y.cl G' with
      | false =>
        rw [hcl] at hc
        have : Conc.woken Y.P a a' w x = x := by rw [hz]; exact woken_recv_open a a' hc
        rw [this, hlo]; exact .inr (.inr (.inl ⟨h4, h5, h6, z, hz⟩))
      | true =>
        rw [hcl] at hc
        have : Conc.woken Y.P a a' w x = { parked g #[rcase Y.c z] (.recv true) with status := .running } := by
          rw [hz]; unfold Conc.woken; rw [if_pos hw]; exact again_recv_closed hc
        rw [this]; exact .inl rfl
    · have : Conc.woken Y.P a a' w x = x := by unfold Conc.woken; rw [if_neg hw]
      rw [this, hlo]; exact .inr (.inr (.inl ⟨h4, h5, h6, z, hz⟩))
  · obtain ⟨s, r, hc⟩ := hch (by rw [h6]; simp)
    by_cases hw : (mayWake Y.P a && a'.status != .blocked && a'.status != .waiting) = true
    · cases hcl : Y.cl G' with
      | false =>
        rw [hcl] at hc
        have : Conc.woken Y.P a a' w x = x := by rw [hz]; exact woken_send_open a a' hc
        rw [this, hlo]; exact .inr (.inr (.inr ⟨h4, h5, v, z, h6, hz⟩))
      | true =>
        rw [hcl] at hc
        have : Conc.woken Y.P a a' w x = { parked g #[scase Y.c v z] .send with status := .running } := by
          rw [hz]; unfold Conc.woken; rw [if_pos hw]
          simp [Goroutine.again, parked, scase, hc]
        rw [this]; exact .inl rfl
    · have : Conc.woken Y.P a a' w x = x := by unfold Conc.woken; rw [if_neg hw]
      rw [this, hlo]; exact .inr (.inr (.inr ⟨h4, h5, v, z, h6, hz⟩))
theorem woken_still {P : Program} {a a' o : Goroutine} {w : World} (h : (Conc.woken P a a' w o).status = .blocked) : o.status = .blocked ∧ Conc.woken P a a' w o = o := by
  by_cases hw : (mayWake P a && a'.status != .blocked && a'.status != .waiting) = true
  · have e : Conc.woken P a a' w o = o.again w := by unfold Conc.woken; rw [if_pos hw]
    rw [e] at h ⊢
    obtain ⟨fr, cs, st, dy, ofs⟩ := o
    cases st with
    | blocked =>
      cases ofs with
      | none => cases h
      | some v =>
        refine ⟨rfl, ?_⟩
        unfold Goroutine.again at h ⊢
        simp only at h ⊢
        split at h
        · cases h
        · rename_i hn; exact if_neg hn
    | running => cases h
    | waiting => cases ofs <;> cases h
    | sleeping t => cases ofs <;> cases h
    | parked => cases ofs <;> cases h
    | finished => cases ofs <;> cases h
  · have e : Conc.woken P a a' w o = o := by unfold Conc.woken; rw [if_neg hw]
    rw [e] at h ⊢
    exact ⟨h, rfl⟩
end Go.Co

namespace Go.Co
open Go Go.Conc
open Go.ConcN (sumTo upd sumTo_upd upd_ne upd_same sumTo_congr le_sumTo sumTo_le)
variable {Y : Pro}
theorem g_ofEvents {i : Nat} {fn : FuncId} {pos : String} {es : Array Event} : ∀ op ∈ MemOp.ofEvents i fn pos es, op.g = i := fun op hop => by
  rw [ofEvents_eq] at hop
  obtain ⟨e, _, rfl⟩ := Array.mem_map.1 hop
  rfl
theorem get_step {gs : Array Goroutine} {i : Nat} {fw : Goroutine → Goroutine} {g' : Goroutine} {j : Nat} (hij : j ≠ i) : ((gs.map fw).setIfInBounds i g')[j]? = (gs[j]?).map fw := by
  rw [Array.getElem?_setIfInBounds_ne (Ne.symm hij), Array.getElem?_map]
theorem Stand.awake {G : Y.Gh} {i : Nat} {g x : Goroutine} (h : Stand Y G i g x) : x.status = .running ∨ x.status = .blocked ∨ x.status = .finished := by
  obtain ⟨_, _, _, h | ⟨h, _⟩ | ⟨h, _⟩ | ⟨h, _⟩⟩ := h
  · exact .inl h
  · exact .inr (.inl h)
  · exact .inr (.inl h)
  · exact .inr (.inl h)
theorem Cfg.go (L : Y.Laws) {f : Nat → Y.Node} {G G' : Y.Gh} {w wd w' : World} {t : Trace} {gs : Array Goroutine} {q q' : Nat → Nat} {i : Nat} {x g' : Goroutine} {es : Array Event} {n' : Y.Node} {d : Nat} (h : Cfg Y f G w t gs q) (hwd : wd = w.at d)
    (hx : gs[i]? = some x) (hrun : g'.status = .running ∨ (g'.status = .finished ∧ ¬ Y.act G' i)) (hgi : Y.GI G' w' (t ++ MemOp.ofEvents i x.frame.fn x.frame.place es)) (hsz : Y.sz G' = Y.sz G)
    (hoth : ∀ j, j ≠ i → Y.lo G' j = Y.lo G j ∧ (Y.act G' j ↔ Y.act G j) ∧ (Y.act G j → View (Y.own (Y.lo G j)) wd w'))
    (hwk : (mayWake Y.P x = true ∧ g'.status = .running) ∨ ((∀ j, Y.PK G j → Y.PK G' j) ∧ Y.cl G' = Y.cl G)) (hmain : Y.act G' 0)
    (hnode : Y.act G' i → n'.1 = Y.lo G' i ∧ n'.2.1 = g' ∧ n'.2.2 = w') (hq : ∀ j, j ≠ i → q' j = q j) (hquit : ¬ Y.act G' i → QuitsD Y.P (q' i) (deafBehind (Deaf t i) es) g') :
    Cfg Y (upd f i n') G' w' (t ++ MemOp.ofEvents i x.frame.fn x.frame.place es) ((gs.map (Conc.woken Y.P x g' w')).setIfInBounds i g') q' := by
  subst hwd
  have hlt : i < gs.size := (Array.getElem?_eq_some_iff.1 hx).1
  have hself : ((gs.map (Conc.woken Y.P x g' w')).setIfInBounds i g')[i]? = some g' := by rw [Array.getElem?_setIfInBounds_self_of_lt (by simpa using hlt)]
  have hdeaf : ∀ j, j ≠ i → Deaf (t ++ MemOp.ofEvents i x.frame.fn x.frame.place es) j = Deaf t j := fun j hj => Deaf_other t (Ne.symm hj) _ g_ofEvents
  have hstand : ∀ j, j ≠ i → Y.act G j → ∀ y, gs[j]? = some y → Stand Y G j (f j).2.1 y → Stand Y G' j (f j).2.1 (Conc.woken Y.P x g' w' y) := by
    intro j hj ha y hy hs
    obtain ⟨e1, e2, _⟩ := hoth j hj
    have hchan : Y.ch (Y.lo G j) ≠ .no → ∃ s r, w'.heap[Y.c]? = some (.chan 0 #[] (Y.cl G') s r false) := fun hc => (L.chan hgi (e2.2 ha) (by rw [e1]; exact hc)).1
    rcases hrun with hr | ⟨hr, hna⟩
    · exact hs.woken e1 hr (hwk.imp (fun a => a.1) fun a => a.1 j) hchan
    · rcases hwk with ⟨_, hb⟩ | ⟨hk, hcl⟩
      · rw [hr] at hb; cases hb
      · -- it has ended: it may let others try again all the same
        obtain ⟨h1, h2, h3, h4⟩ := hs
        obtain ⟨w1, w2, w3⟩ := woken_frame (P := Y.P) (a := x) (a' := g') (o := y) (w := w')
        by_cases hb : (Conc.woken Y.P x g' w' y).status = .blocked
        · obtain ⟨_, e⟩ := woken_still hb
          rw [e, Stand, e1]
          exact ⟨h1, h2, h3, h4.imp id (.imp (fun a => ⟨a.1, a.2.1, hk j a.2.2⟩) id)⟩
        · refine ⟨w1.trans h1, w2.trans h2, w3.trans h3, .inl ?_⟩
          have hy' : y.status = .running ∨ y.status = .blocked := by
            rcases h4 with h | ⟨h, _⟩ | ⟨h, _⟩ | ⟨h, _⟩
            · exact .inl h
            · exact .inr h
            · exact .inr h
            · exact .inr h
          rcases hy' with hy' | hy'
          · rw [woken_run hy']; exact hy'
          · revert hb
            unfold Conc.woken Goroutine.again
            obtain ⟨fr, cs, st, dy, ofs⟩ := y
            simp only at hy'
            subst hy'
            split
            · cases ofs with
              | none => intro _; rfl
              | some v =>
                simp only
                split
                · intro _; rfl
                · intro hb; exact absurd rfl hb
            · intro hb; exact absurd rfl hb
  refine ⟨hgi, by rw [hsz, h.sz]; simp, hmain, fun j ha => ?_, fun j y hna hy => ?_, fun j hj => ?_, ?_, ?_⟩
  · by_cases hj : j = i
    · subst hj
      rw [upd_same]
      obtain ⟨e1, e2, e3⟩ := hnode ha
      have hr : g'.status = .running := hrun.elim id fun a => absurd ha a.2
      refine ⟨e1, by rw [e3]; exact View.refl _ _, g', hself, by rw [e2], by rw [e2], by rw [e2], .inl hr⟩
    · rw [upd_ne f n' hj]
      obtain ⟨e1, e2, e3⟩ := hoth j hj
      obtain ⟨s1, s2, y, s3, s4⟩ := h.stand j (e2.1 ha)
      refine ⟨by rw [e1]; exact s1, ?_, Conc.woken Y.P x g' w' y, by rw [get_step hj, s3]; rfl, hstand j hj (e2.1 ha) y s3 s4⟩
      rw [e1]
      exact (s2.at d).trans (e3 (e2.1 ha))
  · by_cases hj : j = i
    · subst hj
      rw [hself] at hy
      cases hy
      rw [Deaf_own]
      exact hquit hna
    · obtain ⟨_, e2, _⟩ := hoth j hj
      rw [get_step hj] at hy
      obtain ⟨z, hz, rfl⟩ := Option.map_eq_some_iff.1 hy
      have := h.quit j z (fun a => hna (e2.2 a)) hz
      rw [woken_quitsD this, hq j hj, hdeaf j hj]
      exact this
  · have : j ≠ i := by simp at hj; omega
    rw [hdeaf j this]
    exact h.above j (by simpa using hj)
  · intro k x0 xk ha hk h0 hxk b0 o0 bk ok
    have hki : k ≠ i := by
      rintro rfl
      rw [hself] at hxk; cases hxk
      rcases hrun with a | ⟨a, _⟩ <;> rw [a] at bk <;> cases bk
    have h0i : (0 : Nat) ≠ i := by
      rintro rfl
      rw [hself] at h0; cases h0
      rcases hrun with a | ⟨a, _⟩ <;> rw [a] at b0 <;> cases b0
    rw [get_step hki] at hxk
    rw [get_step h0i] at h0
    obtain ⟨z, hz, rfl⟩ := Option.map_eq_some_iff.1 hxk
    obtain ⟨z0, hz0, rfl⟩ := Option.map_eq_some_iff.1 h0
    obtain ⟨a1, a2⟩ := woken_still bk
    obtain ⟨a3, a4⟩ := woken_still b0
    rw [a2] at ok
    rw [a4] at o0
    exact h.meet k z0 z ((hoth k hki).2.1.1 ha) hk hz0 hz a3 o0 a1 ok
  · intro k xk ha hk hxk bk ok
    have hki : k ≠ i := by
      rintro rfl
      rw [hself] at hxk; cases hxk
      rcases hrun with a | ⟨a, _⟩ <;> rw [a] at bk <;> cases bk
    rw [get_step hki] at hxk
    obtain ⟨z, hz, rfl⟩ := Option.map_eq_some_iff.1 hxk
    obtain ⟨a1, a2⟩ := woken_still bk
    have hakG := (hoth k hki).2.1.1 ha
    have hcl := h.shut k z hakG hk hz a1 (by rw [← a2]; exact ok)
    rcases hwk with ⟨hw, hr⟩ | ⟨_, hc⟩
    · cases hc : Y.cl G' with
      | false => rfl
      | true =>
        exfalso
        obtain ⟨_, _, y, s3, s4⟩ := h.stand k hakG
        rw [hz] at s3
        cases s3
        obtain ⟨_, _, _, s4⟩ := s4
        rcases s4 with s | ⟨_, s, _⟩ | ⟨_, _, s6, zz, hzz⟩ | ⟨_, s, _⟩
        · rw [a1] at s; cases s
        · exact ok (by rw [a2]; exact s)
        · obtain ⟨s, r, hch⟩ := (L.chan hgi ha (by rw [(hoth k hki).1, s6]; simp)).1
          rw [hc] at hch
          have : Conc.woken Y.P x g' w' z = { parked (f k).2.1 #[rcase Y.c zz] (.recv true) with status := .running } := by
            rw [hzz]; unfold Conc.woken; rw [if_pos (by simp [hw, hr])]; exact again_recv_closed hch
          rw [this] at bk
          cases bk
        · exact hk s
    · rw [hc]; exact hcl
end Go.Co

namespace Go.Co
open Go Go.Conc
open Go.ConcN (sumTo upd sumTo_upd upd_ne upd_same sumTo_congr le_sumTo sumTo_le)
variable {Y : Pro}
theorem waits_rec {gs : Array Goroutine} {i : Nat} {p : Goroutine} {j : Nat} (hij : j ≠ i) : (gs.setIfInBounds i p)[j]? = gs[j]? := Array.getElem?_setIfInBounds_ne (Ne.symm hij)
theorem Cfg.park {f : Nat → Y.Node} {G : Y.Gh} {w : World} {t : Trace} {gs : Array Goroutine} {q : Nat → Nat} {i : Nat} {x p : Goroutine} {d : Nat} (L : Y.Laws) (h : Cfg Y f G w t gs q) (ha : Y.act G i)
    (hx : gs[i]? = some x) (hp : Stand Y G i (f i).2.1 p)
    (hmeet : p.offers ≠ none → ∀ k y, gs[k]? = some y → k ≠ i → (k = 0 ∨ i = 0) → (k ≠ 0 → Y.act G k) → y.status = .blocked → y.offers ≠ none → False) (hcl : p.offers ≠ none → i ≠ 0 → Y.cl G = false) :
    Cfg Y f G (w.at d) t (gs.setIfInBounds i p) q := by
  have hlt : i < gs.size := (Array.getElem?_eq_some_iff.1 hx).1
  have hself : (gs.setIfInBounds i p)[i]? = some p := Array.getElem?_setIfInBounds_self_of_lt hlt
  refine ⟨L.draw d h.gi, by rw [h.sz]; simp, h.main, fun j haj => ?_, fun j y hna hy => ?_, fun j hj => h.above j (by simpa using hj), ?_, ?_⟩
  · obtain ⟨s1, s2, y, s3, s4⟩ := h.stand j haj
    by_cases hj : j = i
    · subst hj
      exact ⟨s1, s2.at d, p, hself, hp⟩
    · exact ⟨s1, s2.at d, y, by rw [waits_rec hj]; exact s3, s4⟩
  · have hj : j ≠ i := fun e => hna (e ▸ ha)
    rw [waits_rec hj] at hy
    exact h.quit j y hna hy
  · intro k x0 xk hak hk h0 hxk b0 o0 bk ok
    by_cases hki : k = i
    · subst hki
      rw [hself] at hxk; cases hxk
      rw [waits_rec (Ne.symm hk)] at h0
      exact hmeet ok 0 x0 h0 (Ne.symm hk) (.inl rfl) (fun e => absurd rfl e) b0 o0
    · rw [waits_rec hki] at hxk
      by_cases h0i : (0 : Nat) = i
      · subst h0i
        rw [hself] at h0; cases h0
        exact hmeet o0 k xk hxk hk (.inr rfl) (fun _ => hak) bk ok
      · rw [waits_rec h0i] at h0
        exact h.meet k x0 xk hak hk h0 hxk b0 o0 bk ok
  · intro k xk hak hk hxk bk ok
    by_cases hki : k = i
    · subst hki
      rw [hself] at hxk; cases hxk
      exact hcl ok hk
    · rw [waits_rec hki] at hxk
      exact h.shut k xk hak hk hxk bk ok
theorem Cfg.offer {f : Nat → Y.Node} {G : Y.Gh} {w : World} {t : Trace} {gs : Array Goroutine} {q : Nat → Nat} (h : Cfg Y f G w t gs q) {j : Nat} {y : Goroutine} (hy : gs[j]? = some y) (hb : y.status = .blocked) (ho : y.offers ≠ none) :
    Y.act G j ∧ ((j ≠ 0 ∧ Y.ch (Y.lo G j) = .recv ∧ ∃ z, y = parked (f j).2.1 #[rcase Y.c z] (.recv true)) ∨ (j = 0 ∧ ∃ v z, Y.ch (Y.lo G j) = .send v ∧ y = parked (f j).2.1 #[scase Y.c v z] .send)) := by
  by_cases ha : Y.act G j
  · refine ⟨ha, ?_⟩
    obtain ⟨_, _, y', s3, _, _, _, s4⟩ := h.stand j ha
    rw [hy] at s3; cases s3
    rcases s4 with s | ⟨_, s, _⟩ | ⟨_, s⟩ | ⟨_, s⟩
    · rw [hb] at s; cases s
    · exact absurd s ho
    · exact .inl s
    · exact .inr s
  · have := h.quit j y ha hy
    rcases this.status with s | s <;> rw [hb] at s <;> cases s
theorem offersAt_none {y : Goroutine} {r : Nat} {b : Bool} (h : y.status ≠ .blocked ∨ y.offers = none) : offersAt y r b = [] := by
  unfold offersAt
  rcases h with h | h
  · cases hs : y.status <;> first | rfl | exact absurd hs h
  · rw [h]; cases y.status <;> rfl
theorem Cfg.senders {f : Nat → Y.Node} {G : Y.Gh} {w : World} {t : Trace} {gs : Array Goroutine} {q : Nat → Nat} (h : Cfg Y f G w t gs q) {j : Nat} {y : Goroutine} (hy : gs[j]? = some y) (hj : j ≠ 0) : offersAt y Y.c true = [] := by
  by_cases hb : y.status = .blocked
  · by_cases ho : y.offers = none
    · exact offersAt_none (.inr ho)
    · obtain ⟨_, ⟨_, _, z, e⟩ | ⟨e, _⟩⟩ := h.offer hy hb ho
      · rw [e]; exact offersAt_parked_recv' _ _ _ _ _
      · exact absurd e hj
  · exact offersAt_none (.inl hb)
theorem Cfg.pass (L : Y.Laws) {f : Nat → Y.Node} {G : Y.Gh} {w : World} {t : Trace} {gs : Array Goroutine} {q : Nat → Nat} {k : Nat} {v : Value} {s r d : Nat} {x0 xk : Goroutine} {f0 fk : FuncId} {p0 pk : String} (h : Cfg Y f G w t gs q) (ha : Y.act G k) (hk : k ≠ 0)
    (h0 : Y.ch (Y.lo G 0) = .send v) (hr : Y.ch (Y.lo G k) = .recv) (hc : w.heap[Y.c]? = some (.chan 0 #[] false s r false)) (hx0 : gs[0]? = some x0) (hxk : gs[k]? = some xk) :
    ∃ G', Y.Φ G' < Y.Φ G ∧ Y.sent (Y.lo G 0) (Y.lo G' 0) ∧ Y.got (Y.lo G k) v (Y.lo G' k) ∧ (∀ j, Y.act G' j ↔ Y.act G j) ∧
      Cfg Y (upd (upd f k (Y.lo G' k, Conc.served (f k).2.1 (recvd true v true), w)) 0 (Y.lo G' 0, Conc.served (f 0).2.1 undef, w)) G' ((w.at d).setChan Y.c 0 #[] false (s + 1) (r + 1) false) (t ++ passOps Y.c s r k f0 fk p0 pk)
        ((gs.setIfInBounds k (Conc.served (f k).2.1 (recvd true v true))).setIfInBounds 0 (Conc.served (f 0).2.1 undef)) q := by
  obtain ⟨G', g1, g2, g3, g4, g5, g6, g7, g8, g9⟩ := L.deliver d f0 fk p0 pk h.gi h.main ha hk h0 hr hc
  refine ⟨G', g2, g3, g4, g7, ?_⟩
  have hl0 : 0 < gs.size := (Array.getElem?_eq_some_iff.1 hx0).1
  have hlk : k < gs.size := (Array.getElem?_eq_some_iff.1 hxk).1
  have e0 : ((gs.setIfInBounds k (Conc.served (f k).2.1 (recvd true v true))).setIfInBounds 0 (Conc.served (f 0).2.1 undef))[0]? = some (Conc.served (f 0).2.1 undef) := Array.getElem?_setIfInBounds_self_of_lt (by simpa using hl0)
  have ek : ((gs.setIfInBounds k (Conc.served (f k).2.1 (recvd true v true))).setIfInBounds 0 (Conc.served (f 0).2.1 undef))[k]? = some (Conc.served (f k).2.1 (recvd true v true)) := by
    rw [waits_rec hk, Array.getElem?_setIfInBounds_self_of_lt hlk]
  have ej : ∀ j, j ≠ 0 → j ≠ k → ((gs.setIfInBounds k (Conc.served (f k).2.1 (recvd true v true))).setIfInBounds 0 (Conc.served (f 0).2.1 undef))[j]? = gs[j]? := fun j h0 hk => by rw [waits_rec h0, waits_rec hk]
  have hown := (L.chan h.gi h.main (by rw [h0]; simp)).2
  have hview : ∀ j, Y.act G j → View (Y.own (Y.lo G j)) w ((w.at d).setChan Y.c 0 #[] false (s + 1) (r + 1) false) := by
    intro j haj
    refine ⟨by simp [World.setChan, World.at], fun b hb => ?_⟩
    have : b ≠ Y.c := fun e => hown j haj (e ▸ hb)
    simp only [World.setChan, World.at]
    rw [Array.getElem?_setIfInBounds_ne (Ne.symm this)]
  have hdeaf : ∀ j, Deaf (t ++ passOps Y.c s r k f0 fk p0 pk) j = Deaf t j := fun j => Go.ConcN.Deaf_still t j _ (by intro op hop; simp [passOps] at hop; rcases hop with rfl | rfl | rfl | rfl <;> simp)
  refine ⟨g1, by rw [g5, h.sz]; simp, (g7 0).2 h.main, fun j haj => ?_, fun j y hna hy => ?_, fun j hj => by rw [hdeaf]; exact h.above j (by simpa using hj), ?_, ?_⟩
  · have hajG := (g7 j).1 haj
    by_cases hj0 : j = 0
    · subst hj0
      rw [upd_same]
      exact ⟨rfl, ⟨(hview 0 hajG).1, fun b hb => (hview 0 hajG).2 b (L.sent_own g3 hb)⟩, _, e0, rfl, rfl, rfl, .inl rfl⟩
    · by_cases hjk : j = k
      · subst hjk
        rw [upd_ne _ _ hj0, upd_same]
        exact ⟨rfl, ⟨(hview j hajG).1, fun b hb => (hview j hajG).2 b (L.got_own g4 hb)⟩, _, ek, rfl, rfl, rfl, .inl rfl⟩
      · rw [upd_ne _ _ hj0, upd_ne _ _ hjk]
        obtain ⟨s1, s2, y, s3, s4, s5, s6, s7⟩ := h.stand j hajG
        rw [g8 j hj0 hjk]
        refine ⟨s1, s2.trans (hview j hajG), y, by rw [ej j hj0 hjk]; exact s3, s4, s5, s6, ?_⟩
        rw [g8 j hj0 hjk]
        exact s7.imp id (.imp (fun a => ⟨a.1, a.2.1, g9 j hj0 hjk a.2.2⟩) id)
  · have hj0 : j ≠ 0 := fun e => hna (e ▸ (g7 0).2 h.main)
    have hjk : j ≠ k := fun e => hna (e ▸ (g7 k).2 ha)
    rw [ej j hj0 hjk] at hy
    rw [hdeaf]
    exact h.quit j y (fun a => hna ((g7 j).2 a)) hy
  · intro m y0 ym _ _ hy0 _ b0 _ _ _
    rw [e0] at hy0; cases hy0
    cases b0
  · intro m ym ham hm hym bm om
    by_cases hmk : m = k
    · subst hmk; rw [ek] at hym; cases hym; cases bm
    · rw [ej m hm hmk] at hym
      rw [g6]
      exact h.shut m ym ((g7 m).1 ham) hm hym bm om
end Go.Co

namespace Go.Co
open Go Go.Conc
open Go.ConcN (sumTo upd sumTo_upd upd_ne upd_same sumTo_congr le_sumTo sumTo_le)
variable {Y : Pro}
def Goal (Y : Pro) (N n : Nat) (A : Nat → Prop) (f : Nat → Y.Node) : Prop :=
  ∀ (M : Nat) (G : Y.Gh) (w : World) (t : Trace) (gs : Array Goroutine) (sl : Option (Nat × Nat)) (q : Nat → Nat), Cfg Y f G w t gs q → Y.Φ G ≤ N → (∀ i, Y.act G i → A i ∧ i < n) → (gs.size + 1) * sumTo gs.size q + runs gs ≤ M → Arrives Y gs w sl t
def FA (Y : Pro) (A : Nat → Prop) (X : Nat → Y.Node → Prop) (i : Nat) (Q : Y.Node → Prop) (a : Y.Node) : Prop := A i → Y.F X i Q a
theorem FA.mono (A : Nat → Prop) (X : Nat → Y.Node → Prop) (i : Nat) (Q Q' : Y.Node → Prop) (h : ∀ a, Q a → Q' a) (a : Y.Node) (k : FA Y A X i Q a) : FA Y A X i Q' a := fun ha => Pro.F.mono Y X i Q Q' h a (k ha)
theorem FA.of {A : Nat → Prop} {X : Nat → Y.Node → Prop} {i : Nat} {a : Y.Node} (h : A i → Lfp (Y.F X i) a) : Lfp (FA Y A X i) a := by
  by_cases ha : A i
  · intro Q hQ
    exact h ha Q fun b hb => hQ b fun _ => hb
  · exact Lfp.fold (FA.mono A X i) fun hb => absurd hb ha
theorem FA.get {A : Nat → Prop} {X : Nat → Y.Node → Prop} {i : Nat} {a : Y.Node} (ha : A i) (h : Lfp (FA Y A X i) a) : Lfp (Y.F X i) a := fun Q hQ => h Q fun b hb => hQ b (hb ha)
theorem meas_leave {sz i k : Nat} {q : Nat → Nat} (hi : i < sz) (hq : q i = k + 1) {r r' M : Nat} (hr : r' ≤ sz) (hM : (sz + 1) * sumTo sz q + r ≤ M) : ∃ M', M' < M ∧ (sz + 1) * sumTo sz (upd q i k) + r' ≤ M' := by
  have h := sumTo_upd q k id hi
  simp only [id] at h
  have e : sumTo sz (fun a => upd q i k a) = sumTo sz (upd q i k) := rfl
  have e2 : sumTo sz (fun a => q a) = sumTo sz q := rfl
  rw [hq, e, e2] at h
  have h2 : sumTo sz q = sumTo sz (upd q i k) + 1 := by omega
  rw [h2, Nat.mul_add] at hM
  exact ⟨_, by omega, Nat.le_refl _⟩
theorem node_mono {N i : Nat} {a : Y.Node} (h : Lfp (Y.F (Y.Lv (N + 1)) i) a) : Lfp (Y.F (Y.Lv N) i) a := (show Y.Lv (N + 2) i a from h).less
theorem finish_cfg (L : Y.Laws) {f : Nat → Y.Node} {G : Y.Gh} {w : World} {t : Trace} {gs : Array Goroutine} {q : Nat → Nat} {sl : Option (Nat × Nat)} (h : Cfg Y f G w t gs q) {x : Goroutine} (hx : gs[0]? = some x) (hr : x.status = .running)
    (hf : Y.fin (f 0).1 (f 0).2.1 (f 0).2.2) : Arrives Y gs w sl t := by
  obtain ⟨s1, s2, y, s3, s4, s5, s6, _⟩ := h.stand 0 h.main
  rw [hx] at s3; cases s3
  rw [s1] at hf
  refine ⟨0, gs, w, sl, t, G, q, x, (f 0).2.1, (f 0).2.2, rfl, h.gi, h.sz, hx, hr, s4, s5, s6, h.main, hf, s2, fun i y hi hy => ?_, h.above⟩
  have hna : ¬ Y.act G i := fun a => by have := L.finish h.gi h.main hf i a; omega
  exact h.quit i y hna hy
theorem Cfg.anyone (L : Y.Laws) {f : Nat → Y.Node} {G : Y.Gh} {w : World} {t : Trace} {gs : Array Goroutine} {q : Nat → Nat} (h : Cfg Y f G w t gs q) : ∃ (i : Nat) (x : Goroutine), gs[i]? = some x ∧ x.status = .running := by
  apply Classical.byContradiction
  intro hn
  have nr : ∀ (i : Nat) (x : Goroutine), gs[i]? = some x → x.status ≠ .running := fun i x hx hr => hn ⟨i, x, hx, hr⟩
  refine L.prog h.gi h.main (fun i ha => ?_) (fun v i h0 hp0 ha hp hr => ?_)
  · obtain ⟨_, _, x, hx, _, _, _, s⟩ := h.stand i ha
    rcases s with s | ⟨_, _, s⟩ | ⟨sb, s1, s2, z, s3⟩ | ⟨_, s1, v, z, s2, s3⟩
    · exact absurd s (nr i x hx)
    · exact .inl s
    · exact .inr (.inl ⟨s1, s2, h.shut i x ha s1 hx sb (by rw [s3]; simp [parked])⟩)
    · exact .inr (.inr ⟨s1, v, s2⟩)
  · obtain ⟨_, _, x0, hx0, _, _, _, s0⟩ := h.stand 0 h.main
    obtain ⟨_, _, x, hx, _, _, _, s⟩ := h.stand i ha
    have hi : i ≠ 0 := by rintro rfl; rw [h0] at hr; cases hr
    rcases s0 with s0 | ⟨_, _, s0⟩ | ⟨_, s0, _⟩ | ⟨b0, _, v0, z0, _, e0⟩
    · exact nr 0 x0 hx0 s0
    · exact hp0 s0
    · exact s0 rfl
    · rcases s with s | ⟨_, _, s⟩ | ⟨sb, _, _, z, e⟩ | ⟨_, s, _⟩
      · exact nr i x hx s
      · exact hp s
      · exact h.meet i x0 x ha hi hx0 hx b0 (by rw [e0]; simp [parked]) sb (by rw [e]; simp [parked])
      · exact hi s
theorem Cfg.awake {f : Nat → Y.Node} {G : Y.Gh} {w : World} {t : Trace} {gs : Array Goroutine} {q : Nat → Nat} (h : Cfg Y f G w t gs q) : ∀ g ∈ gs, Conc.awake g := by
  intro g hg
  obtain ⟨i, hi, rfl⟩ := Array.mem_iff_getElem.1 hg
  have hx := Array.getElem?_eq_getElem hi
  by_cases ha : Y.act G i
  · obtain ⟨_, _, x, s3, s4⟩ := h.stand i ha
    rw [hx] at s3; cases s3
    exact awake_of s4.awake
  · exact awake_of ((h.quit i _ ha hx).status.elim .inl fun a => .inr (.inr a))
theorem parked_served {g g' : Goroutine} {cs cs' : Array CommCase} {sh sh' : CommShape} (h : parked g cs sh = parked g' cs' sh') (v : Value) : Conc.served g v = Conc.served g' v ∧ sh = sh' ∧ cs = cs' ∧ g.frame = g'.frame := by
  obtain ⟨a, b, c, d, e⟩ := g
  obtain ⟨a', b', c', d', e'⟩ := g'
  simp only [parked, Goroutine.mk.injEq, Option.some.injEq, Prod.mk.injEq] at h
  obtain ⟨rfl, rfl, _, rfl, rfl, rfl⟩ := h
  exact ⟨rfl, rfl, rfl, rfl⟩
theorem set_comm {gs : Array Goroutine} {i j : Nat} (h : i ≠ j) (x y : Goroutine) : (gs.setIfInBounds i x).setIfInBounds j y = (gs.setIfInBounds j y).setIfInBounds i x := by
  apply Array.ext_getElem?
  intro k
  by_cases hk : k = i
  · subst hk
    rw [waits_rec h]
    by_cases hl : k < gs.size
    · rw [Array.getElem?_setIfInBounds_self_of_lt hl, Array.getElem?_setIfInBounds_self_of_lt (by simpa using hl)]
    · rw [Array.getElem?_eq_none (by simpa using hl), Array.getElem?_eq_none (by simpa using hl)]
  · rw [waits_rec hk]
    by_cases hj : k = j
    · subst hj
      by_cases hl : k < gs.size
      · rw [Array.getElem?_setIfInBounds_self_of_lt (by simpa using hl), Array.getElem?_setIfInBounds_self_of_lt hl]
      · rw [Array.getElem?_eq_none (by simpa using hl), Array.getElem?_eq_none (by simpa using hl)]
    · rw [waits_rec hj, waits_rec hj, waits_rec hk]
theorem Cfg.put (_L : Y.Laws) {f : Nat → Y.Node} {G G' : Y.Gh} {w w' : World} {t u : Trace} {gs : Array Goroutine} {q : Nat → Nat} {i : Nat} {x g' : Goroutine} {n' : Y.Node} (h : Cfg Y f G w t gs q) (ha : Y.act G i)
    (hx : gs[i]? = some x) (hrun : g'.status = .running) (hgi : Y.GI G' w' (t ++ u)) (hsz : Y.sz G' = Y.sz G) (hu : ∀ op ∈ u, op.act ≠ .mark .disable ∧ op.act ≠ .mark .enable)
    (hoth : ∀ j, j ≠ i → Y.lo G' j = Y.lo G j ∧ (Y.act G j → View (Y.own (Y.lo G j)) w w')) (hact : ∀ j, Y.act G' j ↔ Y.act G j) (hpk : ∀ j, j ≠ i → Y.PK G j → Y.PK G' j) (hcl : Y.cl G' = Y.cl G)
    (hnode : n'.1 = Y.lo G' i ∧ n'.2.1 = g' ∧ View (Y.own (Y.lo G' i)) n'.2.2 w') :
    Cfg Y (upd f i n') G' w' (t ++ u) (gs.setIfInBounds i g') q := by
  have hlt : i < gs.size := (Array.getElem?_eq_some_iff.1 hx).1
  have hself : (gs.setIfInBounds i g')[i]? = some g' := by rw [Array.getElem?_setIfInBounds_self_of_lt hlt]
  have hdeaf : ∀ j, Deaf (t ++ u) j = Deaf t j := fun j => Go.ConcN.Deaf_still t j _ hu
  refine ⟨hgi, by rw [hsz, h.sz]; simp, (hact 0).2 h.main, fun j haj => ?_, fun j y hna hy => ?_, fun j hj => by rw [hdeaf]; exact h.above j (by simpa using hj), ?_, ?_⟩
  · have hajG := (hact j).1 haj
    by_cases hj : j = i
    · subst hj
      rw [upd_same]
      exact ⟨hnode.1, hnode.2.2, g', hself, by rw [hnode.2.1], by rw [hnode.2.1], by rw [hnode.2.1], .inl hrun⟩
    · rw [upd_ne f n' hj]
      obtain ⟨e1, e3⟩ := hoth j hj
      obtain ⟨s1, s2, y, s3, s4, s5, s6, s7⟩ := h.stand j hajG
      refine ⟨by rw [e1]; exact s1, by rw [e1]; exact s2.trans (e3 hajG), y, by rw [waits_rec hj]; exact s3, s4, s5, s6, ?_⟩
      rw [e1]
      exact s7.imp id (.imp (fun a => ⟨a.1, a.2.1, hpk j hj a.2.2⟩) id)
  · have hj : j ≠ i := fun e => hna (e ▸ (hact i).2 ha)
    rw [waits_rec hj] at hy
    rw [hdeaf]
    exact h.quit j y (fun a => hna ((hact j).2 a)) hy
  · intro k x0 xk hak hk h0 hxk b0 o0 bk ok
    have hki : k ≠ i := by rintro rfl; rw [hself] at hxk; cases hxk; rw [hrun] at bk; cases bk
    have h0i : (0 : Nat) ≠ i := by rintro rfl; rw [hself] at h0; cases h0; rw [hrun] at b0; cases b0
    rw [waits_rec hki] at hxk
    rw [waits_rec h0i] at h0
    exact h.meet k x0 xk ((hact k).1 hak) hk h0 hxk b0 o0 bk ok
  · intro k xk hak hk hxk bk ok
    have hki : k ≠ i := by rintro rfl; rw [hself] at hxk; cases hxk; rw [hrun] at bk; cases bk
    rw [waits_rec hki] at hxk
    rw [hcl]
    exact h.shut k xk ((hact k).1 hak) hk hxk bk ok
theorem Cfg.spawn {f : Nat → Y.Node} {G G' : Y.Gh} {w wd w' : World} {t u : Trace} {gs : Array Goroutine} {q : Nat → Nat} {x g' child : Goroutine} {n' nc : Y.Node} {d : Nat} (h : Cfg Y f G w t gs q) (hwd : wd = w.at d)
    (hx : gs[0]? = some x) (hrun : g'.status = .running) (hrunc : child.status = .running) (hgi : Y.GI G' w' (t ++ u)) (hsz : Y.sz G' = Y.sz G + 1) (hu : ∀ j, Deaf (t ++ u) j = if j = 0 then Deaf (t ++ u) 0 else Deaf t j)
    (hoth : ∀ j, j ≠ 0 → j ≠ Y.sz G → Y.lo G' j = Y.lo G j ∧ (Y.act G' j ↔ Y.act G j) ∧ (Y.act G j → View (Y.own (Y.lo G j)) wd w')) (h0 : Y.act G' 0) (hc : Y.act G' (Y.sz G)) (hpk : ∀ j, j ≠ Y.sz G → Y.PK G j → Y.PK G' j) (hcl : Y.cl G' = Y.cl G)
    (hn0 : n'.1 = Y.lo G' 0 ∧ n'.2.1 = g' ∧ n'.2.2 = w') (hnc : nc.1 = Y.lo G' (Y.sz G) ∧ nc.2.1 = child ∧ nc.2.2 = w') :
    Cfg Y (upd (upd f 0 n') (Y.sz G) nc) G' w' (t ++ u) ((gs.setIfInBounds 0 g').push child) q := by
  subst hwd
  have hlt : 0 < gs.size := (Array.getElem?_eq_some_iff.1 hx).1
  have hszg := h.sz
  have e0 : ((gs.setIfInBounds 0 g').push child)[0]? = some g' := by
    rw [Array.getElem?_push, if_neg (by simp; omega), Array.getElem?_setIfInBounds_self_of_lt hlt]
  have ec : ((gs.setIfInBounds 0 g').push child)[Y.sz G]? = some child := by
    rw [Array.getElem?_push, if_pos (by simp [hszg])]
  have ej : ∀ j, j ≠ 0 → j ≠ Y.sz G → ((gs.setIfInBounds 0 g').push child)[j]? = gs[j]? := fun j h0 hc => by
    rw [Array.getElem?_push, if_neg (by simp; omega), waits_rec h0]
  refine ⟨hgi, by rw [hsz, h.sz]; simp, h0, fun j haj => ?_, fun j y hna hy => ?_, fun j hj => ?_, ?_, ?_⟩
  · by_cases hjc : j = Y.sz G
    · subst hjc
      rw [upd_same]
      exact ⟨hnc.1, by rw [hnc.2.2]; exact View.refl _ _, child, ec, by rw [hnc.2.1], by rw [hnc.2.1], by rw [hnc.2.1], .inl hrunc⟩
    · rw [upd_ne _ _ hjc]
      by_cases hj : j = 0
      · subst hj
        rw [upd_same]
        exact ⟨hn0.1, by rw [hn0.2.2]; exact View.refl _ _, g', e0, by rw [hn0.2.1], by rw [hn0.2.1], by rw [hn0.2.1], .inl hrun⟩
      · rw [upd_ne _ _ hj]
        obtain ⟨e1, e2, e3⟩ := hoth j hj hjc
        obtain ⟨s1, s2, y, s3, s4, s5, s6, s7⟩ := h.stand j (e2.1 haj)
        refine ⟨by rw [e1]; exact s1, by rw [e1]; exact (s2.at d).trans (e3 (e2.1 haj)), y, by rw [ej j hj hjc]; exact s3, s4, s5, s6, ?_⟩
        rw [e1]
        exact s7.imp id (.imp (fun a => ⟨a.1, a.2.1, hpk j hjc a.2.2⟩) id)
  · have hj : j ≠ 0 := fun e => hna (e ▸ h0)
    have hjc : j ≠ Y.sz G := fun e => hna (e ▸ hc)
    rw [ej j hj hjc] at hy
    rw [hu, if_neg hj]
    exact h.quit j y (fun a => hna ((hoth j hj hjc).2.1.2 a)) hy
  · simp at hj
    rw [hu, if_neg (by omega)]
    exact h.above j (by omega)
  · intro k y0 yk _ _ hy0 _ b0 _ _ _
    rw [e0] at hy0; cases hy0
    rw [hrun] at b0; cases b0
  · intro k xk hak hk hxk bk ok
    have hkc : k ≠ Y.sz G := by rintro rfl; rw [ec] at hxk; cases hxk; rw [hrunc] at bk; cases bk
    rw [ej k hk hkc] at hxk
    rw [hcl]
    exact h.shut k xk ((hoth k hk hkc).2.1.1 hak) hk hxk bk ok
end Go.Co

namespace Go.Co
open Go Go.Conc
open Go.ConcN (sumTo upd sumTo_upd upd_ne upd_same sumTo_congr le_sumTo sumTo_le)
variable {Y : Pro}
theorem meet_goal (L : Y.Laws) {N n : Nat} {A : Nat → Prop} {f : Nat → Y.Node} (ih : ∀ N', N' < N → ∀ (A : Nat → Prop) (n : Nat) (f : Nat → Y.Node), (∀ i, A i → Lfp (Y.F (Y.Lv N') i) (f i)) → Goal Y N' n A f)
    (hf : ∀ i, A i → i < n → Lfp (Y.F (Y.Lv N) i) (f i)) {G : Y.Gh} {w : World} {t : Trace} {gs : Array Goroutine} {q : Nat → Nat} {sl : Option (Nat × Nat)} {k d s r : Nat} {v : Value} {x0 xk : Goroutine} {f0 fk : FuncId} {p0 pk : String}
    (h : Cfg Y f G w t gs q) (hΦ : Y.Φ G ≤ N) (hn : ∀ i, Y.act G i → A i ∧ i < n) (ha : Y.act G k) (hk : k ≠ 0)
    (h0 : Y.ch (Y.lo G 0) = .send v) (hr : Y.ch (Y.lo G k) = .recv) (hc : w.heap[Y.c]? = some (.chan 0 #[] false s r false)) (hx0 : gs[0]? = some x0) (hxk : gs[k]? = some xk)
    (n0 : ∀ l', Y.sent (Y.lo G 0) l' → Y.Lv N 0 (l', Conc.served (f 0).2.1 undef, w)) (nk : ∀ l', Y.got (Y.lo G k) v l' → Y.Lv N k (l', Conc.served (f k).2.1 (recvd true v true), w)) :
    Arrives Y ((gs.setIfInBounds k (Conc.served (f k).2.1 (recvd true v true))).setIfInBounds 0 (Conc.served (f 0).2.1 undef)) ((w.at d).setChan Y.c 0 #[] false (s + 1) (r + 1) false) sl (t ++ passOps Y.c s r k f0 fk p0 pk) := by
  obtain ⟨G', g1, g2, g3, g4, g5⟩ := h.pass L (d := d) (f0 := f0) (fk := fk) (p0 := p0) (pk := pk) ha hk h0 hr hc hx0 hxk
  obtain ⟨N', rfl⟩ : ∃ N', N = N' + 1 := ⟨N - 1, by omega⟩
  refine ih N' (by omega) (fun i => A i ∧ i < n) n _ (fun i hi => ?_) _ G' _ _ _ sl q g5 (by omega) (fun i hi => ⟨hn i ((g4 i).1 hi), (hn i ((g4 i).1 hi)).2⟩) (Nat.le_refl _)
  by_cases hi0 : i = 0
  · subst hi0
    rw [upd_same]
    exact n0 _ g2
  · by_cases hik : i = k
    · subst hik
      rw [upd_ne _ _ hi0, upd_same]
      exact nk _ g3
    · rw [upd_ne _ _ hi0, upd_ne _ _ hik]
      exact node_mono (hf i hi.1 hi.2)
theorem company_step (L : Y.Laws) {N n : Nat} {A : Nat → Prop} (ih : ∀ N', N' < N → ∀ (A : Nat → Prop) (n : Nat) (f : Nat → Y.Node), (∀ i, A i → Lfp (Y.F (Y.Lv N') i) (f i)) → Goal Y N' n A f)
    (f : Nat → Y.Node) (hf : ∀ j, j < n → Lfp (FA Y A (Y.Lv N) j) (f j) ∧ FA Y A (Y.Lv N) j (fun a => Goal Y N n A (upd f j a) ∧ Lfp (FA Y A (Y.Lv N) j) a) (f j)) : Goal Y N n A f := by
  intro M
  induction M using Nat.strongRecOn with
  | _ M ihM =>
  intro G w t gs sl q h hΦ hn hM
  obtain ⟨i, x, d, sl', hx, hxr, hst⟩ := crowd_pick (P := Y.P) (w := w) (sl := sl) h.awake (h.anyone L)
  have hlt : i < gs.size := (Array.getElem?_eq_some_iff.1 hx).1
  have hsz1 : ∀ (fw : Goroutine → Goroutine) (y : Goroutine), ((gs.map fw).setIfInBounds i y).size = gs.size := fun fw y => by simp
  by_cases ha : Y.act G i
  · -- ONE AT WORK
    obtain ⟨hA, hin⟩ := hn i ha
    obtain ⟨hl, hF⟩ := hf i hin
    have hF := hF hA
    obtain ⟨s1, s2, x', s3, e1, e2, e3, _⟩ := h.stand i ha
    rw [hx] at s3
    cases s3
    have hsame : ∀ w, stepG Y.P (i == 0) x w = stepG Y.P (i == 0) (f i).2.1 w := fun w => stepG_same e1 e2 e3 w
    have hmw : mayWake Y.P x = mayWake Y.P (f i).2.1 := mayWake_same e1
    have hgd := L.draw d h.gi
    obtain ⟨⟨r1, r2, r3⟩, hF⟩ := hF
    rcases hF with ⟨rfl, _, hfin⟩ | ⟨hch, hp⟩ | ⟨hch, hs⟩ | ⟨hi0, hch, hr⟩ | ⟨rfl, v, hch, hsd⟩
    · exact finish_cfg L h hx hxr hfin
    · -- a step that concerns nobody else
      obtain ⟨g', w', es, g1, g2, g3, g3t, g4, _⟩ := hp (w.at d) (by rw [s1]; exact s2.at d)
      have hrunT := runT_crowd_go (P := Y.P) (sl := sl') (i := i) hx ((hsame _).trans g1)
      have g3' := g3
      rw [s1] at g3'
      refine Arrives.step (hst.trans hrunT) ?_
      refine g4 _ (Y.growG G i (w.at d).heap.size w'.heap.size) w' _ _ sl' q (h.go L rfl hx (.inl g2) (L.priv _ _ hgd ha g3' (by rw [← s1]; exact g3t)) (L.grow_sz ..) (fun j hj => ⟨L.grow_ne _ _ _ _ _ hj, L.grow_act .., fun haj => ⟨g3'.size, fun b hb => ?_⟩⟩)
        (.inr ⟨fun j hj => L.grow_PK _ _ _ _ _ hj, L.grow_cl ..⟩) ((L.grow_act ..).2 h.main) (fun _ => ⟨by rw [s1, L.grow_lo], rfl, rfl⟩) (fun _ _ => rfl) (fun hna => absurd ((L.grow_act ..).2 ha) hna))
        (by rw [L.grow_Φ]; exact hΦ) (fun j hj => hn j ((L.grow_act ..).1 hj)) (Nat.le_refl _)
      exact g3'.block b (fun hi => L.apart hgd ha haj (Ne.symm hj) hi hb) (L.old hgd haj hb)
    · -- a step that touches what is shared
      rcases hs G (w.at d) t hgd ha s1.symm (by rw [s1]; exact s2.at d) with ⟨g', w', es, G', g1, g2, g3, g4, g5, g6, g7, g8⟩ | ⟨g1, g2⟩ | ⟨rfl, g', child, w', es, g1, g2⟩
      · have hrunT := runT_crowd_go (P := Y.P) (sl := sl') (i := i) hx ((hsame _).trans g1)
        refine Arrives.step (hst.trans hrunT) ?_
        have e4 : MemOp.ofEvents i x.frame.fn x.frame.place es = MemOp.ofEvents i (f i).2.1.frame.fn (f i).2.1.frame.place es := by rw [e1]
        have hact : ∀ j, j ≠ i → (Y.act G' j ↔ Y.act G j) := fun j hj => (g5 j hj).2.1
        have hmain : Y.act G' 0 := by
          rcases g8 with ⟨a, _⟩ | ⟨_, b, _⟩
          · by_cases e : (0 : Nat) = i
            · rw [e]; exact a
            · exact (hact 0 e).2 h.main
          · exact (hact 0 (Ne.symm b)).2 h.main
        have hwk : (mayWake Y.P x = true ∧ g'.status = .running) ∨ ((∀ j, Y.PK G j → Y.PK G' j) ∧ Y.cl G' = Y.cl G) := g6.imp (fun a => ⟨hmw.trans a, g2⟩) id
        have hn' : ∀ j, Y.act G' j → A j ∧ j < n := fun j hj => by
          by_cases e : j = i
          · rw [e]; exact ⟨hA, hin⟩
          · exact hn j ((hact j e).1 hj)
        rcases g8 with ⟨a, b | ⟨b, c⟩⟩ | ⟨a, b, c⟩
        · exact b.1 _ G' w' _ _ sl' q (h.go L rfl hx (.inl g2) (by rw [e4]; exact g3) g4 g5 hwk hmain (fun _ => ⟨rfl, rfl, rfl⟩) (fun _ _ => rfl) (fun hna => absurd a hna)) (by omega) hn' (Nat.le_refl _)
        · obtain ⟨N', rfl⟩ : ∃ N', N = N' + 1 := ⟨N - 1, by omega⟩
          refine ih N' (by omega) (fun i => A i ∧ i < n) n (upd f i (Y.lo G' i, g', w')) (fun j hj => ?_) _ G' w' _ _ sl' q (h.go L rfl hx (.inl g2) (by rw [e4]; exact g3) g4 g5 hwk hmain (fun _ => ⟨rfl, rfl, rfl⟩) (fun _ _ => rfl) (fun hna => absurd a hna)) (by omega) (fun j hj => ⟨hn' j hj, (hn' j hj).2⟩) (Nat.le_refl _)
          by_cases e : j = i
          · subst e; rw [upd_same]; exact c
          · rw [upd_ne _ _ e]; exact node_mono (FA.get hj.1 (hf j hj.2).1)
        · -- it only leaves from now on
          obtain ⟨hd, k, c⟩ := c
          obtain ⟨N', rfl⟩ : ∃ N', N = N' + 1 := ⟨N - 1, by omega⟩
          refine ih N' (by omega) (fun j => (A j ∧ j < n) ∧ j ≠ i) n (upd f i (f i)) (fun j hj => ?_) _ G' w' _ _ sl' (upd q i k) (h.go L rfl hx (.inl g2) (by rw [e4]; exact g3) g4 g5 hwk hmain (fun hna => absurd hna a) (fun j hj => upd_ne q k hj) (fun _ => ?_)) (by omega)
            (fun j hj => ⟨⟨hn' j hj, fun e => a (e ▸ hj)⟩, (hn' j hj).2⟩) (Nat.le_refl _)
          · rw [upd_ne _ _ hj.2]; exact node_mono (FA.get hj.1.1 (hf j hj.1.2).1)
          · rw [upd_same, L.hears h.gi ha]; exact c
      · -- it is blocked
        have hrunT := runT_crowd_go (P := Y.P) (sl := sl') (i := i) hx ((hsame _).trans g1)
        have ew : (gs.map (Conc.woken Y.P x { (f i).2.1 with status := .blocked } (w.at d))) = gs := by
          have : Conc.woken Y.P x { (f i).2.1 with status := .blocked } (w.at d) = id := by funext o; unfold Conc.woken; simp
          rw [this]; simp
        rw [ew, ofEvents_none] at hrunT
        refine Arrives.step (hst.trans hrunT) ?_
        rw [Array.append_empty]
        have hr := runs_set hx hxr (y := { (f i).2.1 with status := .blocked }) (by simp)
        refine ihM _ (Nat.lt_of_lt_of_le (Nat.add_lt_add_left hr _) hM) G (w.at d) t _ sl' q (h.park L (p := { (f i).2.1 with status := .blocked }) ha hx ⟨rfl, rfl, rfl, .inr (.inl ⟨rfl, r2, g2⟩)⟩ (fun ho => absurd r2 ho) (fun ho => absurd r2 ho)) hΦ hn ?_
        rw [Array.size_setIfInBounds]
        exact Nat.le_refl _
      · -- a go statement
        have hrunT := runT_crowd_spawn (P := Y.P) (sl := sl') (i := 0) hx ((hsame _).trans g1)
        refine Arrives.step (hst.trans hrunT) ?_
        obtain ⟨G', a1, a2, a3, a4, a5, a6, a7, a8, a9, a10⟩ := g2 child.frame.fn
        obtain ⟨N', rfl⟩ : ∃ N', N = N' + 1 := ⟨N - 1, by omega⟩
        have hsz := h.sz
        have hlt0 : 0 < Y.sz G := by omega
        have a9' := Lfp.unfold (Pro.F.mono Y (Y.Lv N') 0) (show Lfp (Y.F (Y.Lv N') 0) _ from a9)
        have a10' := Lfp.unfold (Pro.F.mono Y (Y.Lv N') (Y.sz G)) (show Lfp (Y.F (Y.Lv N') (Y.sz G)) _ from a10)
        have etr : t ++ ((MemOp.ofEvents 0 x.frame.fn x.frame.place es).push { g := 0, fn := x.frame.fn, pos := x.frame.place, act := .go gs.size } |>.push { g := gs.size, fn := child.frame.fn, pos := x.frame.place, act := .start }) =
            ((t ++ MemOp.ofEvents 0 (f 0).2.1.frame.fn (f 0).2.1.frame.place es).push { g := 0, fn := (f 0).2.1.frame.fn, pos := (f 0).2.1.frame.place, act := .go (Y.sz G) }).push { g := Y.sz G, fn := child.frame.fn, pos := (f 0).2.1.frame.place, act := .start } := by
          rw [e1, hsz, Array.append_push, Array.append_push]
        have hu : ∀ j, Deaf (t ++ ((MemOp.ofEvents 0 x.frame.fn x.frame.place es).push { g := 0, fn := x.frame.fn, pos := x.frame.place, act := .go gs.size } |>.push { g := gs.size, fn := child.frame.fn, pos := x.frame.place, act := .start })) j =
            if j = 0 then Deaf (t ++ ((MemOp.ofEvents 0 x.frame.fn x.frame.place es).push { g := 0, fn := x.frame.fn, pos := x.frame.place, act := .go gs.size } |>.push { g := gs.size, fn := child.frame.fn, pos := x.frame.place, act := .start })) 0 else Deaf t j := by
          intro j
          by_cases hj : j = 0
          · rw [if_pos hj, hj]
          · rw [if_neg hj]
            have e5 : ((MemOp.ofEvents 0 x.frame.fn x.frame.place es).push { g := 0, fn := x.frame.fn, pos := x.frame.place, act := .go gs.size } |>.push { g := gs.size, fn := child.frame.fn, pos := x.frame.place, act := .start }) =
              MemOp.ofEvents 0 x.frame.fn x.frame.place es ++ #[{ g := 0, fn := x.frame.fn, pos := x.frame.place, act := .go gs.size }, { g := gs.size, fn := child.frame.fn, pos := x.frame.place, act := .start }] := by
              apply Array.toList_inj.1; simp
            rw [e5, ← Array.append_assoc, Go.ConcN.Deaf_still _ _ _ (by intro op hop; simp at hop; rcases hop with rfl | rfl <;> simp)]
            exact Deaf_other t (fun e => hj e.symm) _ g_ofEvents
        refine ih N' (by omega) (fun j => (A j ∧ j < n) ∨ j = 0 ∨ j = Y.sz G) (max n (Y.sz G + 1)) (upd (upd f 0 (Y.lo G' 0, g', w')) (Y.sz G) (Y.lo G' (Y.sz G), child, w')) (fun j hj => ?_) _ G' w' _ _ sl' q
          (h.spawn rfl hx a9'.1.1 a10'.1.1 (by rw [etr]; exact a1) a2 hu a6 a3 a4 a7 a8 ⟨rfl, rfl, rfl⟩ ⟨rfl, rfl, rfl⟩) (by omega) (fun j hj => ?_) (Nat.le_refl _)
        · by_cases hjc : j = Y.sz G
          · subst hjc; rw [upd_same]; exact a10
          · rw [upd_ne _ _ hjc]
            by_cases hj0 : j = 0
            · subst hj0; rw [upd_same]; exact a9
            · rw [upd_ne _ _ hj0]
              rcases hj with hj | hj | hj
              · exact node_mono (FA.get hj.1 (hf j hj.2).1)
              · exact absurd hj hj0
              · exact absurd hj hjc
        · by_cases hjc : j = Y.sz G
          · exact ⟨.inr (.inr hjc), by omega⟩
          · by_cases hj0 : j = 0
            · exact ⟨.inr (.inl hj0), by omega⟩
            · have := hn j ((a6 j hj0 hjc).2.1.1 hj)
              exact ⟨.inl this, by omega⟩
    · -- A RECEIVE
      rw [s1] at hch
      obtain ⟨⟨cs, cr, hc⟩, hcown⟩ := L.chan hgd ha (by rw [hch]; simp)
      have hib : (i == 0) = false := by simpa using hi0
      obtain ⟨z, z1, z2, z3⟩ := hr (w.at d) (by rw [s1]; exact s2.at d)
      have hcomm : stepG Y.P (i == 0) x (w.at d) = .comm (f i).2.1 #[rcase Y.c z] true (.recv true) (w.at d) #[] := by rw [hsame, hib]; exact z1
      obtain ⟨_, _, x0, hx0, t1, t2, t3, st0⟩ := h.stand 0 h.main
      have hstand0 : ∀ k y, (gs.setIfInBounds i ph)[k]? = some y → k ≠ 0 → offersAt y Y.c true = [] := by
        intro k y hy hk
        rcases getElem?_stand gs i k y hy with ⟨_, rfl⟩ | ⟨_, hy⟩
        · rfl
        · exact h.senders hy hk
      by_cases hpk : x0.status = .blocked ∧ x0.offers ≠ none
      · -- goroutine 0 waits with a value
        obtain ⟨hb0, ho0⟩ := hpk
        obtain ⟨_, ⟨e, _⟩ | ⟨_, v, z0, hv, hx0e⟩⟩ := h.offer hx0 hb0 ho0
        · exact absurd rfl e
        obtain ⟨_, hclf⟩ := L.only0 hgd h.main hv
        rw [hclf] at hc
        have hps : partners (gs.setIfInBounds i ph) Y.c true = [(0, 0)] := by
          rw [partners_one (j := 0) (g := x0) (by rw [waits_rec (Ne.symm hi0)]; exact hx0) (fun k y hk hy => hstand0 k y hy hk), hx0e, offersAt_parked_send]
          simp
        have hrunT := crowd_recv_meets (P := Y.P) (sl := sl') hx hcomm hc (Ne.symm hi0) (by rw [hx0, hx0e]) hps
        rw [finishComm_send, finishComm_recv, ofEvents_none] at hrunT
        refine Arrives.step (hst.trans hrunT) ?_
        obtain ⟨hA0, h0n⟩ := hn 0 h.main
        obtain ⟨hm1, hm2⟩ := hf 0 h0n
        have m1 := (h.stand 0 h.main).1
        have m2 := (h.stand 0 h.main).2.1
        have hsend : ∀ l', Y.sent (Y.lo G 0) l' → Y.Lv N 0 (l', Conc.served (f 0).2.1 undef, w) := by
          obtain ⟨_, hF0⟩ := hm2 hA0
          rcases hF0 with ⟨_, e, _⟩ | ⟨e, _⟩ | ⟨e, _⟩ | ⟨e, _⟩ | ⟨_, v', _, hs0⟩
          · rw [m1, hv] at e; cases e
          · rw [m1, hv] at e; cases e
          · rw [m1, hv] at e; cases e
          · exact absurd rfl e
          · obtain ⟨_, _, b⟩ := hs0 w (by rw [m1]; exact m2)
            rw [m1] at b; exact b
        have hgot : ∀ l', Y.got (Y.lo G i) v l' → Y.Lv N i (l', Conc.served (f i).2.1 (recvd true v true), w) := by
          obtain ⟨zz, _, b, _⟩ := hr w (by rw [s1]; exact s2)
          intro l' hl
          exact b v l' (by rw [s1]; exact hl)
        have := meet_goal L ih (fun j hA hj => FA.get hA (hf j hj).1) (sl := sl') (d := d) (f0 := (f 0).2.1.frame.fn) (fk := (f i).2.1.frame.fn) (p0 := (f 0).2.1.frame.place) (pk := (f i).2.1.frame.place) h hΦ hn ha hi0 hv hch hc hx0 hx hsend hgot
        rw [set_comm hi0] at this
        rw [Array.empty_append]
        exact this
      · have hno0 : offersAt x0 Y.c true = [] := offersAt_none (by
          by_cases hb : x0.status = .blocked
          · exact .inr (Classical.byContradiction fun ho => hpk ⟨hb, ho⟩)
          · exact .inl hb)
        have hps : partners (gs.setIfInBounds i ph) Y.c true = [] := partners_nil fun k y hy => by
          by_cases hk : k = 0
          · subst hk
            rw [waits_rec (Ne.symm hi0), hx0] at hy
            cases hy
            exact hno0
          · exact hstand0 k y hy hk
        cases hcl : Y.cl G with
        | true =>
          rw [hcl] at hc
          have hrunT := crowd_recv_closed (P := Y.P) (sl := sl') hx hcomm hc hps
          rw [finishComm_recv, ofEvents_none] at hrunT
          refine Arrives.step (hst.trans hrunT) ?_
          obtain ⟨G', c1, c2, c3, c4, c5, c6, c7, c8⟩ := L.closed (f i).2.1.frame.fn (f i).2.1.frame.place hgd ha hi0 hch hcl
          rw [Array.empty_append]
          refine (z3 (Y.lo G' i) (by rw [s1]; exact c3)).1 _ G' (w.at d) _ _ sl' q (h.put L ha hx rfl c1 c4 (by intro op hop; simp at hop; subst hop; simp) (fun j hj => ⟨c7 j hj, fun _ => View.refl _ _⟩) c6 c8 c5 ⟨rfl, rfl, View.refl _ _⟩) (by omega)
            (fun j hj => hn j ((c6 j).1 hj)) (Nat.le_refl _)
        | false =>
          rw [hcl] at hc
          have hrunT := crowd_waits (P := Y.P) (sl := sl') hx hcomm (by intro cc hcc; simp at hcc; subst hcc; exact ways_recv_none hc hps)
          rw [ofEvents_none] at hrunT
          refine Arrives.step (hst.trans hrunT) ?_
          rw [Array.append_empty]
          have hr' := runs_set hx hxr (y := parked (f i).2.1 #[rcase Y.c z] (.recv true)) (by simp [parked])
          refine ihM _ (Nat.lt_of_lt_of_le (Nat.add_lt_add_left hr' _) hM) G (w.at d) t _ sl' q (h.park L ha hx ⟨rfl, rfl, rfl, .inr (.inr (.inl ⟨rfl, hi0, hch, z, rfl⟩))⟩ (fun _ k y hy hk hk0 _ hb ho => ?_) (fun _ _ => hcl)) hΦ hn ?_
          · rcases hk0 with rfl | e
            · rw [hx0] at hy; cases hy
              exact hpk ⟨hb, ho⟩
            · exact hi0 e
          · rw [Array.size_setIfInBounds]; exact Nat.le_refl _
    · -- A SEND
      rw [s1] at hch
      obtain ⟨⟨cs, cr, hc⟩, hcown⟩ := L.chan hgd ha (by rw [hch]; simp)
      obtain ⟨_, hclf⟩ := L.only0 hgd ha hch
      rw [hclf] at hc
      obtain ⟨z, z1, z2⟩ := hsd (w.at d) (by rw [s1]; exact s2.at d)
      have hcomm : stepG Y.P (0 == 0) x (w.at d) = .comm (f 0).2.1 #[scase Y.c v z] true .send (w.at d) #[] := by rw [hsame]; exact z1
      by_cases hps : partners (gs.setIfInBounds 0 ph) Y.c false = []
      · have hrunT := crowd_waits (P := Y.P) (sl := sl') hx hcomm (by intro cc hcc; simp at hcc; subst hcc; exact ways_send_none hc (Nat.zero_le _) hps)
        rw [ofEvents_none] at hrunT
        refine Arrives.step (hst.trans hrunT) ?_
        rw [Array.append_empty]
        have hr' := runs_set hx hxr (y := parked (f 0).2.1 #[scase Y.c v z] .send) (by simp [parked])
        refine ihM _ (Nat.lt_of_lt_of_le (Nat.add_lt_add_left hr' _) hM) G (w.at d) t _ sl' q (h.park L ha hx ⟨rfl, rfl, rfl, .inr (.inr (.inr ⟨rfl, rfl, v, z, hch, rfl⟩))⟩ (fun _ k y hy hk _ _ hb ho => ?_) (fun _ e => absurd rfl e)) hΦ hn ?_
        · obtain ⟨_, ⟨_, _, zz, hye⟩ | ⟨e, _⟩⟩ := h.offer hy hb ho
          · have : (k, 0) ∈ partners (gs.setIfInBounds 0 ph) Y.c false := mem_partners.2 ⟨y, by rw [waits_rec hk]; exact hy, by rw [hye, offersAt_parked_recv]; simp⟩
            rw [hps] at this; cases this
          · exact hk e
        · rw [Array.size_setIfInBounds]; exact Nat.le_refl _
      · have hall : ∀ j k, (j, k) ∈ partners (gs.setIfInBounds 0 ph) Y.c false → k = 0 ∧ j ≠ 0 ∧ ∃ gj zj shj, gs[j]? = some (parked gj #[rcase Y.c zj] shj) := by
          intro j k hm
          obtain ⟨y, hy, hk⟩ := mem_partners.1 hm
          rcases getElem?_stand gs 0 j y hy with ⟨_, rfl⟩ | ⟨hj, hy⟩
          · rw [offersAt_ph] at hk; cases hk
          · by_cases hb : y.status = .blocked ∧ y.offers ≠ none
            · obtain ⟨_, ⟨_, _, zz, hye⟩ | ⟨e, _⟩⟩ := h.offer hy hb.1 hb.2
              · rw [hye, offersAt_parked_recv, if_pos rfl] at hk
                simp at hk
                exact ⟨hk, hj, _, zz, _, by rw [hy, hye]⟩
              · exact absurd e hj
            · rw [offersAt_none (by
                by_cases h1 : y.status = .blocked
                · exact .inr (Classical.byContradiction fun ho => hb ⟨h1, ho⟩)
                · exact .inl h1)] at hk
              cases hk
        obtain ⟨j, gj, zj, shj, d', hj0, hgj, hrunT⟩ := crowd_send_meets_some (P := Y.P) (sl := sl') hx hcomm hc hps hall
        obtain ⟨haj, ⟨_, hrj, zz, hye⟩ | ⟨e, _⟩⟩ := h.offer hgj (by simp [parked]) (by simp [parked])
        · obtain ⟨q1, q2, _, q4⟩ := parked_served hye (recvd true v true)
          subst q2
          rw [finishComm_send, finishComm_recv, ofEvents_none, q1] at hrunT
          refine Arrives.step (hst.trans hrunT) ?_
          obtain ⟨hAj, hjn⟩ := hn j haj
          obtain ⟨hm1, hm2⟩ := hf j hjn
          have m1 := (h.stand j haj).1
          have m2 := (h.stand j haj).2.1
          have hgot : ∀ l', Y.got (Y.lo G j) v l' → Y.Lv N j (l', Conc.served (f j).2.1 (recvd true v true), w) := by
            obtain ⟨_, hFj⟩ := hm2 hAj
            rcases hFj with ⟨_, e, _⟩ | ⟨e, _⟩ | ⟨e, _⟩ | ⟨_, _, hs0⟩ | ⟨e, _⟩
            · rw [m1, hrj] at e; cases e
            · rw [m1, hrj] at e; cases e
            · rw [m1, hrj] at e; cases e
            · obtain ⟨_, _, b, _⟩ := hs0 w (by rw [m1]; exact m2)
              intro l' hl
              exact b v l' (by rw [m1]; exact hl)
            · exact absurd e hj0
          have hsend : ∀ l', Y.sent (Y.lo G 0) l' → Y.Lv N 0 (l', Conc.served (f 0).2.1 undef, w) := by
            obtain ⟨zz', _, b⟩ := hsd w (by rw [s1]; exact s2)
            intro l' hl
            exact b l' (by rw [s1]; exact hl)
          have := meet_goal L ih (fun k hA hk => FA.get hA (hf k hk).1) (sl := sl') (d := d') (f0 := (f 0).2.1.frame.fn) (fk := gj.frame.fn) (p0 := (f 0).2.1.frame.place) (pk := gj.frame.place) h hΦ hn haj hj0 hch hrj (s := cs) (r := cr) (by simpa [World.at] using hc) hx hgj hsend hgot
          rw [Array.empty_append]
          exact this
        · exact absurd e hj0
  · -- ONE THAT ONLY LEAVES
    have hq := h.quit i x ha hx
    have hi0 : i ≠ 0 := fun e => ha (e ▸ h.main)
    cases hqi : q i with
    | zero => rw [hqi] at hq; rw [hq.1] at hxr; cases hxr
    | succ k =>
      rw [hqi] at hq
      rcases hq with ⟨hfi, _⟩ | ⟨_, g', es, hm, hstp, hq'⟩
      · rw [hfi] at hxr; cases hxr
      have hb : (i == 0) = false := by simpa using hi0
      have hrunT := runT_crowd_go (P := Y.P) (sl := sl') (i := i) hx (by rw [hb]; exact hstp (w.at d))
      refine Arrives.step (hst.trans hrunT) ?_
      obtain ⟨M', hM', hle⟩ := meas_leave hlt hqi (r' := runs ((gs.map (Conc.woken Y.P x g' (w.at d))).setIfInBounds i g')) (by have := runs_le ((gs.map (Conc.woken Y.P x g' (w.at d))).setIfInBounds i g'); rw [hsz1] at this; exact this) hM
      refine ihM M' hM' G (w.at d) _ _ sl' (upd q i k) ?_ hΦ hn (by rw [hsz1]; exact hle)
      have := h.go L (q' := upd q i k) (n' := f i) rfl hx (hq'.status.imp id fun a => ⟨a, ha⟩) (L.mute x.frame.fn x.frame.place (L.draw d h.gi) ha hi0 (by rw [h.sz]; exact hlt) hm) rfl (fun j _ => ⟨rfl, Iff.rfl, fun _ => View.refl _ _⟩) (.inr ⟨fun _ a => a, rfl⟩) h.main (fun a => absurd a ha)
        (fun j hj => upd_ne q k hj) (fun _ => by rw [upd_same]; exact hq')
      have e : upd f i (f i) = f := by funext j; by_cases e : j = i <;> simp [upd, e]
      rw [e] at this
      exact this
theorem company (L : Y.Laws) : ∀ (N : Nat) (A : Nat → Prop) (n : Nat) (f : Nat → Y.Node), (∀ i, A i → Lfp (Y.F (Y.Lv N) i) (f i)) → Goal Y N n A f := by
  intro N
  induction N using Nat.strongRecOn with
  | _ N ih =>
  intro A n f hf
  exact prod_ind (F := fun i => FA Y A (Y.Lv N) i) (fun i => FA.mono A _ i) (n := n) (fun f h => company_step L ih f h) f fun j _ => FA.of (hf j)
end Go.Co

namespace Go.Co
open Go Go.Conc
structure Dis where
  W : Nat → Loc → Prop
  R : Nat → Loc → Prop
  A : Nat → Loc → Prop
  S : Nat → Loc → Prop
structure TI (D : Dis) (B : Nat) (t : Trace) : Prop where
  clean : ∀ said, ¬ Race said t
  W : ∀ g l i a, D.W g l → touchAt t i = some a → a.loc = l → Knows t g i
  R : ∀ g l i a, D.R g l → touchAt t i = some a → a.loc = l → a.write = true → Knows t g i
  A : ∀ g l i a, D.A g l → touchAt t i = some a → a.loc = l → a.kind = .plain → Knows t g i
  S : ∀ g l i a, D.S g l → touchAt t i = some a → a.loc = l → a.kind = .said → Knows t g i
  seen : ∀ op ∈ t, op.act.low B
def Leg (D : Dis) (g : Nat) (b : Touch) : Prop :=
  (D.W g b.loc ∨ (b.kind = .plain ∧ b.write = false ∧ D.R g b.loc) ∨ (b.kind = .atomic ∧ D.A g b.loc) ∨ (b.kind = .said ∧ D.A g b.loc ∧ D.S g b.loc)) ∧
  ∀ j, j ≠ g → ¬ D.W j b.loc ∧ (b.write = true → ¬ D.R j b.loc) ∧ (b.kind = .plain → ¬ D.A j b.loc) ∧ (b.kind = .said → ¬ D.S j b.loc)
theorem TI.step {D : Dis} {B B' : Nat} {t u : Trace} {g : Nat} (h : TI D B t) (hu : ∀ op ∈ u, op.g = g) (hl : ∀ op ∈ u, ∀ b, op.act.touch? = some b → Leg D g b) (hB : B ≤ B') (hlow : ∀ op ∈ u, op.act.low B') : TI D B' (t ++ u) := by
  have split : ∀ i a, touchAt (t ++ u) i = some a → (touchAt t i = some a) ∨ (∃ op ∈ u, op.act.touch? = some a ∧ (t ++ u)[i]? = some op) := by
    intro i a ha
    obtain ⟨x, hx, hxa⟩ := touch_of ha
    rcases getElem?_append_cases hx with ⟨_, hx'⟩ | ⟨_, hxu⟩
    · exact .inl (by rw [touchAt_of hx']; exact hxa)
    · exact .inr ⟨x, hxu, hxa, hx⟩
  refine ⟨fun said => noRace_append (h.clean said) hu fun i a ha op hop b hb hc => ?_, ?_, ?_, ?_, ?_, fun op hop => (Array.mem_append.1 hop).elim (fun x => MemAct.low_mono hB (h.seen op x)) (hlow op)⟩
  · obtain ⟨h1, _⟩ := hl op hop b hb
    obtain ⟨c1, c2, c3, c4⟩ := hc
    rcases h1 with k | ⟨k1, k2, k3⟩ | ⟨k1, k2⟩ | ⟨k1, k2, k3⟩
    · exact h.W g b.loc i a k ha c1
    · refine h.R g b.loc i a k3 ha c1 ?_
      rcases c3 with c | c
      · exact c
      · rw [k2] at c; cases c
    · refine h.A g b.loc i a k2 ha c1 ?_
      rw [k1] at c4
      rcases c4 with c | c | ⟨_, _, c⟩
      · exact c
      · cases c
      · cases c
    · rcases c4 with c | c | ⟨_, c, _⟩
      · exact h.A g b.loc i a k2 ha c1 c
      · rw [k1] at c; cases c
      · exact h.S g b.loc i a k3 ha c1 c
  · intro j l i a hw ha hal
    rcases split i a ha with ha | ⟨op, hop, hoa, hi⟩
    · exact (h.W j l i a hw ha hal).app u
    · by_cases e : j = g
      · have := knows_own hi; rw [hu op hop] at this; rw [e]; exact this
      · exact absurd (hal ▸ hw) ((hl op hop a hoa).2 j e).1
  · intro j l i a hw ha hal hwr
    rcases split i a ha with ha | ⟨op, hop, hoa, hi⟩
    · exact (h.R j l i a hw ha hal hwr).app u
    · by_cases e : j = g
      · have := knows_own hi; rw [hu op hop] at this; rw [e]; exact this
      · exact absurd (hal ▸ hw) (((hl op hop a hoa).2 j e).2.1 hwr)
  · intro j l i a hw ha hal hwr
    rcases split i a ha with ha | ⟨op, hop, hoa, hi⟩
    · exact (h.A j l i a hw ha hal hwr).app u
    · by_cases e : j = g
      · have := knows_own hi; rw [hu op hop] at this; rw [e]; exact this
      · exact absurd (hal ▸ hw) (((hl op hop a hoa).2 j e).2.2.1 hwr)
  · intro j l i a hw ha hal hwr
    rcases split i a ha with ha | ⟨op, hop, hoa, hi⟩
    · exact (h.S j l i a hw ha hal hwr).app u
    · by_cases e : j = g
      · have := knows_own hi; rw [hu op hop] at this; rw [e]; exact this
      · exact absurd (hal ▸ hw) (((hl op hop a hoa).2 j e).2.2.2 hwr)
theorem TI.mute {D : Dis} {B B' : Nat} {t u : Trace} (h : TI D B t) (hu : ∀ op ∈ u, op.act.touch? = none) (hB : B ≤ B') (hlow : ∀ op ∈ u, op.act.low B') : TI D B' (t ++ u) := by
  have split : ∀ i a, touchAt (t ++ u) i = some a → touchAt t i = some a := by
    intro i a ha
    obtain ⟨x, hx, hxa⟩ := touch_of ha
    rcases getElem?_append_cases hx with ⟨_, hx'⟩ | ⟨_, hxu⟩
    · rw [touchAt_of hx']; exact hxa
    · rw [hu x hxu] at hxa; cases hxa
  refine ⟨fun said => ?_, fun j l i a hw ha hal => (h.W j l i a hw (split i a ha) hal).app u, fun j l i a hw ha hal k => (h.R j l i a hw (split i a ha) hal k).app u, fun j l i a hw ha hal k => (h.A j l i a hw (split i a ha) hal k).app u,
    fun j l i a hw ha hal k => (h.S j l i a hw (split i a ha) hal k).app u, fun op hop => (Array.mem_append.1 hop).elim (fun x => MemAct.low_mono hB (h.seen op x)) (hlow op)⟩
  rintro ⟨i, j, hij, ⟨a, b, ha, hb, hc⟩, n1, n2⟩
  have ha' := split i a ha
  have hb' := split j b hb
  exact h.clean said ⟨i, j, hij, ⟨a, b, ha', hb', hc⟩, fun e => n1 (hb_app u e), fun e => n2 (hb_app u e)⟩
theorem TI.change {D D' : Dis} {B : Nat} {t : Trace} (h : TI D B t) (hW : ∀ g l, D'.W g l → D.W g l ∨ ∀ i a, touchAt t i = some a → a.loc = l → Knows t g i)
    (hR : ∀ g l, D'.R g l → D.R g l ∨ ∀ i a, touchAt t i = some a → a.loc = l → a.write = true → Knows t g i)
    (hA : ∀ g l, D'.A g l → D.A g l ∨ ∀ i a, touchAt t i = some a → a.loc = l → a.kind = .plain → Knows t g i)
    (hS : ∀ g l, D'.S g l → D.S g l ∨ ∀ i a, touchAt t i = some a → a.loc = l → a.kind = .said → Knows t g i) : TI D' B t :=
  ⟨h.clean, fun g l i a k => (hW g l k).elim (fun k => h.W g l i a k) fun k => k i a, fun g l i a k => (hR g l k).elim (fun k => h.R g l i a k) fun k => k i a,
   fun g l i a k => (hA g l k).elim (fun k => h.A g l i a k) fun k => k i a, fun g l i a k => (hS g l k).elim (fun k => h.S g l i a k) fun k => k i a, h.seen⟩
theorem TI.fresh {D : Dis} {B : Nat} {t : Trace} (h : TI D B t) {i : Nat} {a : Touch} (ha : touchAt t i = some a) : a.loc.low B := by
  obtain ⟨x, hx, hxa⟩ := touch_of ha
  have hs := h.seen x (Array.mem_of_getElem? hx)
  obtain ⟨g, fn, pos, act⟩ := x
  cases act with
  | access e => simp only [MemAct.touch?, Option.some.injEq] at hxa; subst hxa; exact hs
  | mark m => cases m <;> simp [MemAct.touch?] at hxa <;> (subst hxa; exact hs)
  | _ => simp [MemAct.touch?] at hxa
theorem TI.at {D : Dis} {B B' : Nat} {t : Trace} (h : TI D B t) (hB : B ≤ B') : TI D B' t := ⟨h.clean, h.W, h.R, h.A, h.S, fun op hop => MemAct.low_mono hB (h.seen op hop)⟩
theorem heard_new {t u : Trace} {y : MemOp} (hy : (t ++ u)[t.size]? = some y) (hd : Deaf t y.g = 0) : (t ++ u).heard t.size := by
  refine ⟨y.g, ?_, ?_⟩
  · unfold Trace.g?; rw [hy]; rfl
  · rw [deaf_old (Nat.le_refl _)]; exact hd
theorem Knows.spawn {t : Trace} {i g k : Nat} {x y : MemOp} (h : Knows t g i) (hx : x.g = g ∧ x.act = .go k) (hy : y.g = k ∧ y.act = .start) (hd : Deaf t g = 0) (hk : Deaf t k = 0) (hgk : g ≠ k) : Knows ((t.push x).push y) k i := by
  have e : (t.push x).push y = t ++ #[x, y] := by apply Array.toList_inj.1; simp
  rw [e]
  have hx' : (t ++ #[x, y])[t.size]? = some x := by rw [Array.getElem?_append_right (Nat.le_refl _)]; simp
  have hy' : (t ++ #[x, y])[t.size + 1]? = some y := by rw [Array.getElem?_append_right (by omega)]; simp
  have e1 : (t ++ #[x, y]).heard t.size := ⟨g, by simp [Trace.g?, hx.1], by rw [deaf_old (Nat.le_refl _)]; exact hd⟩
  have e2 : (t ++ #[x, y]).heard (t.size + 1) := by
    refine ⟨k, by simp [Trace.g?, hy.1], ?_⟩
    have e4 : t ++ #[x, y] = (t ++ #[x]) ++ #[y] := by apply Array.toList_inj.1; simp
    have h3 : (t ++ #[x, y]).deaf k (t.size + 1) = Deaf (t ++ #[x]) k := by
      rw [e4]
      have : (t ++ #[x]).size = t.size + 1 := by simp
      rw [← this, deaf_old (Nat.le_refl _)]; rfl
    rw [h3, Deaf_other t (g' := g) hgk _ (by intro op hop; simp at hop; subst hop; exact hx.1)]
    exact hk
  refine ⟨t.size + 1, y, hy', hy.1, .inr ((h.hb_new (Nat.le_refl _) hx' hx.1).trans (.single (.inr ⟨.spawn (child := k) (by rw [act?_of hx', hx.2]) (by rw [act?_of hy', hy.2]) (by simp [Trace.g?, hy.1]), e1, e2⟩)))⟩
theorem LastWrite.knows' {t : Trace} {a : Addr} {p : Nat} {y : MemOp} (h : LastWrite t a p) (hp : t.heard p) (hd : Deaf t y.g = 0) (hy : y.act = .access ⟨.cell a, false, true⟩) : Knows (t ++ #[y]) y.g p := by
  have hlast : (t ++ #[y])[t.size]? = some y := by rw [Array.getElem?_append_right (Nat.le_refl _)]; simp
  have hps := lt_of_act? h.1
  have e1 : (t ++ #[y]).heard p := by
    obtain ⟨g, hg, hdf⟩ := hp
    refine ⟨g, ?_, by rw [deaf_old (Nat.le_of_lt hps)]; exact hdf⟩
    unfold Trace.g? at hg ⊢
    rw [getElem?_append_old hps]; exact hg
  have e2 : (t ++ #[y]).heard t.size := ⟨y.g, by simp [Trace.g?], by rw [deaf_old (Nat.le_refl _)]; exact hd⟩
  exact ⟨t.size, y, hlast, rfl, .inr (.single (.inr ⟨.atomic (a := a) hps (by rw [act?_old hps]; exact h.1) (by rw [act?_of hlast, hy]) (fun k sync h1 h2 => by rw [act?_old h2]; exact h.2 k sync h1), e1, e2⟩))⟩
end Go.Co

namespace Go.Co
structure Wd where
  l : Bool
  w : Bool
  s : Bool
  q : Nat
  deriving DecidableEq
def Wd.enc (x : Wd) : Int := ((x.l.toNat + 2 * x.w.toNat + 4 * x.s.toNat + 8 * x.q : Nat) : Int)
inductive Ro where
  | fresh | queued | tok | wok | hand (clear : Bool) | held | relN | owe | relS
  deriving DecidableEq
structure MuI (x : Wd) (s : Nat) (c : Ro → Nat) : Prop where
  l : x.l.toNat = c .held
  norm : x.s = false → c (.hand true) = 0 ∧ c (.hand false) = 0 ∧ c .relS = 0 ∧ x.w.toNat = c .owe + s + c .tok + c .wok ∧ c .queued = x.q + c .owe + s ∧ (0 < c .queued → 1 ≤ x.l.toNat + x.w.toNat + c .relN)
  starv : x.s = true → x.w = false ∧ c .wok = 0 ∧ c .owe = 0 ∧ x.l.toNat + c .relS + s + c .tok + c (.hand true) + c (.hand false) = 1 ∧ c .queued + c .tok + c (.hand true) + c (.hand false) = x.q ∧ 1 ≤ x.q ∧ (1 ≤ c (.hand false) → 2 ≤ x.q)
def is1 (a : Option Ro) (r : Ro) : Nat := if a = some r then 1 else 0
def Mv (c c' : Ro → Nat) (a b : Option Ro) : Prop := ∀ r, c' r + is1 a r = c r + is1 b r
theorem Mv.all {c c' : Ro → Nat} {a b : Option Ro} (h : Mv c c' a b) : c' .held + is1 a .held = c .held + is1 b .held ∧ c' .queued + is1 a .queued = c .queued + is1 b .queued ∧ c' .tok + is1 a .tok = c .tok + is1 b .tok ∧ c' .wok + is1 a .wok = c .wok + is1 b .wok ∧
    c' (.hand true) + is1 a (.hand true) = c (.hand true) + is1 b (.hand true) ∧ c' (.hand false) + is1 a (.hand false) = c (.hand false) + is1 b (.hand false) ∧ c' .relN + is1 a .relN = c .relN + is1 b .relN ∧ c' .owe + is1 a .owe = c .owe + is1 b .owe ∧ c' .relS + is1 a .relS = c .relS + is1 b .relS :=
  ⟨h _, h _, h _, h _, h _, h _, h _, h _, h _⟩
section
variable {x : Wd} {s : Nat} {c c' : Ro → Nat}
theorem MuI.enter (h : MuI x s c) (hm : Mv c c' none (some .fresh)) : MuI x s c' := by
  obtain ⟨m1, m2, m3, m4, m5, m6, m7, m8, m9⟩ := hm.all
  simp [is1] at m1 m2 m3 m4 m5 m6 m7 m8 m9
  exact ⟨by rw [m1]; exact h.l, by rw [m2, m3, m4, m5, m6, m7, m8, m9]; exact h.norm, by rw [m2, m3, m4, m5, m6, m8, m9]; exact h.starv⟩
theorem MuI.fast (h : MuI x s c) (hm : Mv c c' none (some .held)) (hl : x.l = false) (hs : x.s = false) : MuI { x with l := true } s c' := by
  obtain ⟨m1, m2, m3, m4, m5, m6, m7, m8, m9⟩ := hm.all
  simp [is1] at m1 m2 m3 m4 m5 m6 m7 m8 m9
  have hn := h.norm hs
  have hl' := h.l
  refine ⟨by rw [hl] at hl'; simp at hl' ⊢; omega, fun _ => ?_, fun e => by simp [hs] at e⟩
  simp only [Bool.toNat_true]
  rw [m2, m3, m4, m5, m6, m8, m9]; exact ⟨hn.1, hn.2.1, hn.2.2.1, hn.2.2.2.1, hn.2.2.2.2.1, fun _ => by omega⟩
theorem MuI.acq (h : MuI x s c) (hm : Mv c c' (some .fresh) (some .held)) (hl : x.l = false) (hs : x.s = false) : MuI { x with l := true } s c' := by
  obtain ⟨m1, m2, m3, m4, m5, m6, m7, m8, m9⟩ := hm.all
  simp [is1] at m1 m2 m3 m4 m5 m6 m7 m8 m9
  have hn := h.norm hs
  have hl' := h.l
  refine ⟨by rw [hl] at hl'; simp at hl' ⊢; omega, fun _ => ?_, fun e => by simp [hs] at e⟩
  simp only [Bool.toNat_true]
  rw [m2, m3, m4, m5, m6, m8, m9]; exact ⟨hn.1, hn.2.1, hn.2.2.1, hn.2.2.2.1, hn.2.2.2.2.1, fun _ => by omega⟩
theorem MuI.spin (h : MuI x s c) (hm : Mv c c' (some .fresh) (some .wok)) (hw : x.w = false) (hs : x.s = false) : MuI { x with w := true } s c' := by
  obtain ⟨m1, m2, m3, m4, m5, m6, m7, m8, m9⟩ := hm.all
  simp [is1] at m1 m2 m3 m4 m5 m6 m7 m8 m9
  have hn := h.norm hs
  rw [hw] at hn
  simp only [Bool.toNat_false] at hn
  refine ⟨by rw [m1]; exact h.l, fun _ => ?_, fun e => by simp [hs] at e⟩
  simp only [Bool.toNat_true]
  refine ⟨by omega, by omega, by omega, by omega, by omega, fun _ => by omega⟩
theorem MuI.queueF (h : MuI x s c) (hm : Mv c c' (some .fresh) (some .queued)) (hl : x.l = true ∨ x.s = true) : MuI { x with q := x.q + 1 } s c' := by
  obtain ⟨m1, m2, m3, m4, m5, m6, m7, m8, m9⟩ := hm.all
  simp [is1] at m1 m2 m3 m4 m5 m6 m7 m8 m9
  refine ⟨by rw [m1]; exact h.l, fun e => ?_, fun e => ?_⟩
  · have hn := h.norm e
    have : x.l = true := hl.elim id fun e' => by simp at e; rw [e] at e'; cases e'
    rw [this] at hn ⊢
    simp only [Bool.toNat_true] at hn ⊢
    exact ⟨by omega, by omega, by omega, by omega, by omega, fun _ => by omega⟩
  · have hn := h.starv e
    exact ⟨hn.1, by omega, by omega, by simp only; omega, by simp only; omega, by simp only; omega, fun _ => by simp only; omega⟩
theorem MuI.acqW (h : MuI x s c) (hm : Mv c c' (some .wok) (some .held)) (hl : x.l = false) : MuI { x with l := true, w := false } s c' := by
  obtain ⟨m1, m2, m3, m4, m5, m6, m7, m8, m9⟩ := hm.all
  simp [is1] at m1 m2 m3 m4 m5 m6 m7 m8 m9
  have hs : x.s = false := by
    cases e : x.s with
    | false => rfl
    | true => have := (h.starv e).2.1; omega
  have hn := h.norm hs
  have hl' := h.l
  have hw : x.w.toNat ≤ 1 := Bool.toNat_le _
  refine ⟨by rw [hl] at hl'; simp at hl' ⊢; omega, fun _ => ?_, fun e => by simp [hs] at e⟩
  simp only [Bool.toNat_true, Bool.toNat_false]
  exact ⟨by omega, by omega, by omega, by omega, by omega, fun _ => by omega⟩
theorem MuI.queueW (h : MuI x s c) (hm : Mv c c' (some .wok) (some .queued)) (hl : x.l = true) (b : Bool) : MuI { x with w := false, s := b, q := x.q + 1 } s c' := by
  obtain ⟨m1, m2, m3, m4, m5, m6, m7, m8, m9⟩ := hm.all
  simp [is1] at m1 m2 m3 m4 m5 m6 m7 m8 m9
  have hs : x.s = false := by
    cases e : x.s with
    | false => rfl
    | true => have := (h.starv e).2.1; omega
  have hn := h.norm hs
  have hw : x.w.toNat ≤ 1 := Bool.toNat_le _
  refine ⟨by rw [m1]; exact h.l, fun _ => ?_, fun e => ?_⟩
  · simp only [hl, Bool.toNat_true, Bool.toNat_false]
    exact ⟨by omega, by omega, by omega, by omega, by omega, fun _ => by omega⟩
  · simp only [hl, Bool.toNat_true]
    exact ⟨trivial, by omega, by omega, by omega, by omega, by omega, fun _ => by omega⟩
theorem MuI.take (h : MuI x (s + 1) c) (hm : Mv c c' (some .queued) (some .tok)) : MuI x s c' := by
  obtain ⟨m1, m2, m3, m4, m5, m6, m7, m8, m9⟩ := hm.all
  simp [is1] at m1 m2 m3 m4 m5 m6 m7 m8 m9
  refine ⟨by rw [m1]; exact h.l, fun e => ?_, fun e => ?_⟩
  · have hn := h.norm e
    have hw : x.w.toNat ≤ 1 := Bool.toNat_le _
    exact ⟨by omega, by omega, by omega, by omega, by omega, fun _ => by omega⟩
  · have hn := h.starv e
    exact ⟨hn.1, by omega, by omega, by omega, by omega, by omega, fun _ => by omega⟩
theorem MuI.wake (h : MuI x s c) (hm : Mv c c' (some .tok) (some .wok)) (hs : x.s = false) : MuI x s c' := by
  obtain ⟨m1, m2, m3, m4, m5, m6, m7, m8, m9⟩ := hm.all
  simp [is1] at m1 m2 m3 m4 m5 m6 m7 m8 m9
  refine ⟨by rw [m1]; exact h.l, fun e => ?_, fun e => by rw [hs] at e; cases e⟩
  have hn := h.norm e
  exact ⟨by omega, by omega, by omega, by omega, by omega, fun _ => by omega⟩
theorem MuI.handed (h : MuI x s c) (b : Bool) (hm : Mv c c' (some .tok) (some (.hand b))) (hs : x.s = true) (hq : b = false → 2 ≤ x.q) : MuI x s c' := by
  obtain ⟨m1, m2, m3, m4, m5, m6, m7, m8, m9⟩ := hm.all
  have hl : x.l.toNat = c' .held := by simp [is1] at m1; rw [m1]; exact h.l
  refine ⟨hl, fun e => ?_, fun e => ?_⟩
  · rw [hs] at e; cases e
  have hn := h.starv e
  cases b <;> simp [is1] at m1 m2 m3 m4 m5 m6 m7 m8 m9 hq <;> exact ⟨hn.1, by omega, by omega, by omega, by omega, by omega, fun _ => by omega⟩
theorem MuI.handAdd (h : MuI x s c) (b : Bool) (hm : Mv c c' (some (.hand b)) (some .held)) : x.l = false ∧ x.w = false ∧ x.s = true ∧ 1 ≤ x.q ∧ MuI ⟨true, false, !b, x.q - 1⟩ s c' := by
  obtain ⟨m1, m2, m3, m4, m5, m6, m7, m8, m9⟩ := hm.all
  have hs : x.s = true := by
    cases e : x.s with
    | true => rfl
    | false => have hn := h.norm e; cases b <;> simp [is1] at m5 m6 <;> omega
  have hn := h.starv hs
  have hl := h.l
  have hl0 : x.l.toNat = 0 := by cases b <;> simp [is1] at m5 m6 <;> omega
  have hlf : x.l = false := by cases e : x.l with
    | false => rfl
    | true => rw [e] at hl0; cases hl0
  refine ⟨hlf, hn.1, hs, hn.2.2.2.2.2.1, ?_⟩
  cases b
  · simp [is1] at m1 m2 m3 m4 m5 m6 m7 m8 m9
    refine ⟨by simp only [Bool.toNat_true]; omega, fun e => by simp at e, fun _ => ⟨rfl, by omega, by omega, by simp only [Bool.toNat_true]; omega, by simp only; omega, by simp only; omega, fun _ => by omega⟩⟩
  · simp [is1] at m1 m2 m3 m4 m5 m6 m7 m8 m9
    refine ⟨by simp only [Bool.toNat_true]; omega, fun _ => ⟨by omega, by omega, by omega, by simp only [Bool.toNat_false]; omega, by simp only; omega, fun _ => by simp only [Bool.toNat_true]; omega⟩, fun e => by simp at e⟩
def Wd.next (x : Wd) : Option Ro := if x.s then some .relS else if x.q = 0 ∨ x.w = true then none else some .relN
theorem MuI.unlock (h : MuI x s c) (hm : Mv c c' (some .held) x.next) : x.l = true ∧ MuI { x with l := false } s c' := by
  obtain ⟨m1, m2, m3, m4, m5, m6, m7, m8, m9⟩ := hm.all
  have hl := h.l
  have hlt : x.l = true := by
    cases e : x.l with
    | true => rfl
    | false =>
      rw [e] at hl
      unfold Wd.next at m1
      split at m1 <;> (try split at m1) <;> simp [is1] at m1 <;> simp at hl <;> omega
  refine ⟨hlt, ?_⟩
  rw [hlt] at hl
  simp only [Bool.toNat_true] at hl
  unfold Wd.next at m1 m2 m3 m4 m5 m6 m7 m8 m9
  cases hs : x.s with
  | true =>
    have hn := h.starv hs
    rw [hlt] at hn
    simp only [Bool.toNat_true] at hn
    simp [is1, hs] at m1 m2 m3 m4 m5 m6 m7 m8 m9
    exact ⟨by simp only [Bool.toNat_false]; omega, fun e => by simp at e, fun _ => ⟨hn.1, by (first | omega | (simp only; omega)), by (first | omega | (simp only; omega)), by simp only [Bool.toNat_false]; omega, by (first | omega | (simp only; omega)), by (first | omega | (simp only; omega)), fun _ => by (first | omega | (simp only; omega))⟩⟩
  | false =>
    have hn := h.norm hs
    rw [hlt] at hn
    simp only [Bool.toNat_true] at hn
    by_cases hq : x.q = 0 ∨ x.w = true
    · simp [is1, hs, hq] at m1 m2 m3 m4 m5 m6 m7 m8 m9
      refine ⟨by simp only [Bool.toNat_false]; omega, fun _ => ⟨by (first | omega | (simp only; omega)), by (first | omega | (simp only; omega)), by (first | omega | (simp only; omega)), by (first | omega | (simp only; omega)), by (first | omega | (simp only; omega)), fun hp => ?_⟩, fun e => by simp at e⟩
      simp only [Bool.toNat_false]
      rcases hq with hq | hq
      · omega
      · rw [hq]; simp
    · simp [is1, hs, hq] at m1 m2 m3 m4 m5 m6 m7 m8 m9
      refine ⟨by simp only [Bool.toNat_false]; omega, fun _ => ⟨by (first | omega | (simp only; omega)), by (first | omega | (simp only; omega)), by (first | omega | (simp only; omega)), by (first | omega | (simp only; omega)), by (first | omega | (simp only; omega)), fun hp => by simp only [Bool.toNat_false]; omega⟩, fun e => by simp at e⟩
theorem MuI.drop (h : MuI x s c) (hm : Mv c c' (some .relN) none) (hd : x.q = 0 ∨ x.l = true ∨ x.w = true ∨ x.s = true) : MuI x s c' := by
  obtain ⟨m1, m2, m3, m4, m5, m6, m7, m8, m9⟩ := hm.all
  simp [is1] at m1 m2 m3 m4 m5 m6 m7 m8 m9
  refine ⟨by rw [m1]; exact h.l, fun e => ?_, fun e => ?_⟩
  · have hn := h.norm e
    have hw : x.w.toNat ≤ 1 := Bool.toNat_le _
    refine ⟨by (first | omega | (simp only; omega)), by (first | omega | (simp only; omega)), by (first | omega | (simp only; omega)), by (first | omega | (simp only; omega)), by (first | omega | (simp only; omega)), fun _ => ?_⟩
    rcases hd with hd | hd | hd | hd
    · omega
    · rw [hd]; simp only [Bool.toNat_true]; omega
    · rw [hd]; simp only [Bool.toNat_true]; omega
    · rw [hd] at e; cases e
  · have hn := h.starv e
    exact ⟨hn.1, by (first | omega | (simp only; omega)), by (first | omega | (simp only; omega)), by (first | omega | (simp only; omega)), by (first | omega | (simp only; omega)), by (first | omega | (simp only; omega)), fun _ => by (first | omega | (simp only; omega))⟩
theorem MuI.pick (h : MuI x s c) (hm : Mv c c' (some .relN) (some .owe)) (hw : x.w = false) (hs : x.s = false) (hq : 0 < x.q) : MuI { x with w := true, q := x.q - 1 } s c' := by
  obtain ⟨m1, m2, m3, m4, m5, m6, m7, m8, m9⟩ := hm.all
  simp [is1] at m1 m2 m3 m4 m5 m6 m7 m8 m9
  have hn := h.norm hs
  rw [hw] at hn
  simp only [Bool.toNat_false] at hn
  refine ⟨by rw [m1]; exact h.l, fun _ => ⟨by (first | omega | (simp only; omega)), by (first | omega | (simp only; omega)), by (first | omega | (simp only; omega)), by simp only [Bool.toNat_true]; omega, by simp only; omega, fun _ => by simp only [Bool.toNat_true]; omega⟩, fun e => by simp [hs] at e⟩
theorem MuI.pay (h : MuI x s c) (hm : Mv c c' (some .owe) none) : MuI x (s + 1) c' := by
  obtain ⟨m1, m2, m3, m4, m5, m6, m7, m8, m9⟩ := hm.all
  simp [is1] at m1 m2 m3 m4 m5 m6 m7 m8 m9
  refine ⟨by rw [m1]; exact h.l, fun e => ?_, fun e => ?_⟩
  · have hn := h.norm e
    exact ⟨by (first | omega | (simp only; omega)), by (first | omega | (simp only; omega)), by (first | omega | (simp only; omega)), by (first | omega | (simp only; omega)), by (first | omega | (simp only; omega)), fun _ => by (first | omega | (simp only; omega))⟩
  · have hn := h.starv e; omega
theorem MuI.payS (h : MuI x s c) (hm : Mv c c' (some .relS) none) : MuI x (s + 1) c' := by
  obtain ⟨m1, m2, m3, m4, m5, m6, m7, m8, m9⟩ := hm.all
  simp [is1] at m1 m2 m3 m4 m5 m6 m7 m8 m9
  refine ⟨by rw [m1]; exact h.l, fun e => ?_, fun e => ?_⟩
  · have hn := h.norm e; omega
  · have hn := h.starv e
    exact ⟨hn.1, by (first | omega | (simp only; omega)), by (first | omega | (simp only; omega)), by (first | omega | (simp only; omega)), by (first | omega | (simp only; omega)), by (first | omega | (simp only; omega)), fun _ => by (first | omega | (simp only; omega))⟩
theorem MuI.wok_w (h : MuI x s c) (hc : 0 < c .wok) : x.w = true ∧ x.s = false := by
  have hs : x.s = false := by
    cases e : x.s with
    | false => rfl
    | true => have := (h.starv e).2.1; omega
  have hn := h.norm hs
  refine ⟨?_, hs⟩
  cases e : x.w with
  | true => rfl
  | false => rw [e] at hn; simp at hn; omega
theorem MuI.tok_s (h : MuI x s c) (hc : 0 < c .tok) : (x.s = false ∧ x.w = true) ∨ (x.s = true ∧ x.l = false ∧ x.w = false ∧ 1 ≤ x.q) := by
  cases hs : x.s with
  | false =>
    have hn := h.norm hs
    refine .inl ⟨rfl, ?_⟩
    cases e : x.w with
    | true => rfl
    | false => rw [e] at hn; simp at hn; omega
  | true =>
    have hn := h.starv hs
    refine .inr ⟨rfl, ?_, hn.1, hn.2.2.2.2.2.1⟩
    cases e : x.l with
    | false => rfl
    | true => rw [e] at hn; simp at hn; omega
theorem MuI.alive (h : MuI x s c) (hq : 0 < c .queued) : 0 < s ∨ 0 < c .held + c .tok + c .wok + c (.hand true) + c (.hand false) + c .relN + c .owe + c .relS := by
  have hl := h.l
  cases hs : x.s with
  | false =>
    have hn := h.norm hs
    have := hn.2.2.2.2.2 hq
    omega
  | true =>
    have hn := h.starv hs
    omega
theorem Wd.enc_zero {x : Wd} (h : x.enc = 0) : x = ⟨false, false, false, 0⟩ := by
  obtain ⟨l, w, st, q⟩ := x
  unfold Wd.enc at h
  simp only at h
  cases l <;> cases w <;> cases st <;> simp at h <;> first | omega | (simp; done) | (have hq : q = 0 := (by omega); rw [hq])
end
def wtr : Ro → Nat
  | .fresh => 14 | .queued => 10 | .tok => 14 | .wok => 13 | .hand _ => 13 | .held => 9 | .relN => 7 | .owe => 6 | .relS => 6
end Go.Co

namespace Go.Co
open Go Go.Conc
open Go.ConcM (OsLater)
open Go.ConcN (sumTo upd sumTo_upd upd_ne upd_same sumTo_congr le_sumTo sumTo_le)
inductive Gr where
  | out | said | last | lastS | chk (n : Nat) | waits | thru | joined
  deriving DecidableEq
structure Me where
  left : Nat
  pend : Nat
  pos : Nat
  cl : Bool
structure Lo where
  live : Bool
  wk : Bool
  own : Nat → Prop
  deaf : Nat
  mr : Option (Nat × Ro)
  old : Option Wd
  pas : Nat → Bool
  run : Option Nat
  ch : Ch
  rel : Option Nat
  gr : Gr
  job : Option Nat
  kn : Addr → Option Value
  me : Me
  sc : Bool
inductive Gd where
  | ro | pub (k : Nat) | prot (k : Nat) | ctr (k : Nat) | out (j : Nat)
  deriving DecidableEq
structure Gh where
  n : Nat
  th : Nat → Lo
  left : Nat
  wd : Nat → Wd
  sm : Nat → Nat
  dn : Nat → Bool
  app : Addr → Option (Value × Gd)
  wn : Nat
  ww : Nat
  ws : Nat
  pend : Nat
  cl : Bool
  pos : Nat
  cv : Nat → Nat
  tk : Nat → Option Nat
inductive SC where
  | done (k : Nat) | word (k : Nat) | sema (k : Nat) | wst | wsm
  deriving DecidableEq
structure Geo where
  P : Program
  K : Nat
  sc : SC → Addr
  c : Nat
  hasC : Bool
  n0 : Nat
  shun : Nat → Prop
  nj : Nat
  jv : Nat → Value
  rs : Nat → Option Nat
  w0 : World
  ini : Addr → Option (Value × Nat)
  App : (Addr → Option (Value × Gd)) → (Nat → Bool) → (Nat → Nat) → Prop
  fin : Lo → Goroutine → World → Prop
  finJ : ∀ l g w, fin l g w → l.gr = .joined
def SC.ok (K : Nat) : SC → Prop
  | .done k | .word k | .sema k => k < K
  | .wst | .wsm => 0 < K
def Gh.val (G : Gh) : SC → Value
  | .done k => .int .u32 (G.dn k).toNat
  | .word k => .int .i32 (G.wd k).enc
  | .sema k => .int .u32 (G.sm k)
  | .wst => .int .u64 ((G.wn * 4294967296 + G.ww : Nat) : Int)
  | .wsm => .int .u32 (G.ws : Int)
def Lo.at (l : Lo) (k : Nat) (r : Ro) : Nat := if l.live = true ∧ l.mr = some (k, r) then 1 else 0
def Gh.cnt (G : Gh) (k : Nat) (r : Ro) : Nat := sumTo G.n fun i => (G.th i).at k r
def Lo.lives (l : Lo) : Nat := l.live.toNat
def Lo.busy (l : Lo) : Nat := if l.live = true ∧ l.wk = true ∧ (l.gr = .out ∨ l.gr = .said) then 1 else 0
def Lo.lasts (l : Lo) : Nat := if l.live = true ∧ l.gr = .last then 1 else 0
def Lo.lastsS (l : Lo) : Nat := if l.live = true ∧ l.gr = .lastS then 1 else 0
def Lo.holds (rs : Nat → Option Nat) (r : Nat) (l : Lo) : Nat := match l.job with
  | some j => if l.live = true ∧ rs j = some r then 1 else 0
  | none => 0
def sentTo (rs : Nat → Option Nat) (r : Nat) (pos : Nat) : Nat := sumTo pos fun j => if rs j = some r then 1 else 0
def Lo.wt (l : Lo) (k : Nat) : Nat := match l.mr with
  | some (k', r) => if k' = k then wtr r else if l.wk = true ∧ l.pas k = false then 15 else 0
  | none => if l.wk = true ∧ l.pas k = false then 15 else 0
def Lo.stale (l : Lo) (k : Nat) (x : Wd) : Nat := match l.mr, l.old with
  | some (k', _), some o => if l.live = true ∧ k' = k ∧ o ≠ x then 1 else 0
  | _, _ => 0
def Lo.φ (K : Nat) (l : Lo) : Nat := if l.live = true then 1 + 2 * l.busy + l.lasts + (match l.gr with | .out => 4 | .chk _ => 3 | .waits => 2 | .thru => 1 | _ => 0) + sumTo K fun k => 64 * l.wt k else 0
def Lo.staleG (l : Lo) (n : Nat) : Nat := match l.gr with
  | .chk m => if m = n then 0 else 2
  | _ => 0
def Gh.Φ (K nj : Nat) (G : Gh) : Nat :=
  sumTo G.n (fun i => (G.th i).φ K) + sumTo K (fun k => 320 * G.sm k + sumTo G.n fun i => (G.th i).stale k (G.wd k)) + 8192 * G.left + (nj - G.pos) + (!G.cl).toNat + (G.th 0).staleG G.wn
structure WgI (G : Gh) : Prop where
  n : G.wn = G.pend + sumTo G.n fun i => (G.th i).busy
  m : (if (G.th 0).gr = .waits then 1 else 0) = G.ww + (sumTo G.n fun i => (G.th i).lastsS) + G.ws
  a : (sumTo G.n fun i => (G.th i).lasts) ≤ G.ww
  z : 0 < (sumTo G.n fun i => (G.th i).lasts) → G.wn = 0
  zs : 0 < (sumTo G.n fun i => (G.th i).lastsS) + G.ws → G.wn = 0
  w : G.ww = 1 → G.wn = 0 → 0 < sumTo G.n fun i => (G.th i).lasts
  thru : (G.th 0).gr = .thru ∨ (G.th 0).gr = .joined → G.wn = 0 ∧ G.pend = 0 ∧ G.left = 0
  small : G.wn ≤ 48
  role : ∀ i, (G.th i).live = true → (i = 0 → (G.th i).wk = false ∧ ((G.th i).gr = .out ∨ (∃ m, (G.th i).gr = .chk m) ∨ (G.th i).gr = .waits ∨ (G.th i).gr = .thru ∨ (G.th i).gr = .joined)) ∧
    (i ≠ 0 → (G.th i).wk = true ∧ ((G.th i).gr = .out ∨ (G.th i).gr = .said ∨ (G.th i).gr = .last ∨ (G.th i).gr = .lastS))
  wait0 : ((∃ m, (G.th 0).gr = .chk m) ∨ (G.th 0).gr = .waits) → G.pend = 0 ∧ G.left = 0
def Gh.kW (G : Gh) (i : Nat) (a : Addr) : Prop :=
  (G.th i).own a.block ∨ (∃ v k, G.app a = some (v, .prot k) ∧ ((G.th i).run = some k ∨ ∀ j, (G.th j).live = true → (G.th j).run ≠ some k)) ∨
    (∃ v j, G.app a = some (v, .out j) ∧ (G.tk j = some i ∨ G.tk j = none))
def Gh.kR (G : Gh) (i : Nat) (a : Addr) : Prop := ∃ v, G.app a = some (v, .ro) ∨ ∃ k, G.app a = some (v, .pub k) ∧ (G.th i).pas k = true
def Geo.kA (E : Geo) (G : Gh) (i : Nat) (a : Addr) : Prop := (∃ x, x.ok E.K ∧ a = E.sc x) ∨ ∃ v k, G.app a = some (v, .ctr k) ∧ (G.th i).pas k = true
def Geo.dis (E : Geo) (G : Gh) : Dis where
  W := fun i l => (G.th i).live = true ∧ match l with
    | .cell a => G.kW i a
    | .obj r => (G.th i).own r
    | _ => False
  R := fun i l => (G.th i).live = true ∧ match l with
    | .cell a => G.kR i a
    | _ => False
  A := fun i l => (G.th i).live = true ∧ match l with
    | .cell a => E.kA G i a
    | .obj r => E.hasC = true ∧ r = E.c
    | _ => False
  S := fun i l => i = 0 ∧ match l with
    | .cell a => a = E.sc .wsm
    | _ => False
def Geo.ours (E : Geo) (G : Gh) (g : Nat) : Prop := E.n0 ≤ g ∧ g < G.n
structure Tell (E : Geo) (G : Gh) (t : Trace) : Prop where
  known : ∀ i op a, t[i]? = some op → op.act.touch? = some a → a.loc.isMemory = true → E.ours G op.g ∨ Knows t 0 i ∨ (∃ b, a.loc = .cell b ∧ E.shun b.block ∧ a.kind = .atomic)
  over : ∀ i op, t[i]? = some op → op.g ≠ 0 → t.counts i → E.ours G op.g ∨ Knows t 0 i
  norel : ∀ i a, t.act? i = some (.mark (.release a)) → a.block < E.w0.heap.size ∧ a ≠ E.sc .wst
  rel : ∀ g, E.ours G g → (((G.th g).rel = none ∧ (G.th g).live = true ∧ (G.th g).gr = .out) ∨ ∃ r, (G.th g).rel = some r ∧ t.act? r = some (.mark (.releaseMerge (E.sc .wst))) ∧ t.g? r = some g ∧ t.heard r ∧
    ∀ i op a, r < i → t[i]? = some op → op.g = g → op.act.touch? = some a → a.kind = .atomic ∧ (a.loc = .cell (E.sc .wst) ∨ a.loc = .cell (E.sc .wsm)) ∧ ¬ t.heard i)
  pub : ∀ k, k < E.K → G.dn k = true → ∃ p, LastWrite t (E.sc (.done k)) p ∧ t.heard p ∧ (∀ i op a ad v, t[i]? = some op → op.act.touch? = some a → a.loc = .cell ad → (G.app ad = some (v, .pub k) ∧ a.write = true) ∨ (G.app ad = some (v, .ctr k) ∧ a.kind = .plain) → Before t i p) ∧
    ∀ i, (G.th i).live = true → (G.th i).pas k = true → Knows t i p
  join : (G.th 0).gr = .joined → ∀ g r, E.ours G g → (G.th g).rel = some r → Knows t 0 r
structure GIa (E : Geo) (G : Gh) : Prop where
  pos0 : 0 < E.n0 ∧ E.n0 ≤ G.n
  live0 : (G.th 0).live = true
  liveW : ∀ i, (G.th i).live = true → i < G.n ∧ (i = 0 ∨ E.n0 ≤ i)
  few : sumTo G.n (fun i => (G.th i).lives) + G.left ≤ 48
  alone : E.K = 0 → G.left = 0 ∧ G.n = E.n0
structure GIs (E : Geo) (G : Gh) (B : Nat) : Prop where
  apart : ∀ i j b, (G.th i).live = true → (G.th j).live = true → i ≠ j → (G.th i).own b → ¬ (G.th j).own b
  old : ∀ i b, (G.th i).live = true → (G.th i).own b → b < B
  nsh : ∀ i b, (G.th i).live = true → (G.th i).own b → (∀ x, x.ok E.K → (E.sc x).block ≠ b) ∧ (∀ a v, G.app a = some v → a.block ≠ b) ∧ (E.hasC = true → b ≠ E.c) ∧ ¬ E.shun b
  shun : ∀ b, E.shun b → b < E.w0.heap.size
  size : E.w0.heap.size ≤ B
  nshA : ∀ a v, G.app a = some v → ¬ E.shun a.block
structure GIm (E : Geo) (G : Gh) (w : World) : Prop where
  sync : ∀ x, x.ok E.K → w.cell? (E.sc x) = some (G.val x) ∧ w.frozen? (E.sc x) = false
  app : ∀ a v d, G.app a = some (v, d) → w.cell? a = some v ∧ w.frozen? a = false ∧ ∀ x, x.ok E.K → a ≠ E.sc x
  inj : ∀ x y, x.ok E.K → y.ok E.K → E.sc x = E.sc y → x = y
  chan : E.hasC = true → (∃ s r, w.heap[E.c]? = some (.chan 0 #[] G.cl s r false)) ∧ (∀ x, x.ok E.K → (E.sc x).block ≠ E.c) ∧ ∀ a v, G.app a = some v → a.block ≠ E.c
  tape : w.tape = E.w0.tape
  output : w.output = E.w0.output
  os : OsLater E.w0.os w.os
structure GIk (E : Geo) (G : Gh) : Prop where
  mu : ∀ k, k < E.K → MuI (G.wd k) (G.sm k) (G.cnt k)
  mrK : ∀ i k r, (G.th i).live = true → (G.th i).mr = some (k, r) → k < E.K ∧ i ≠ 0
  run : ∀ i k, (G.th i).live = true → (G.th i).run = some k → (G.th i).mr = some (k, .held) ∧ G.dn k = false
  pas : ∀ i k, (G.th i).live = true → (G.th i).pas k = true → k < E.K ∧ G.dn k = true
  prot : ∀ a v k, G.app a = some (v, .prot k) → k < E.K ∧ G.dn k = false ∧ ((∃ i, (G.th i).live = true ∧ (G.th i).run = some k ∧ (G.th i).kn a = some v) ∨ ((∀ i, (G.th i).live = true → (G.th i).run ≠ some k) ∧ E.ini a = some (v, k)))
  ini : ∀ a v k, E.ini a = some (v, k) → G.dn k = false → ∃ v', G.app a = some (v', .prot k)
  kn : ∀ i a v, (G.th i).live = true → (G.th i).kn a = some v → (∃ d, G.app a = some (v, d) ∧ (d = .ro ∨ (∃ k, d = .pub k ∧ (G.th i).pas k = true) ∨ ∃ k, d = .prot k ∧ (G.th i).run = some k))
structure GIj (E : Geo) (G : Gh) : Prop where
  noC : E.hasC = false → ∀ i, (G.th i).live = true → (G.th i).ch = .no
  ch0 : ∀ i v, (G.th i).live = true → (G.th i).ch = .send v → i = 0 ∧ G.pos < E.nj ∧ v = E.jv G.pos ∧ G.cl = false ∧ G.left = 0 ∧ (G.th i).gr = .out
  chR : ∀ i, (G.th i).live = true → (G.th i).ch = .recv → i ≠ 0 ∧ (∀ j, (G.th i).job = some j → E.rs j = none) ∧ (G.th i).mr = none ∧ (G.th i).gr = .out
  cl : G.cl = true → G.pos = E.nj ∧ G.left = 0 ∧ G.pend = 0
  posn : G.pos ≤ E.nj
  cnt : ∀ r, G.cv r + (sumTo G.n fun i => (G.th i).holds E.rs r) = sentTo E.rs r G.pos
  jobs : ∀ i j, (G.th i).live = true → (G.th i).job = some j → j < G.pos ∧ G.tk j = some i
  tks : (∀ j, G.pos ≤ j → G.tk j = none) ∧ ∀ j i, G.tk j = some i → i < G.n
  stay : E.hasC = true → G.cl = false → ∀ i, E.ours G i → (G.th i).live = true ∧ (G.th i).gr = .out
  any : E.hasC = true → G.left = 0 → E.n0 < G.n
  shutW : E.hasC = true → (G.th 0).gr ≠ .out → G.cl = true
  mrG : ∀ i, (G.th i).live = true → (G.th i).mr ≠ none → (G.th i).gr = .out
  me : (G.th 0).me = ⟨G.left, G.pend, G.pos, G.cl⟩
  sc : ∀ i, (G.th i).live = true → (G.th i).sc = true → G.cl = true
structure GIt (E : Geo) (G : Gh) (B : Nat) (t : Trace) : Prop where
  ti : TI (E.dis G) B t
  deaf : ∀ i, (G.th i).live = true → Deaf t i = (G.th i).deaf
  quiet : ∀ j, G.n ≤ j → Deaf t j = 0
  tell : Tell E G t
structure GI (E : Geo) (G : Gh) (w : World) (t : Trace) : Prop where
  a : GIa E G
  s : GIs E G w.heap.size
  m : GIm E G w
  k : GIk E G
  g : WgI G
  j : GIj E G
  more : E.App G.app G.dn G.cv
  t : GIt E G w.heap.size t
def Gh.PK (_E : Geo) (G : Gh) (i : Nat) : Prop := (∃ k, (G.th i).mr = some (k, .queued) ∧ G.sm k = 0) ∨ (i = 0 ∧ (G.th 0).gr = .waits ∧ G.ws = 0)
def Lo.grow (l : Lo) (a b : Nat) : Lo := { l with own := fun c => l.own c ∨ (a ≤ c ∧ c < b) }
def Geo.pro (E : Geo) : Pro where
  P := E.P
  Gh := Gh
  Lo := Lo
  lo := Gh.th
  sz := Gh.n
  act := fun G i => (G.th i).live = true
  own := Lo.own
  deaf := Lo.deaf
  grow := Lo.grow
  growG := fun G i a b => { G with th := upd G.th i ((G.th i).grow a b) }
  ch := Lo.ch
  c := E.c
  cl := Gh.cl
  PK := Gh.PK E
  Φ := Gh.Φ E.K E.nj
  GI := GI E
  fin := E.fin
  got := fun l v l' => ∃ j, v = E.jv j ∧ l' = { l with ch := .no, job := some j }
  shut := fun l l' => l' = { l with ch := .no, sc := true }
  sent := fun l l' => l' = { l with ch := .no, me := { l.me with pos := l.me.pos + 1 } }
  still := fun l => l.rel ≠ none
theorem sum_upd {n i : Nat} (h : i < n) (th : Nat → Lo) (l : Lo) (φ : Lo → Nat) : sumTo n (fun a => φ (upd th i l a)) + φ (th i) = sumTo n (fun a => φ (th a)) + φ l := sumTo_upd th l φ h
theorem sum_same {n i : Nat} {th : Nat → Lo} {l : Lo} {φ : Lo → Nat} (h : φ l = φ (th i)) : sumTo n (fun a => φ (upd th i l a)) = sumTo n (fun a => φ (th a)) :=
  sumTo_congr fun a _ => by
    by_cases e : a = i
    · subst e; rw [upd_same, h]
    · rw [upd_ne _ _ e]
theorem fld {α : Type} {th : Nat → Lo} {i : Nat} {l : Lo} (f : Lo → α) (h : f l = f (th i)) (j : Nat) : f (upd th i l j) = f (th j) := by
  by_cases e : j = i
  · subst e; rw [upd_same, h]
  · rw [upd_ne _ _ e]
end Go.Co

namespace Go.Co
open Go Go.Conc
open Go.ConcM (OsLater)
open Go.ConcN (sumTo upd sumTo_upd upd_ne upd_same sumTo_congr le_sumTo sumTo_le)
variable {E : Geo} {G G' : Gh} {w w' : World} {t u : Trace} {B B' : Nat}
theorem GIa.tr (h : GIa E G) (hn : G'.n = G.n) (hl : G'.left = G.left) (h1 : ∀ j, (G'.th j).live = (G.th j).live) : GIa E G' := by
  refine ⟨by rw [hn]; exact h.pos0, by rw [h1]; exact h.live0, fun i hi => by rw [hn]; exact h.liveW i (by rw [← h1]; exact hi), ?_, by rw [hl, hn]; exact h.alone⟩
  rw [hn, hl, sumTo_congr (g := fun i => (G.th i).lives) fun i _ => by unfold Lo.lives; rw [h1]]
  exact h.few
theorem GIs.tr (h : GIs E G B) (hB : B ≤ B') (ha : ∀ a v, G'.app a = some v → ∃ v', G.app a = some v') (h1 : ∀ j, (G'.th j).live = true → (G.th j).live = true ∧ (G'.th j).own = (G.th j).own) : GIs E G' B' := by
  refine ⟨fun i j b hi hj => ?_, fun i b hi hb => ?_, fun i b hi hb => ?_, h.shun, Nat.le_trans h.size hB, fun a v hv => (ha a v hv).elim fun v' hv' => h.nshA a v' hv'⟩
  · rw [(h1 i hi).2, (h1 j hj).2]; exact h.apart i j b (h1 i hi).1 (h1 j hj).1
  · rw [(h1 i hi).2] at hb; exact Nat.lt_of_lt_of_le (h.old i b (h1 i hi).1 hb) hB
  · rw [(h1 i hi).2] at hb
    obtain ⟨a1, a2, a3, a4⟩ := h.nsh i b (h1 i hi).1 hb
    exact ⟨a1, fun a v hv => (ha a v hv).elim fun v' hv' => a2 a v' hv', a3, a4⟩
theorem GIm.tr (h : GIm E G w) (hv : ∀ x, G'.val x = G.val x) (ha : G'.app = G.app) (hc : G'.cl = G.cl) : GIm E G' w :=
  ⟨fun x hx => by rw [hv]; exact h.sync x hx, fun a v d => by rw [ha]; exact h.app a v d, h.inj, fun hC => by rw [hc, ha]; exact h.chan hC, h.tape, h.output, h.os⟩
theorem GIm.world (h : GIm E G w) (hs : ∀ a, ((∃ x, x.ok E.K ∧ a = E.sc x) ∨ ∃ v, G.app a = some v) → w'.cell? a = w.cell? a ∧ w'.frozen? a = w.frozen? a) (hc : E.hasC = true → w'.heap[E.c]? = w.heap[E.c]?)
    (ht : w'.tape = w.tape) (ho : w'.output = w.output) (hos : OsLater w.os w'.os) : GIm E G w' := by
  refine ⟨fun x hx => ?_, fun a v d ha => ?_, h.inj, fun hC => ?_, ht.trans h.tape, ho.trans h.output, h.os.trans hos⟩
  · obtain ⟨a1, a2⟩ := hs _ (.inl ⟨x, hx, rfl⟩); rw [a1, a2]; exact h.sync x hx
  · obtain ⟨a1, a2⟩ := hs _ (.inr ⟨_, ha⟩); rw [a1, a2]; exact h.app a v d ha
  · obtain ⟨⟨s, r, a⟩, b⟩ := h.chan hC
    exact ⟨⟨s, r, (hc hC).trans a⟩, b⟩
theorem GIk.tr (h : GIk E G) (hn : G'.n = G.n) (hw : G'.wd = G.wd) (hs : G'.sm = G.sm) (hd : G'.dn = G.dn) (ha : G'.app = G.app)
    (h1 : ∀ j, (G'.th j).live = (G.th j).live ∧ (G'.th j).mr = (G.th j).mr ∧ (G'.th j).run = (G.th j).run ∧ (G'.th j).pas = (G.th j).pas ∧ (G'.th j).kn = (G.th j).kn) : GIk E G' := by
  refine ⟨fun k hk => ?_, fun i k r hi hm => ?_, fun i k hi hr => ?_, fun i k hi hp => ?_, fun a v k hv => ?_, fun a v k hv hk => ?_, fun i a v hi hv => ?_⟩
  · have : G'.cnt k = G.cnt k := by
      funext r
      unfold Gh.cnt
      rw [hn]
      exact sumTo_congr fun i _ => by unfold Lo.at; rw [(h1 i).1, (h1 i).2.1]
    rw [this, hw, hs]; exact h.mu k hk
  · rw [(h1 i).1] at hi; rw [(h1 i).2.1] at hm; exact h.mrK i k r hi hm
  · rw [(h1 i).1] at hi; rw [(h1 i).2.2.1] at hr; rw [(h1 i).2.1, hd]; exact h.run i k hi hr
  · rw [(h1 i).1] at hi; rw [(h1 i).2.2.2.1] at hp; rw [hd]; exact h.pas i k hi hp
  · rw [ha] at hv
    obtain ⟨a1, a2, a3⟩ := h.prot a v k hv
    refine ⟨a1, by rw [hd]; exact a2, ?_⟩
    rcases a3 with ⟨i, b1, b2, b3⟩ | ⟨b1, b2⟩
    · exact .inl ⟨i, by rw [(h1 i).1]; exact b1, by rw [(h1 i).2.2.1]; exact b2, by rw [(h1 i).2.2.2.2]; exact b3⟩
    · exact .inr ⟨fun i hi => by rw [(h1 i).2.2.1]; exact b1 i (by rw [← (h1 i).1]; exact hi), b2⟩
  · rw [ha]; rw [hd] at hk; exact h.ini a v k hv hk
  · rw [(h1 i).1] at hi; rw [(h1 i).2.2.2.2] at hv
    rw [ha, (h1 i).2.2.2.1, (h1 i).2.2.1]; exact h.kn i a v hi hv
theorem WgI.tr (h : WgI G) (hn : G'.n = G.n) (h1 : G'.wn = G.wn) (h2 : G'.ww = G.ww) (h3 : G'.ws = G.ws) (h4 : G'.pend = G.pend) (h5 : G'.left = G.left)
    (hj : ∀ j, (G'.th j).live = (G.th j).live ∧ (G'.th j).wk = (G.th j).wk ∧ (G'.th j).gr = (G.th j).gr) : WgI G' := by
  have e1 : (sumTo G'.n fun i => (G'.th i).busy) = sumTo G.n fun i => (G.th i).busy := by rw [hn]; exact sumTo_congr fun i _ => by unfold Lo.busy; rw [(hj i).1, (hj i).2.1, (hj i).2.2]
  have e2 : (sumTo G'.n fun i => (G'.th i).lasts) = sumTo G.n fun i => (G.th i).lasts := by rw [hn]; exact sumTo_congr fun i _ => by unfold Lo.lasts; rw [(hj i).1, (hj i).2.2]
  have e3 : (sumTo G'.n fun i => (G'.th i).lastsS) = sumTo G.n fun i => (G.th i).lastsS := by rw [hn]; exact sumTo_congr fun i _ => by unfold Lo.lastsS; rw [(hj i).1, (hj i).2.2]
  have e0 := (hj 0).2.2
  refine ⟨by rw [h1, h4, e1]; exact h.n, by rw [e0, h2, h3, e3]; exact h.m, by rw [e2, h2]; exact h.a, by rw [e2, h1]; exact h.z, by rw [e3, h1, h3]; exact h.zs, by rw [e2, h1, h2]; exact h.w, by rw [e0, h1, h4, h5]; exact h.thru, by rw [h1]; exact h.small, fun i hi => ?_, by rw [e0, h4, h5]; exact h.wait0⟩
  rw [(hj i).2.1, (hj i).2.2]
  exact h.role i (by rw [← (hj i).1]; exact hi)
theorem GIj.tr (h : GIj E G) (hn : G'.n = G.n) (h1 : G'.pos = G.pos) (h2 : G'.cl = G.cl) (h3 : G'.left = G.left) (h4 : G'.cv = G.cv) (h5 : G'.tk = G.tk)
    (h6 : G'.pend = G.pend)
    (hj : ∀ j, (G'.th j).live = (G.th j).live ∧ (G'.th j).ch = (G.th j).ch ∧ (G'.th j).job = (G.th j).job ∧ (G'.th j).mr = (G.th j).mr ∧ (G'.th j).gr = (G.th j).gr ∧ (G'.th j).me = (G.th j).me ∧ (G'.th j).sc = (G.th j).sc) : GIj E G' := by
  refine ⟨fun hC i hi => ?_, fun i v hi hv => ?_, fun i hi hv => ?_, by rw [h1, h2, h3, h6]; exact h.cl, by rw [h1]; exact h.posn, fun r => ?_, fun i j hi hjb => ?_, by rw [h1, h5, hn]; exact h.tks, fun hC hc i hi => ?_, by rw [hn, h3]; exact h.any, by rw [h2, (hj 0).2.2.2.2.1]; exact h.shutW, fun i hi hm => ?_, by rw [(hj 0).2.2.2.2.2.1, h1, h2, h3, h6]; exact h.me, fun i hi hs => ?_⟩
  · rw [(hj i).1] at hi; rw [(hj i).2.1]; exact h.noC hC i hi
  · rw [(hj i).1] at hi; rw [(hj i).2.1] at hv; rw [h1, h2, h3, (hj i).2.2.2.2.1]; exact h.ch0 i v hi hv
  · rw [(hj i).1] at hi; rw [(hj i).2.1] at hv; rw [(hj i).2.2.1, (hj i).2.2.2.1, (hj i).2.2.2.2.1]; exact h.chR i hi hv
  · rw [h1, h4, hn, sumTo_congr (g := fun i => (G.th i).holds E.rs r) fun i _ => by unfold Lo.holds; rw [(hj i).1, (hj i).2.2.1]]; exact h.cnt r
  · rw [(hj i).1] at hi; rw [(hj i).2.2.1] at hjb; rw [h1, h5]; exact h.jobs i j hi hjb
  · rw [h2] at hc; rw [(hj i).1, (hj i).2.2.2.2.1]; exact h.stay hC hc i (by unfold Geo.ours at hi ⊢; rw [← hn]; exact hi)
  · rw [(hj i).1] at hi; rw [(hj i).2.2.2.1] at hm; rw [(hj i).2.2.2.2.1]; exact h.mrG i hi hm
  · rw [(hj i).1] at hi; rw [(hj i).2.2.2.2.2.2] at hs; rw [h2]; exact h.sc i hi hs
structure TSame (G G' : Gh) : Prop where
  n : G'.n = G.n
  app : G'.app = G.app
  dn : G'.dn = G.dn
  tk : G'.tk = G.tk
  th : ∀ j, (G'.th j).live = (G.th j).live ∧ (G'.th j).own = (G.th j).own ∧ (G'.th j).run = (G.th j).run ∧ (G'.th j).pas = (G.th j).pas ∧ (G'.th j).rel = (G.th j).rel ∧ ((G'.th j).gr = .out ↔ (G.th j).gr = .out) ∧ ((G'.th j).gr = .joined ↔ (G.th j).gr = .joined)
theorem TSame.dis (h : TSame G G') : E.dis G' = E.dis G := by
  have e1 : ∀ i a, G'.kW i a = G.kW i a := fun i a => by
    unfold Gh.kW
    rw [h.app, h.tk, (h.th i).2.1, (h.th i).2.2.1]
    have : (fun j => (G'.th j).live) = fun j => (G.th j).live := funext fun j => (h.th j).1
    have e2 : ∀ k, (∀ j, (G'.th j).live = true → (G'.th j).run ≠ some k) = ∀ j, (G.th j).live = true → (G.th j).run ≠ some k := fun k => by
      apply propext
      exact forall_congr' fun j => by rw [(h.th j).1, (h.th j).2.2.1]
    simp only [e2]
  have e2 : ∀ i a, G'.kR i a = G.kR i a := fun i a => by unfold Gh.kR; rw [h.app, (h.th i).2.2.2.1]
  have e3 : ∀ i a, E.kA G' i a = E.kA G i a := fun i a => by unfold Geo.kA; rw [h.app, (h.th i).2.2.2.1]
  unfold Geo.dis
  congr 1
  · funext i l; cases l <;> simp only [e1, (h.th i).1, (h.th i).2.1]
  · funext i l; cases l <;> simp only [e2, (h.th i).1]
  · funext i l; cases l <;> simp only [e3, (h.th i).1]
theorem Tell.tr' (h : Tell E G t) (hn : G'.n = G.n) (ha : G'.app = G.app) (hdn : G'.dn = G.dn)
    (hth : ∀ j, (G'.th j).live = (G.th j).live ∧ (G'.th j).pas = (G.th j).pas ∧ (G'.th j).rel = (G.th j).rel ∧ ((G'.th j).gr = .out ↔ (G.th j).gr = .out) ∧ ((G'.th j).gr = .joined ↔ (G.th j).gr = .joined)) : Tell E G' t := by
  have eo : ∀ g, E.ours G' g ↔ E.ours G g := fun g => by unfold Geo.ours; rw [hn]
  refine ⟨fun i op a h1 h2 h3 => ?_, fun i op h1 h2 h3 => ?_, h.norel, fun g hg => ?_, fun k hk hd => ?_, fun hj g r hg hr => ?_⟩
  · rw [eo]; exact h.known i op a h1 h2 h3
  · rw [eo]; exact h.over i op h1 h2 h3
  · rw [(hth g).2.2.1, (hth g).1, (hth g).2.2.2.1]; exact h.rel g ((eo g).1 hg)
  · rw [hdn] at hd
    obtain ⟨p, a1, a2, a3, a4⟩ := h.pub k hk hd
    exact ⟨p, a1, a2, by rw [ha]; exact a3, fun i hi hp => a4 i (by rw [← (hth i).1]; exact hi) (by rw [← (hth i).2.1]; exact hp)⟩
  · rw [(hth g).2.2.1] at hr; exact h.join ((hth 0).2.2.2.2.1 hj) g r ((eo g).1 hg) hr
theorem Tell.tr (h : Tell E G t) (s : TSame G G') : Tell E G' t :=
  h.tr' s.n s.app s.dn fun j => ⟨(s.th j).1, (s.th j).2.2.2.1, (s.th j).2.2.2.2.1, (s.th j).2.2.2.2.2.1, (s.th j).2.2.2.2.2.2⟩
theorem GIt.tr (h : GIt E G B t) (s : TSame G G') (hd : ∀ j, (G'.th j).deaf = (G.th j).deaf) (hB : B ≤ B') : GIt E G' B' t :=
  ⟨by rw [s.dis]; exact h.ti.at hB, fun i hi => by rw [hd]; exact h.deaf i (by rw [← (s.th i).1]; exact hi), fun j hj => h.quiet j (by rw [← s.n]; exact hj), h.tell.tr s⟩
end Go.Co

namespace Go.Co
open Go Go.Conc
open Go.ConcM (OsLater)
open Go.ConcN (sumTo upd sumTo_upd upd_ne upd_same sumTo_congr le_sumTo sumTo_le)
variable {E : Geo} {G G' : Gh} {w w' : World} {t u : Trace} {B B' : Nat}
theorem heard_old {t u : Trace} {r : Nat} (hr : r < t.size) : (t ++ u).heard r ↔ t.heard r := by
  unfold Trace.heard Trace.g?
  rw [getElem?_append_old hr]
  constructor <;> (rintro ⟨g, a, b⟩; refine ⟨g, a, ?_⟩)
  · rwa [deaf_old (Nat.le_of_lt hr)] at b
  · rwa [deaf_old (Nat.le_of_lt hr)]
theorem counts_app {t u : Trace} {r : Nat} (hr : r < t.size) : (t ++ u).counts r ↔ t.counts r := by
  unfold Trace.counts Trace.act?
  rw [getElem?_append_old hr]
  constructor <;> (rintro ⟨x, a, b, c⟩; refine ⟨x, a, b, c.imp id ?_⟩)
  · exact (heard_old hr).1
  · exact (heard_old hr).2
theorem split_at {t u : Trace} {i : Nat} {op : MemOp} (h : (t ++ u)[i]? = some op) : (i < t.size ∧ t[i]? = some op) ∨ (t.size ≤ i ∧ op ∈ u) := getElem?_append_cases h
theorem Tell.app (h : Tell E G t) {i : Nat} (hg : ∀ op ∈ u, op.g = i) (hi : i = 0 ∨ E.ours G i) (hr : ∀ op ∈ u, ∀ a, op.act ≠ .mark (.release a))
    (hw : ∀ op ∈ u, ∀ a, op.act.touch? = some a → a.write = true → (∀ k, k < E.K → a.loc ≠ .cell (E.sc (.done k))) ∧ ∀ ad v k, a.loc = .cell ad → G.app ad ≠ some (v, .pub k))
    (hc : ∀ op ∈ u, ∀ a, op.act.touch? = some a → a.kind = .plain → ∀ ad v k, a.loc = .cell ad → G.app ad ≠ some (v, .ctr k))
    (hq : E.ours G i → (G.th i).rel = none ∨ ∀ j op a, t.size ≤ j → (t ++ u)[j]? = some op → op.act.touch? = some a → a.kind = .atomic ∧ (a.loc = .cell (E.sc .wst) ∨ a.loc = .cell (E.sc .wsm)) ∧ ¬ (t ++ u).heard j) : Tell E G (t ++ u) := by
  refine ⟨fun j op a h1 h2 h3 => ?_, fun j op h1 h2 h3 => ?_, fun j ra hj => ?_, fun g hgo => ?_, fun k hk hd => ?_, fun hj g r hgo hrr => (h.join hj g r hgo hrr).app u⟩
  · rcases split_at h1 with ⟨hl, h1⟩ | ⟨hl, hu⟩
    · rcases h.known j op a h1 h2 h3 with k | k | k
      · exact .inl k
      · exact .inr (.inl (k.app u))
      · exact .inr (.inr k)
    · rcases hi with rfl | hi
      · right; left
        have := knows_own h1
        rw [hg op hu] at this; exact this
      · left; rw [hg op hu]; exact hi
  · rcases split_at h1 with ⟨hl, h1⟩ | ⟨hl, hu⟩
    · exact (h.over j op h1 h2 ((counts_app hl).1 h3)).imp id (·.app u)
    · rcases hi with rfl | hi
      · exact absurd (hg op hu) h2
      · left; rw [hg op hu]; exact hi
  · obtain ⟨op, ho, hoa⟩ := Option.map_eq_some_iff.1 hj
    rcases split_at ho with ⟨hl, ho⟩ | ⟨hl, hu⟩
    · exact h.norel j ra (by rw [act?_of ho, hoa])
    · exact absurd hoa (hr op hu ra)
  · rcases h.rel g hgo with a | ⟨r, a1, a2, a3, a4, a5⟩
    · exact .inl a
    · have hrl : r < t.size := lt_of_act? a2
      refine .inr ⟨r, a1, by rw [act?_old hrl]; exact a2, ?_, (heard_old hrl).2 a4, fun j op a hj h1 h2 h3 => ?_⟩
      · unfold Trace.g? at a3 ⊢; rw [getElem?_append_old hrl]; exact a3
      · rcases split_at h1 with ⟨hl, h1'⟩ | ⟨hl, hu⟩
        · obtain ⟨b1, b2, b3⟩ := a5 j op a hj h1' h2 h3
          exact ⟨b1, b2, fun e => b3 ((heard_old hl).1 e)⟩
        · have : g = i := by rw [← h2]; exact hg op hu
          subst this
          rcases hq hgo with e | e
          · rw [e] at a1; cases a1
          · exact e j op a hl h1 h3
  · obtain ⟨p, a1, a2, a3, a4⟩ := h.pub k hk hd
    refine ⟨p, a1.app fun op hop sync e => ?_, (heard_old (lt_of_act? a1.1)).2 a2, fun j op a ad v h1 h2 h3 h4 => ?_, fun j hj hp => (a4 j hj hp).app u⟩
    · exact (hw op hop ⟨.cell (E.sc (.done k)), true, if sync then .atomic else .plain⟩ (by rw [e]; rfl) rfl).1 k hk rfl
    · rcases split_at h1 with ⟨hl, h1⟩ | ⟨hl, hu⟩
      · exact (a3 j op a ad v h1 h2 h3 h4).app u
      · rcases h4 with ⟨h4, h5⟩ | ⟨h4, h5⟩
        · exact absurd h4 ((hw op hu a h2 h5).2 ad v k h3)
        · exact absurd h4 (hc op hu a h2 h5 ad v k h3)
theorem Tell.mute (h : Tell E G t) (hn : ∀ op ∈ u, op.act.touch? = none) (hr : ∀ op ∈ u, ∀ a, op.act ≠ .mark (.release a)) : Tell E G (t ++ u) := by
  refine ⟨fun j op a h1 h2 h3 => ?_, fun j op h1 h2 h3 => ?_, fun j ra hj => ?_, fun g hgo => ?_, fun k hk hd => ?_, fun hj g r hgo hrr => (h.join hj g r hgo hrr).app u⟩
  · rcases split_at h1 with ⟨hl, h1⟩ | ⟨hl, hu⟩
    · rcases h.known j op a h1 h2 h3 with k | k | k
      · exact .inl k
      · exact .inr (.inl (k.app u))
      · exact .inr (.inr k)
    · rw [hn op hu] at h2; cases h2
  · rcases split_at h1 with ⟨hl, h1⟩ | ⟨hl, hu⟩
    · exact (h.over j op h1 h2 ((counts_app hl).1 h3)).imp id (·.app u)
    · obtain ⟨x, hx, _⟩ := h3
      rw [act?_of h1] at hx
      simp only [Option.bind_some] at hx
      rw [hn op hu] at hx; cases hx
  · obtain ⟨op, ho, hoa⟩ := Option.map_eq_some_iff.1 hj
    rcases split_at ho with ⟨hl, ho⟩ | ⟨hl, hu⟩
    · exact h.norel j ra (by rw [act?_of ho, hoa])
    · exact absurd hoa (hr op hu ra)
  · rcases h.rel g hgo with a | ⟨r, a1, a2, a3, a4, a5⟩
    · exact .inl a
    · have hrl : r < t.size := lt_of_act? a2
      refine .inr ⟨r, a1, by rw [act?_old hrl]; exact a2, ?_, (heard_old hrl).2 a4, fun j op a hj h1 h2 h3 => ?_⟩
      · unfold Trace.g? at a3 ⊢; rw [getElem?_append_old hrl]; exact a3
      · rcases split_at h1 with ⟨hl, h1'⟩ | ⟨hl, hu⟩
        · obtain ⟨b1, b2, b3⟩ := a5 j op a hj h1' h2 h3
          exact ⟨b1, b2, fun e => b3 ((heard_old hl).1 e)⟩
        · rw [hn op hu] at h3; cases h3
  · obtain ⟨p, a1, a2, a3, a4⟩ := h.pub k hk hd
    refine ⟨p, a1.app fun op hop sync e => ?_, (heard_old (lt_of_act? a1.1)).2 a2, fun j op a ad v h1 h2 h3 h4 => ?_, fun j hj hp => (a4 j hj hp).app u⟩
    · have := hn op hop
      rw [e] at this
      simp [MemAct.touch?] at this
    · rcases split_at h1 with ⟨hl, h1⟩ | ⟨hl, hu⟩
      · exact (a3 j op a ad v h1 h2 h3 h4).app u
      · rw [hn op hu] at h2; cases h2
theorem mem_evs {i : Nat} {fn : FuncId} {pos : String} {es : Array Event} {op : MemOp} (h : op ∈ MemOp.ofEvents i fn pos es) : ∃ e ∈ es, op = { g := i, fn, pos, act := .ofEvent e } := by
  rw [ofEvents_eq] at h
  obtain ⟨e, he, rfl⟩ := Array.mem_map.1 h
  exact ⟨e, he, rfl⟩
theorem PEv.touch {own : Nat → Prop} {e : Event} (h : PEv own e) : (MemAct.ofEvent e).touch? = none ∨ (∃ a wr kd, (MemAct.ofEvent e).touch? = some ⟨.cell a, wr, kd⟩ ∧ kd ≠ .said ∧ own a.block) ∨ ∃ r wr, (MemAct.ofEvent e).touch? = some ⟨.obj r, wr, .plain⟩ ∧ own r := by
  rcases h with ⟨a, wr, s, rfl, h⟩ | ⟨r, wr, rfl, h⟩ | ⟨m, wr, s, rfl, h⟩
  · exact .inr (.inl ⟨a, wr, if s then .atomic else .plain, by cases s <;> rfl, by cases s <;> simp, h⟩)
  · exact .inr (.inr ⟨r, wr, by cases wr <;> rfl, h⟩)
  · left
    rcases h with h | ⟨a, rfl | rfl, _⟩
    · exact Neutral.touch h
    · cases wr <;> cases s <;> rfl
    · cases wr <;> cases s <;> rfl
theorem PEv.act {own : Nat → Prop} {e : Event} (h : PEv own e) : MemAct.ofEvent e ≠ .mark .disable ∧ MemAct.ofEvent e ≠ .mark .enable ∧ (∀ a, MemAct.ofEvent e ≠ .mark (.release a)) := by
  rcases h with ⟨a, wr, s, rfl, h⟩ | ⟨r, wr, rfl, h⟩ | ⟨m, wr, s, rfl, h⟩
  · exact ⟨by simp [MemAct.ofEvent], by simp [MemAct.ofEvent], by simp [MemAct.ofEvent]⟩
  · cases wr <;> exact ⟨by simp [MemAct.ofEvent], by simp [MemAct.ofEvent], by simp [MemAct.ofEvent]⟩
  · rcases h with h | ⟨a, rfl | rfl, _⟩
    · unfold Neutral at h; subst h
      exact ⟨by simp [MemAct.ofEvent], by simp [MemAct.ofEvent], by simp [MemAct.ofEvent]⟩
    · exact ⟨by simp [MemAct.ofEvent], by simp [MemAct.ofEvent], by simp [MemAct.ofEvent]⟩
    · exact ⟨by simp [MemAct.ofEvent], by simp [MemAct.ofEvent], by simp [MemAct.ofEvent]⟩
theorem PEv.low {own : Nat → Prop} {e : Event} {B : Nat} (h : PEv own e) (hB : ∀ b, own b → b < B) : (MemAct.ofEvent e).low B := by
  rcases h with ⟨a, wr, s, rfl, h⟩ | ⟨r, wr, rfl, h⟩ | ⟨m, wr, s, rfl, h⟩
  · exact hB _ h
  · cases wr <;> exact hB _ h
  · rcases h with h | ⟨a, rfl | rfl, h⟩
    · unfold Neutral at h; subst h; trivial
    · exact hB _ h
    · exact hB _ h
theorem cell_block {w : World} {a : Addr} {v : Value} (h : w.cell? a = some v) : a.block < w.heap.size := by
  unfold World.cell? at h
  split at h
  · rename_i hb; exact (Array.getElem?_eq_some_iff.1 hb).1
  · cases h
theorem cell_same {w w' : World} {a : Addr} (h : w'.heap[a.block]? = w.heap[a.block]?) : w'.cell? a = w.cell? a ∧ w'.frozen? a = w.frozen? a := by
  unfold World.cell? World.frozen?; rw [h]; exact ⟨rfl, rfl⟩
theorem GI.own_away (h : GI E G w t) {i b : Nat} (hi : (G.th i).live = true) (hb : (G.th i).own b ∨ w.heap.size ≤ b) {a : Addr} (ha : a.block = b) :
    (∀ j, j ≠ i → ¬ ((E.dis G).W j (.cell a))) ∧ (∀ j, ¬ (E.dis G).R j (.cell a)) ∧ (∀ j, ¬ (E.dis G).A j (.cell a)) ∧ G.app a = none := by
  have happ : G.app a = none := by
    cases e : G.app a with
    | none => rfl
    | some p =>
      rcases hb with hb | hb
      · exact absurd ha ((h.s.nsh i b hi hb).2.1 a p e)
      · have := cell_block (h.m.app a p.1 p.2 e).1; omega
  have hsc : ∀ x, x.ok E.K → a ≠ E.sc x := by
    intro x hx e
    rcases hb with hb | hb
    · exact (h.s.nsh i b hi hb).1 x hx (e ▸ ha)
    · have := cell_block (h.m.sync x hx).1; rw [← e] at this; omega
  refine ⟨fun j hj hw => ?_, fun j hr => ?_, fun j hr => ?_, happ⟩
  · obtain ⟨hl, hw⟩ := hw
    rcases hw with hw | ⟨v, k, hv, _⟩ | ⟨v, k, hv, _⟩
    · rcases hb with hb | hb
      · exact h.s.apart i j b hi hl (Ne.symm hj) hb (ha ▸ hw)
      · have := h.s.old j _ hl hw; omega
    · rw [happ] at hv; cases hv
    · rw [happ] at hv; cases hv
  · obtain ⟨_, v, hv | ⟨k, hv, _⟩⟩ := hr <;> rw [happ] at hv <;> cases hv
  · obtain ⟨_, ⟨x, hx, e⟩ | ⟨v, _, hv, _⟩⟩ := hr
    · exact hsc x hx e
    · rw [happ] at hv; cases hv
end Go.Co

namespace Go.Co
open Go Go.Conc
open Go.ConcM (OsLater)
open Go.ConcN (sumTo upd sumTo_upd upd_ne upd_same sumTo_congr le_sumTo sumTo_le)
variable {E : Geo} {G G' : Gh} {w w' : World} {t u : Trace} {B B' : Nat}
theorem GI.ours (h : GI E G w t) {i : Nat} (hi : (G.th i).live = true) : i = 0 ∨ E.ours G i := by
  obtain ⟨h1, h2⟩ := h.a.liveW i hi
  exact h2.imp id fun h2 => ⟨h2, h1⟩
theorem act_ofEvent_loc {e : Event} {m : Mark} (h : MemAct.ofEvent e = .mark m) : e.loc = .mark m := Go.ConcR.loc_of_ofEvent h
theorem GI.priv (h : GI E G w t) {i : Nat} {es : Array Event} (fn : FuncId) (pos : String) (hi : (G.th i).live = true) (hrel : (G.th i).rel = none ∨ ∀ e ∈ es, (MemAct.ofEvent e).touch? = none) (p : Priv (G.th i).own w w' es) :
    GI E { G with th := upd G.th i ((G.th i).grow w.heap.size w'.heap.size) } w' (t ++ MemOp.ofEvents i fn pos es) := by
  have hg : ∀ op ∈ MemOp.ofEvents i fn pos es, op.g = i := g_ofEvents
  have hlt := (h.a.liveW i hi).1
  refine ⟨?_, ?_, ?_, ?_, ?_, ?_, h.more, ?_⟩
  · exact h.a.tr rfl rfl fun j => fld Lo.live (by rfl) j
  · -- whose blocks
    have hown : ∀ j b, (upd G.th i ((G.th i).grow w.heap.size w'.heap.size) j).own b → (G.th j).own b ∨ (j = i ∧ w.heap.size ≤ b ∧ b < w'.heap.size) := by
      intro j b hb
      by_cases e : j = i
      · subst e
        rw [upd_same] at hb
        exact hb.imp id fun x => ⟨rfl, x⟩
      · rw [upd_ne _ _ e] at hb; exact .inl hb
    have hlive : ∀ j, (upd G.th i ((G.th i).grow w.heap.size w'.heap.size) j).live = (G.th j).live := fun j => fld Lo.live (by rfl) j
    refine ⟨fun a b c ha hb hab hac hbc => ?_, fun a b ha hab => ?_, fun a b ha hab => ?_, h.s.shun, Nat.le_trans h.s.size p.size, h.s.nshA⟩
    · simp only [hlive] at ha hb
      rcases hown a c hac with x | ⟨x1, x2, x3⟩ <;> rcases hown b c hbc with y | ⟨y1, y2, y3⟩
      · exact h.s.apart a b c ha hb hab x y
      · have := h.s.old a c ha x; omega
      · have := h.s.old b c hb y; omega
      · omega
    · simp only [hlive] at ha
      rcases hown a b hab with x | ⟨_, _, x3⟩
      · exact Nat.lt_of_lt_of_le (h.s.old a b ha x) p.size
      · exact x3
    · simp only [hlive] at ha
      rcases hown a b hab with x | ⟨_, x2, _⟩
      · exact h.s.nsh a b ha x
      · refine ⟨fun x hx e => ?_, fun ad v hv e => ?_, fun hC e => ?_, fun hs => ?_⟩
        · have := cell_block (h.m.sync x hx).1; omega
        · have := cell_block (h.m.app ad v.1 v.2 hv).1; omega
        · obtain ⟨⟨s, r, hc⟩, _⟩ := h.m.chan hC
          have := (Array.getElem?_eq_some_iff.1 hc).1; omega
        · have := h.s.shun b hs; have := h.s.size; omega
  · refine GIm.tr (G := G) ?_ (fun x => by cases x <;> rfl) rfl rfl
    refine h.m.world (fun a ha => ?_) (fun hC => ?_) p.tape p.output (by rw [p.os]; exact OsLater.refl _)
    · have hb : ¬ (G.th i).own a.block ∧ a.block < w.heap.size := by
        rcases ha with ⟨x, hx, rfl⟩ | ⟨v, hv⟩
        · exact ⟨fun e => (h.s.nsh i _ hi e).1 x hx rfl, cell_block (h.m.sync x hx).1⟩
        · exact ⟨fun e => (h.s.nsh i _ hi e).2.1 a v hv rfl, cell_block (h.m.app a v.1 v.2 hv).1⟩
      exact cell_same (p.block _ hb.1 hb.2)
    · obtain ⟨⟨s, r, hc⟩, _⟩ := h.m.chan hC
      exact p.block _ (fun e => (h.s.nsh i _ hi e).2.2.1 hC rfl) (Array.getElem?_eq_some_iff.1 hc).1
  · exact h.k.tr rfl rfl rfl rfl rfl fun j => ⟨fld Lo.live (by rfl) j, fld Lo.mr (by rfl) j, fld Lo.run (by rfl) j, fld Lo.pas (by rfl) j, fld Lo.kn (by rfl) j⟩
  · exact h.g.tr rfl rfl rfl rfl rfl rfl fun j => ⟨fld Lo.live (by rfl) j, fld Lo.wk (by rfl) j, fld Lo.gr (by rfl) j⟩
  · exact h.j.tr rfl rfl rfl rfl rfl rfl rfl fun j => ⟨fld Lo.live (by rfl) j, fld Lo.ch (by rfl) j, fld Lo.job (by rfl) j, fld Lo.mr (by rfl) j, fld Lo.gr (by rfl) j, fld Lo.me (by rfl) j, fld Lo.sc (by rfl) j⟩
  · have hth : ∀ j, (upd G.th i ((G.th i).grow w.heap.size w'.heap.size) j).live = (G.th j).live ∧ (upd G.th i ((G.th i).grow w.heap.size w'.heap.size) j).run = (G.th j).run ∧ (upd G.th i ((G.th i).grow w.heap.size w'.heap.size) j).pas = (G.th j).pas ∧
        (upd G.th i ((G.th i).grow w.heap.size w'.heap.size) j).rel = (G.th j).rel ∧ (upd G.th i ((G.th i).grow w.heap.size w'.heap.size) j).gr = (G.th j).gr ∧ (upd G.th i ((G.th i).grow w.heap.size w'.heap.size) j).deaf = (G.th j).deaf :=
      fun j => ⟨fld Lo.live (by rfl) j, fld Lo.run (by rfl) j, fld Lo.pas (by rfl) j, fld Lo.rel (by rfl) j, fld Lo.gr (by rfl) j, fld Lo.deaf (by rfl) j⟩
    have hdeaf : ∀ op ∈ MemOp.ofEvents i fn pos es, op.act ≠ .mark .disable ∧ op.act ≠ .mark .enable := fun op hop => by
      obtain ⟨e, he, rfl⟩ := mem_evs hop
      exact ⟨(p.evs e he).act.1, (p.evs e he).act.2.1⟩
    refine ⟨?_, fun j hj => ?_, fun j hj => ?_, ?_⟩
    · -- rights
      have hti : TI (E.dis { G with th := upd G.th i ((G.th i).grow w.heap.size w'.heap.size) }) w.heap.size t := by
        refine h.t.ti.change (fun g l hw => ?_) (fun g l hw => ?_) (fun g l hw => ?_) (fun g l hw => .inl hw)
        · obtain ⟨hl, hw⟩ := hw
          simp only [(hth g).1] at hl
          cases l with
          | cell a =>
            rcases hw with hw | ⟨v, k, hv, hw⟩ | hw
            · by_cases e : g = i
              · subst e
                simp only [upd_same] at hw
                rcases hw with hw | hw
                · exact .inl ⟨hl, .inl hw⟩
                · right
                  intro j b hb hbl
                  have := h.t.ti.fresh hb
                  rw [hbl] at this
                  simp only [Loc.low] at this
                  omega
              · simp only [upd_ne _ _ e] at hw; exact .inl ⟨hl, .inl hw⟩
            · left
              refine ⟨hl, .inr (.inl ⟨v, k, hv, ?_⟩)⟩
              rcases hw with hw | hw
              · exact .inl (by rw [← (hth g).2.1]; exact hw)
              · exact .inr fun j hj => by have := hw j (by rw [(hth j).1]; exact hj); rwa [(hth j).2.1] at this
            · exact .inl ⟨hl, .inr (.inr hw)⟩
          | obj r =>
            by_cases e : g = i
            · subst e
              simp only [upd_same] at hw
              rcases hw with hw | hw
              · exact .inl ⟨hl, hw⟩
              · right
                intro j b hb hbl
                have := h.t.ti.fresh hb
                rw [hbl] at this
                simp only [Loc.low] at this
                omega
            · simp only [upd_ne _ _ e] at hw; exact .inl ⟨hl, hw⟩
          | _ => exact hw.elim
        · obtain ⟨hl, hw⟩ := hw
          simp only [(hth g).1] at hl
          left
          cases l with
          | cell a => exact ⟨hl, by obtain ⟨v, hv | ⟨k, hv, hp⟩⟩ := hw
                                    · exact ⟨v, .inl hv⟩
                                    · exact ⟨v, .inr ⟨k, hv, by rw [← (hth g).2.2.1]; exact hp⟩⟩⟩
          | _ => exact hw.elim
        · obtain ⟨hl, hw⟩ := hw
          simp only [(hth g).1] at hl
          left
          cases l with
          | cell a =>
            refine ⟨hl, ?_⟩
            rcases hw with hw | ⟨v, k, hv, hp⟩
            · exact .inl hw
            · exact .inr ⟨v, k, hv, by rw [← (hth g).2.2.1]; exact hp⟩
          | obj r => exact ⟨hl, hw⟩
          | _ => exact hw.elim
      refine hti.step hg (fun op hop b hb => ?_) p.size (fun op hop => ?_)
      · obtain ⟨e, he, rfl⟩ := mem_evs hop
        have hown' : ∀ c, ((G.th i).own c ∨ (w.heap.size ≤ c ∧ c < w'.heap.size)) → (upd G.th i ((G.th i).grow w.heap.size w'.heap.size) i).own c := fun c hc => by rw [upd_same]; exact hc
        have hli : (upd G.th i ((G.th i).grow w.heap.size w'.heap.size) i).live = true := by rw [(hth i).1]; exact hi
        rcases (p.evs e he).touch with k | ⟨a, wr, kd, k, hs, ho⟩ | ⟨r, wr, k, ho⟩
        · rw [k] at hb; cases hb
        · rw [k] at hb; cases hb
          obtain ⟨a1, a2, a3, a4⟩ := h.own_away hi (ho.imp id fun x => x.1) rfl
          refine ⟨.inl ⟨hli, .inl (hown' _ ho)⟩, fun j hj => ⟨fun hw => ?_, fun _ hw => ?_, fun _ hw => ?_, fun hk => absurd hk hs⟩⟩
          · obtain ⟨hl, hw⟩ := hw
            simp only [(hth j).1] at hl
            refine a1 j hj ⟨hl, ?_⟩
            rcases hw with hw | ⟨v, k, hv, _⟩ | ⟨v, k, hv, _⟩
            · simp only [upd_ne _ _ hj] at hw; exact .inl hw
            · rw [a4] at hv; cases hv
            · rw [a4] at hv; cases hv
          · obtain ⟨_, v, hv | ⟨k, hv, _⟩⟩ := hw <;> rw [a4] at hv <;> cases hv
          · obtain ⟨hl, hw⟩ := hw
            simp only [(hth j).1] at hl
            refine a3 j ⟨hl, ?_⟩
            rcases hw with hw | ⟨v, k, hv, hp⟩
            · exact .inl hw
            · rw [a4] at hv; cases hv
        · rw [k] at hb; cases hb
          refine ⟨.inl ⟨hli, hown' _ ho⟩, fun j hj => ⟨fun hw => ?_, fun _ hw => hw.2.elim, fun _ hw => ?_, fun hk => by cases hk⟩⟩
          · obtain ⟨hl, hw⟩ := hw
            simp only [(hth j).1] at hl
            simp only [upd_ne _ _ hj] at hw
            rcases ho with ho | ⟨ho, _⟩
            · exact h.s.apart i j r hi hl (Ne.symm hj) ho hw
            · have := h.s.old j r hl hw; omega
          · obtain ⟨_, hC, rfl⟩ := hw
            rcases ho with ho | ⟨ho, _⟩
            · exact (h.s.nsh i _ hi ho).2.2.1 hC rfl
            · obtain ⟨⟨s, r, hc⟩, _⟩ := h.m.chan hC
              have := (Array.getElem?_eq_some_iff.1 hc).1; omega
      · obtain ⟨e, he, rfl⟩ := mem_evs hop
        refine (p.evs e he).low fun b hb => ?_
        rcases hb with hb | hb
        · exact Nat.lt_of_lt_of_le (h.s.old i b hi hb) p.size
        · exact hb.2
    · simp only [(hth j).1] at hj
      rw [(hth j).2.2.2.2.2, Go.ConcN.Deaf_still _ _ _ hdeaf]
      exact h.t.deaf j hj
    · rw [Go.ConcN.Deaf_still _ _ _ hdeaf]
      exact h.t.quiet j hj
    · refine (h.t.tell.app hg (h.ours hi) (fun op hop => ?_) (fun op hop a ha hwr => ?_) (fun op hop a ha hk ad v k el => ?_) (fun ho => ?_)).tr' rfl rfl rfl fun j => ⟨(hth j).1, (hth j).2.2.1, (hth j).2.2.2.1, by rw [(hth j).2.2.2.2.1], by rw [(hth j).2.2.2.2.1]⟩
      · obtain ⟨e, he, rfl⟩ := mem_evs hop; exact fun a => (p.evs e he).act.2.2 a
      · obtain ⟨e, he, rfl⟩ := mem_evs hop
        rcases (p.evs e he).touch with k | ⟨ad, wr, kd, k, _, hob⟩ | ⟨r, wr, k, hob⟩
        · rw [k] at ha; cases ha
        · rw [k] at ha; cases ha
          obtain ⟨_, _, a3, a4⟩ := h.own_away hi (hob.imp id fun x => x.1) rfl
          refine ⟨fun k hk e => ?_, fun ad' v k e => ?_⟩
          · simp only [Loc.cell.injEq] at e
            exact a3 i ⟨hi, .inl ⟨.done k, hk, e⟩⟩
          · simp only [Loc.cell.injEq] at e
            subst e; rw [a4]; simp
        · rw [k] at ha; cases ha
          exact ⟨fun k hk e => (by cases e), fun ad v k e => (by cases e)⟩
      · obtain ⟨e, he, rfl⟩ := mem_evs hop
        rcases (p.evs e he).touch with k' | ⟨ad', wr, kd, k', _, hob⟩ | ⟨r, wr, k', hob⟩
        · rw [k'] at ha; cases ha
        · rw [k'] at ha; cases ha
          obtain ⟨_, _, a3, a4⟩ := h.own_away hi (hob.imp id fun x => x.1) rfl
          simp only [Loc.cell.injEq] at el
          subst el; rw [a4]; simp
        · rw [k'] at ha; cases ha
          cases el
      · rcases hrel with x | x
        · exact .inl x
        · right
          intro j op a hj hop ha
          obtain ⟨_, hu⟩ := (split_at hop).resolve_left (fun y => by omega)
          obtain ⟨e, he, rfl⟩ := mem_evs hu
          simp only at ha
          rw [x e he] at ha; cases ha
end Go.Co

namespace Go.Co
open Go Go.Conc
open Go.ConcM (OsLater)
open Go.ConcN (sumTo upd sumTo_upd upd_ne upd_same sumTo_congr le_sumTo sumTo_le)
variable {E : Geo} {G G' : Gh} {w w' : World} {t u : Trace} {B B' : Nat}
theorem sumTo_pos {f : Nat → Nat} : ∀ {n : Nat}, 0 < sumTo n f → ∃ i, i < n ∧ 0 < f i
  | n + 1, h => by
    by_cases e : 0 < f n
    · exact ⟨n, by omega, e⟩
    · simp only [sumTo] at h
      obtain ⟨i, hi, hf⟩ := sumTo_pos (n := n) (f := f) (by omega)
      exact ⟨i, by omega, hf⟩
theorem GI.draw (h : GI E G w t) (d : Nat) : GI E G (w.at d) t :=
  ⟨h.a, h.s, h.m.world (fun _ _ => ⟨rfl, rfl⟩) (fun _ => rfl) rfl rfl (OsLater.refl _), h.k, h.g, h.j, h.more, h.t⟩
theorem mute_evs {j : Nat} {fn : FuncId} {pos : String} {es : Array Event} (hm : ∀ e ∈ es, Event.mute e = true) : ∀ op ∈ MemOp.ofEvents j fn pos es, op.act.touch? = none ∧ (∀ a, op.act ≠ .mark (.release a)) ∧ ∀ B, op.act.low B := by
  intro op hop
  obtain ⟨e, he, rfl⟩ := mem_evs hop
  refine ⟨touch_mute (hm e he), fun a h => ?_, fun B => low_mute (hm e he) B⟩
  have := act_ofEvent_loc h
  have h2 := hm e he
  obtain ⟨l, wr, s⟩ := e
  simp only at this
  subst this
  cases h2
theorem GI.mute (h : GI E G w t) {j : Nat} {es : Array Event} (fn : FuncId) (pos : String) (hj : ¬ (G.th j).live = true) (hn : j < G.n) (hm : ∀ e ∈ es, Event.mute e = true) : GI E G w (t ++ MemOp.ofEvents j fn pos es) := by
  have hu := mute_evs (j := j) (fn := fn) (pos := pos) hm
  refine ⟨h.a, h.s, h.m, h.k, h.g, h.j, h.more, h.t.ti.mute (fun op hop => (hu op hop).1) (Nat.le_refl _) (fun op hop => (hu op hop).2.2 _), fun i hi => ?_, fun i hi => ?_, h.t.tell.mute (fun op hop => (hu op hop).1) (fun op hop a => (hu op hop).2.1 a)⟩
  · rw [Deaf_other t (g' := j) (fun e => hj (e ▸ hi)) _ g_ofEvents]; exact h.t.deaf i hi
  · rw [Deaf_other t (g' := j) (by omega) _ g_ofEvents]; exact h.t.quiet i hi
theorem GI.alone (h : GI E G w t) (hg : (G.th 0).gr = .thru ∨ (G.th 0).gr = .joined) : ∀ i, (G.th i).live = true → i = 0 := by
  intro i hi
  apply Classical.byContradiction
  intro h0
  obtain ⟨hin, _⟩ := h.a.liveW i hi
  obtain ⟨hwn, hp, hl⟩ := h.g.thru hg
  have hn := h.g.n
  have hm := h.g.m
  have ha := h.g.a
  have e0 : ¬ (G.th 0).gr = .waits := by rcases hg with e | e <;> rw [e] <;> simp
  rw [if_neg e0] at hm
  obtain ⟨hwk, hgr⟩ := (h.g.role i hi).2 h0
  have b1 := le_sumTo (f := fun i => (G.th i).busy) hin
  have b2 := le_sumTo (f := fun i => (G.th i).lasts) hin
  have b3 := le_sumTo (f := fun i => (G.th i).lastsS) hin
  rcases hgr with e | e | e | e
  · have : (G.th i).busy = 1 := by unfold Lo.busy; rw [if_pos ⟨hi, hwk, .inl e⟩]
    omega
  · have : (G.th i).busy = 1 := by unfold Lo.busy; rw [if_pos ⟨hi, hwk, .inr e⟩]
    omega
  · have : (G.th i).lasts = 1 := by unfold Lo.lasts; rw [if_pos ⟨hi, e⟩]
    omega
  · have : (G.th i).lastsS = 1 := by unfold Lo.lastsS; rw [if_pos ⟨hi, e⟩]
    omega
theorem GI.free (h : GI E G w t) {i k : Nat} (hi : (G.th i).live = true) (hm : (G.th i).mr = some (k, .queued)) (hs : G.sm k = 0) : ∃ j r, (G.th j).live = true ∧ (G.th j).mr = some (k, r) ∧ r ≠ .queued := by
  obtain ⟨hk, _⟩ := h.k.mrK i k _ hi hm
  have hmu := h.k.mu k hk
  have hc : 0 < G.cnt k .queued := by
    have := le_sumTo (f := fun i => (G.th i).at k .queued) (h.a.liveW i hi).1
    have e : (G.th i).at k .queued = 1 := by unfold Lo.at; rw [if_pos ⟨hi, hm⟩]
    simp only [e] at this
    exact this
  have get : ∀ r, 0 < G.cnt k r → r ≠ .queued → ∃ j r, (G.th j).live = true ∧ (G.th j).mr = some (k, r) ∧ r ≠ .queued := by
    intro r hr hne
    obtain ⟨j, _, hj⟩ := sumTo_pos hr
    unfold Lo.at at hj
    split at hj
    · rename_i hx; exact ⟨j, r, hx.1, hx.2, hne⟩
    · omega
  rcases hmu.alive hc with h0 | h0
  · omega
  · have : 0 < G.cnt k .held ∨ 0 < G.cnt k .tok ∨ 0 < G.cnt k .wok ∨ 0 < G.cnt k (.hand true) ∨ 0 < G.cnt k (.hand false) ∨ 0 < G.cnt k .relN ∨ 0 < G.cnt k .owe ∨ 0 < G.cnt k .relS := by omega
    rcases this with x | x | x | x | x | x | x | x <;> exact get _ x (by simp)
theorem GI.prog (h : GI E G w t) (hall : ∀ i, (G.th i).live = true → G.PK E i ∨ (i ≠ 0 ∧ (G.th i).ch = .recv ∧ G.cl = false) ∨ (i = 0 ∧ ∃ v, (G.th i).ch = .send v))
    (hmeet : ∀ v i, (G.th 0).ch = .send v → ¬ G.PK E 0 → (G.th i).live = true → ¬ G.PK E i → (G.th i).ch ≠ .recv) : False := by
  -- whoever waits at a mutex does not wait alone
  have noPK : ∀ i k, (G.th i).live = true → (G.th i).mr = some (k, .queued) → G.sm k = 0 → False := by
    intro i k hi hm hs
    obtain ⟨j, r, hj, hmj, hr⟩ := h.free hi hm hs
    obtain ⟨_, hj0⟩ := h.k.mrK j k r hj hmj
    rcases hall j hj with (⟨k', e, _⟩ | ⟨e, _⟩) | ⟨_, e, _⟩ | ⟨e, _⟩
    · rw [hmj] at e; cases e; exact hr rfl
    · exact hj0 e
    · have := (h.j.chR j hj e).2.2.1; rw [hmj] at this; cases this
    · exact hj0 e
  have notPK : ∀ i, (G.th i).live = true → i ≠ 0 → ¬ G.PK E i := by
    rintro i hi h0 (⟨k, e, hs⟩ | ⟨e, _⟩)
    · exact noPK i k hi e hs
    · exact h0 e
  rcases hall 0 h.a.live0 with (⟨k, e, hs⟩ | ⟨_, hw, hs⟩) | ⟨e, _⟩ | ⟨_, v, hv⟩
  · exact noPK 0 k h.a.live0 e hs
  · -- goroutine 0 waits for the group
    have hm := h.g.m
    rw [if_pos hw, hs] at hm
    have hC : ∀ i, (G.th i).live = true → i ≠ 0 → False := by
      intro i hi h0
      rcases hall i hi with x | ⟨_, x, y⟩ | ⟨x, _⟩
      · exact notPK i hi h0 x
      · by_cases hc : E.hasC = true
        · have := h.j.shutW hc (by rw [hw]; simp)
          rw [y] at this; cases this
        · have := h.j.noC (by simpa using hc) i hi
          rw [x] at this; cases this
      · exact h0 x
    have live1 : ∀ (f : Lo → Nat), (∀ l, 0 < f l → l.live = true ∧ l.gr ≠ .waits) → 0 < sumTo G.n (fun i => f (G.th i)) → False := by
      intro f hf hp
      obtain ⟨i, _, hi⟩ := sumTo_pos hp
      obtain ⟨a, b⟩ := hf _ hi
      refine hC i a fun e => ?_
      subst e
      exact b hw
    have hl1 : ¬ 0 < sumTo G.n fun i => (G.th i).lasts := live1 Lo.lasts fun l hl => by
      unfold Lo.lasts at hl; split at hl
      · rename_i x; exact ⟨x.1, by rw [x.2]; simp⟩
      · omega
    have hl2 : ¬ 0 < sumTo G.n fun i => (G.th i).lastsS := live1 Lo.lastsS fun l hl => by
      unfold Lo.lastsS at hl; split at hl
      · rename_i x; exact ⟨x.1, by rw [x.2]; simp⟩
      · omega
    have hl3 : ¬ 0 < sumTo G.n fun i => (G.th i).busy := live1 Lo.busy fun l hl => by
      unfold Lo.busy at hl; split at hl
      · rename_i x; exact ⟨x.1, by rcases x.2.2 with e | e <;> rw [e] <;> simp⟩
      · omega
    obtain ⟨hp, _⟩ := h.g.wait0 (.inr hw)
    have hn := h.g.n
    exact hl1 (h.g.w (by omega) (by omega))
  · exact e rfl
  · -- goroutine 0 has something to send
    obtain ⟨_, _, _, hcl, hl, _⟩ := h.j.ch0 0 v h.a.live0 hv
    by_cases hc : E.hasC = true
    · have hany := h.j.any hc hl
      have ho : E.ours G E.n0 := ⟨Nat.le_refl _, hany⟩
      obtain ⟨hi, _⟩ := h.j.stay hc hcl E.n0 ho
      have h0 : E.n0 ≠ 0 := by have := h.a.pos0.1; omega
      rcases hall E.n0 hi with x | ⟨_, x, _⟩ | ⟨x, _⟩
      · exact notPK _ hi h0 x
      · refine hmeet v E.n0 hv ?_ hi (notPK _ hi h0) x
        rintro (⟨k, e, hs⟩ | ⟨_, e, _⟩)
        · exact noPK 0 k h.a.live0 e hs
        · have := (h.j.ch0 0 v h.a.live0 hv).2.2.2.2.2; rw [this] at e; cases e
      · exact h0 x
    · have := h.j.noC (by simpa using hc) 0 h.a.live0
      rw [hv] at this; cases this
end Go.Co

namespace Go.Co
open Go Go.Conc
open Go.ConcM (OsLater)
open Go.ConcN (sumTo upd sumTo_upd upd_ne upd_same sumTo_congr le_sumTo sumTo_le)
variable {E : Geo} {G G' : Gh} {w w' : World} {t u : Trace} {B B' : Nat}
theorem cell_elsewhere {w : World} {r : Nat} {o : Obj} {a : Addr} (h : a.block ≠ r) {w' : World} (hw : w'.heap = w.heap.setIfInBounds r o) : w'.cell? a = w.cell? a ∧ w'.frozen? a = w.frozen? a :=
  cell_same (by rw [hw, Array.getElem?_setIfInBounds_ne (Ne.symm h)])
theorem pass_mute {c s r k : Nat} {f0 fk : FuncId} {p0 pk : String} : ∀ op ∈ passOps c s r k f0 fk p0 pk, op.act.touch? = none ∧ (∀ m, op.act ≠ .mark m) ∧ (c < B → op.act.low B) := by
  intro op hop
  simp only [passOps, List.mem_toArray, List.mem_cons, List.not_mem_nil, or_false] at hop
  rcases hop with rfl | rfl | rfl | rfl <;> exact ⟨rfl, fun m => by simp, id⟩
theorem sentTo_succ (rs : Nat → Option Nat) (r p : Nat) : sentTo rs r (p + 1) = sentTo rs r p + if rs p = some r then 1 else 0 := rfl
theorem fld2 {α : Type} {th : Nat → Lo} {i k : Nat} {l m : Lo} (f : Lo → α) (h : f l = f (th i)) (h2 : f m = f (th k)) (j : Nat) : f (upd (upd th i l) k m j) = f (th j) := by
  by_cases e : j = k
  · subst e; rw [upd_same, h2]
  · rw [upd_ne _ _ e]; exact fld f h j
theorem GI.deliver (h : GI E G w t) {k s r : Nat} {v : Value} (d : Nat) (f0 fk : FuncId) (p0 pk : String) (hk : (G.th k).live = true) (hk0 : k ≠ 0) (h0 : (G.th 0).ch = .send v) (hr : (G.th k).ch = .recv) (hc : w.heap[E.c]? = some (.chan 0 #[] false s r false)) :
    ∃ G', GI E G' ((w.at d).setChan E.c 0 #[] false (s + 1) (r + 1) false) (t ++ passOps E.c s r k f0 fk p0 pk) ∧ G'.Φ E.K E.nj < G.Φ E.K E.nj ∧ G'.th 0 = { G.th 0 with ch := .no, me := { (G.th 0).me with pos := (G.th 0).me.pos + 1 } } ∧ (∃ j, v = E.jv j ∧ G'.th k = { G.th k with ch := .no, job := some j }) ∧ G'.n = G.n ∧ G'.cl = G.cl ∧
      (∀ j, (G'.th j).live = (G.th j).live) ∧ (∀ j, j ≠ 0 → j ≠ k → G'.th j = G.th j) ∧ (∀ j, G.PK E j → G'.PK E j) := by
  have hl0 := h.a.live0
  obtain ⟨_, hpos, hv, hcl, hleft, hgr0⟩ := h.j.ch0 0 v hl0 h0
  obtain ⟨_, hjob, hmr, hgrk⟩ := h.j.chR k hk hr
  have hC : E.hasC = true := by
    by_cases e : E.hasC = true
    · exact e
    · have := h.j.noC (by simpa using e) 0 hl0; rw [h0] at this; cases this
  have hcb : E.c < w.heap.size := (Array.getElem?_eq_some_iff.1 hc).1
  have hkn := (h.a.liveW k hk).1
  have h0n := (h.a.liveW 0 hl0).1
  let th' := upd (upd G.th 0 { G.th 0 with ch := .no, me := { (G.th 0).me with pos := (G.th 0).me.pos + 1 } }) k { G.th k with ch := .no, job := some G.pos }
  let G' : Gh := { G with th := th', pos := G.pos + 1, tk := upd G.tk G.pos (some k) }
  have t0 : th' 0 = { G.th 0 with ch := .no, me := { (G.th 0).me with pos := (G.th 0).me.pos + 1 } } := by show upd _ _ _ 0 = _; rw [upd_ne _ _ (Ne.symm hk0), upd_same]
  have tk : th' k = { G.th k with ch := .no, job := some G.pos } := upd_same ..
  have tj : ∀ j, j ≠ 0 → j ≠ k → th' j = G.th j := fun j a b => by show upd _ _ _ j = _; rw [upd_ne _ _ b, upd_ne _ _ a]
  have F : ∀ {α : Type} (f : Lo → α), (f { G.th 0 with ch := .no, me := { (G.th 0).me with pos := (G.th 0).me.pos + 1 } } = f (G.th 0)) → (f { G.th k with ch := .no, job := some G.pos } = f (G.th k)) → ∀ j, f (th' j) = f (G.th j) := fun f a b j => fld2 f a b j
  have S : ∀ (f : Lo → Nat), (f { G.th 0 with ch := .no, me := { (G.th 0).me with pos := (G.th 0).me.pos + 1 } } = f (G.th 0)) → (f { G.th k with ch := .no, job := some G.pos } = f (G.th k)) → (sumTo G.n fun i => f (th' i)) = sumTo G.n fun i => f (G.th i) := fun f a b => sumTo_congr fun j _ => F f a b j
  refine ⟨G', ?_, ?_, t0, ⟨G.pos, hv, tk⟩, rfl, rfl, fun j => F Lo.live (by rfl) (by rfl) j, tj, fun j hj => ?_⟩
  · have hu := fun op hop => pass_mute (B := w.heap.size) (c := E.c) (s := s) (r := r) (k := k) (f0 := f0) (fk := fk) (p0 := p0) (pk := pk) op hop
    refine ⟨h.a.tr rfl rfl fun j => F Lo.live (by rfl) (by rfl) j, ?_, ?_, ?_, ?_, ?_, h.more, ?_⟩
    · refine h.s.tr (by simp [World.setChan, World.at]) (fun a v hv => ⟨v, hv⟩) fun j hj => ⟨by rw [← F Lo.live (by rfl) (by rfl) j]; exact hj, F Lo.own (by rfl) (by rfl) j⟩
    · obtain ⟨_, c2, c3⟩ := h.m.chan hC
      have hw : ((w.at d).setChan E.c 0 #[] false (s + 1) (r + 1) false).heap = w.heap.setIfInBounds E.c (.chan 0 #[] false (s + 1) (r + 1) false) := rfl
      refine ⟨fun x hx => ?_, fun a v dd hv => ?_, h.m.inj, fun _ => ⟨⟨s + 1, r + 1, ?_⟩, c2, c3⟩, h.m.tape, h.m.output, h.m.os⟩
      · obtain ⟨a1, a2⟩ := cell_elsewhere (w := w) (c2 x hx) hw
        rw [a1, a2]
        have := h.m.sync x hx
        cases x <;> exact this
      · obtain ⟨a1, a2⟩ := cell_elsewhere (w := w) (c3 a _ hv) hw
        rw [a1, a2]; exact h.m.app a v dd hv
      · rw [hw, Array.getElem?_setIfInBounds_self_of_lt hcb]
        show _ = some (Obj.chan 0 #[] G.cl (s + 1) (r + 1) false)
        rw [hcl]
    · exact h.k.tr rfl rfl rfl rfl rfl fun j => ⟨F Lo.live (by rfl) (by rfl) j, F Lo.mr (by rfl) (by rfl) j, F Lo.run (by rfl) (by rfl) j, F Lo.pas (by rfl) (by rfl) j, F Lo.kn (by rfl) (by rfl) j⟩
    · exact h.g.tr rfl rfl rfl rfl rfl rfl fun j => ⟨F Lo.live (by rfl) (by rfl) j, F Lo.wk (by rfl) (by rfl) j, F Lo.gr (by rfl) (by rfl) j⟩
    · have hlv : ∀ j, (th' j).live = (G.th j).live := fun j => F Lo.live (by rfl) (by rfl) j
      have hgr : ∀ j, (th' j).gr = (G.th j).gr := fun j => F Lo.gr (by rfl) (by rfl) j
      have hmr' : ∀ j, (th' j).mr = (G.th j).mr := fun j => F Lo.mr (by rfl) (by rfl) j
      refine ⟨fun e => ?_, fun i v hi hv => ?_, fun i hi hv => ?_, fun e => ?_, ?_, fun rr => ?_, fun i j hi hj => ?_, ?_, fun a b i hi => ?_, h.j.any, fun a => ?_, fun i hi hm => ?_, ?_, fun i hi hs => ?_⟩
      · rw [hC] at e; cases e
      · exfalso
        have hi' : (G.th i).live = true := by rw [← hlv]; exact hi
        by_cases e : i = 0
        · subst e; have : (th' 0).ch = .send v := hv
          rw [t0] at this; cases this
        · by_cases e2 : i = k
          · subst e2; have : (th' i).ch = .send v := hv
            rw [tk] at this; cases this
          · have : (th' i).ch = .send v := hv
            rw [tj i e e2] at this
            exact e (h.j.ch0 i v hi' this).1
      · have hi' : (G.th i).live = true := by rw [← hlv]; exact hi
        by_cases e : i = 0
        · subst e; have : (th' 0).ch = .recv := hv
          rw [t0] at this; cases this
        · by_cases e2 : i = k
          · subst e2; have : (th' i).ch = .recv := hv
            rw [tk] at this; cases this
          · have : (th' i).ch = .recv := hv
            show i ≠ 0 ∧ (∀ j, (th' i).job = some j → E.rs j = none) ∧ (th' i).mr = none ∧ (th' i).gr = .out
            rw [tj i e e2] at this ⊢
            exact h.j.chR i hi' this
      · have : G.cl = true := e
        rw [hcl] at this; cases this
      · exact hpos
      · have hc := h.j.cnt rr
        have hs := sum_upd hkn (upd G.th 0 { G.th 0 with ch := .no, me := { (G.th 0).me with pos := (G.th 0).me.pos + 1 } }) { G.th k with ch := .no, job := some G.pos } (fun l => l.holds E.rs rr)
        have hs0 : (sumTo G.n fun a => (upd G.th 0 { G.th 0 with ch := .no, me := { (G.th 0).me with pos := (G.th 0).me.pos + 1 } } a).holds E.rs rr) = sumTo G.n fun a => (G.th a).holds E.rs rr := sum_same (φ := fun l => l.holds E.rs rr) rfl
        have hold : ((upd G.th 0 { G.th 0 with ch := .no, me := { (G.th 0).me with pos := (G.th 0).me.pos + 1 } } k).holds E.rs rr) = 0 := by
          rw [upd_ne _ _ hk0]
          unfold Lo.holds
          cases e : (G.th k).job with
          | none => rfl
          | some j => simp [hjob j e]
        have hnew : ({ G.th k with ch := .no, job := some G.pos } : Lo).holds E.rs rr = if E.rs G.pos = some rr then 1 else 0 := by
          unfold Lo.holds; simp [hk]
        rw [hold, hnew, hs0] at hs
        show G.cv rr + (sumTo G.n fun i => (th' i).holds E.rs rr) = sentTo E.rs rr (G.pos + 1)
        rw [sentTo_succ]
        have e : (sumTo G.n fun i => (th' i).holds E.rs rr) = sumTo G.n fun a => (upd (upd G.th 0 { G.th 0 with ch := .no, me := { (G.th 0).me with pos := (G.th 0).me.pos + 1 } }) k { G.th k with ch := .no, job := some G.pos } a).holds E.rs rr := rfl
        rw [e]
        omega
      · have hi' : (G.th i).live = true := by rw [← hlv]; exact hi
        by_cases e : i = k
        · subst e
          have : (th' i).job = some j := hj
          rw [tk] at this
          cases this
          exact ⟨Nat.lt_succ_self _, upd_same ..⟩
        · have hj' : (G.th i).job = some j := by
            have : (th' i).job = some j := hj
            by_cases e0 : i = 0
            · subst e0; rw [t0] at this; exact this
            · rw [tj i e0 e] at this; exact this
          obtain ⟨a1, a2⟩ := h.j.jobs i j hi' hj'
          exact ⟨Nat.lt_succ_of_lt a1, (upd_ne _ _ (by omega)).trans a2⟩
      · refine ⟨fun j hj => ?_, fun j i hj => ?_⟩
        · have hj2 : G.pos + 1 ≤ j := hj
          exact (upd_ne _ _ (by omega)).trans (h.j.tks.1 j (by omega))
        · by_cases e : j = G.pos
          · subst e
            have : upd G.tk G.pos (some k) G.pos = some i := hj
            rw [upd_same] at this; cases this
            exact (h.a.liveW _ hk).1
          · have : upd G.tk G.pos (some k) j = some i := hj
            rw [upd_ne _ _ e] at this
            exact h.j.tks.2 j i this
      · show (th' i).live = true ∧ (th' i).gr = .out
        rw [hlv, hgr]
        exact h.j.stay a b i hi
      · show (th' 0).gr ≠ .out → _
        rw [hgr]; exact h.j.shutW a
      · have hi' : (G.th i).live = true := by rw [← hlv]; exact hi
        have hm' : (G.th i).mr ≠ none := by rw [← hmr']; exact hm
        show (th' i).gr = .out
        rw [hgr]; exact h.j.mrG i hi' hm'
      · show (th' 0).me = _
        rw [t0]
        show ({ (G.th 0).me with pos := (G.th 0).me.pos + 1 } : Me) = _
        rw [h.j.me]
      · have hi' : (G.th i).live = true := by rw [← hlv]; exact hi
        have hs' : (G.th i).sc = true := by rw [← F Lo.sc (by rfl) (by rfl) i]; exact hs
        exact h.j.sc i hi' hs'
    · have hlv : ∀ j, (th' j).live = (G.th j).live := fun j => F Lo.live (by rfl) (by rfl) j
      have hsz : ((w.at d).setChan E.c 0 #[] false (s + 1) (r + 1) false).heap.size = w.heap.size := by simp [World.setChan, World.at]
      have hst : ∀ op ∈ passOps E.c s r k f0 fk p0 pk, op.act ≠ .mark .disable ∧ op.act ≠ .mark .enable := fun op hop => ⟨(hu op hop).2.1 _, (hu op hop).2.1 _⟩
      refine ⟨?_, fun j hj => ?_, fun j hj => ?_, ?_⟩
      · have : TI (E.dis G') w.heap.size t := by
          refine h.t.ti.change (fun g l hw => .inl ?_) (fun g l hw => .inl ?_) (fun g l hw => .inl ?_) (fun g l hw => .inl hw)
          · obtain ⟨hl, hw⟩ := hw
            have hl' : (G.th g).live = true := by rw [← hlv]; exact hl
            refine ⟨hl', ?_⟩
            cases l with
            | cell a =>
              rcases hw with hw | ⟨vv, kk, hv, hw⟩ | ⟨vv, jj, hv, hw⟩
              · exact .inl (by rw [← F Lo.own (by rfl) (by rfl) g]; exact hw)
              · refine .inr (.inl ⟨vv, kk, hv, hw.imp (fun hw => by rw [← F Lo.run (by rfl) (by rfl) g]; exact hw) fun hw j hj => ?_⟩)
                rw [← F Lo.run (by rfl) (by rfl) j]; exact hw j (by rw [show (G'.th j).live = (th' j).live from rfl, hlv]; exact hj)
              · refine .inr (.inr ⟨vv, jj, hv, ?_⟩)
                by_cases e : jj = G.pos
                · subst e; exact .inr (h.j.tks.1 _ (Nat.le_refl _))
                · have : G'.tk jj = G.tk jj := upd_ne _ _ e
                  rw [← this]; exact hw
            | obj b => exact (by rw [← F Lo.own (by rfl) (by rfl) g]; exact hw)
            | _ => exact hw.elim
          · obtain ⟨hl, hw⟩ := hw
            have hl' : (G.th g).live = true := by rw [← hlv]; exact hl
            refine ⟨hl', ?_⟩
            cases l with
            | cell a =>
              obtain ⟨vv, hv | ⟨kk, hv, hp⟩⟩ := hw
              · exact ⟨vv, .inl hv⟩
              · exact ⟨vv, .inr ⟨kk, hv, by rw [← F Lo.pas (by rfl) (by rfl) g]; exact hp⟩⟩
            | _ => exact hw.elim
          · obtain ⟨hl, hw⟩ := hw
            refine ⟨by rw [← hlv]; exact hl, ?_⟩
            cases l with
            | cell a =>
              rcases hw with hw | ⟨vv, kk, hv, hp⟩
              · exact .inl hw
              · exact .inr ⟨vv, kk, hv, by rw [← F Lo.pas (by rfl) (by rfl) g]; exact hp⟩
            | obj r => exact hw
            | _ => exact hw.elim
        rw [hsz]
        exact this.mute (fun op hop => (hu op hop).1) (Nat.le_refl _) fun op hop => (hu op hop).2.2 hcb
      · show Deaf _ j = (th' j).deaf
        rw [F Lo.deaf (by rfl) (by rfl) j, Go.ConcN.Deaf_still _ _ _ hst]
        exact h.t.deaf j (by rw [← hlv]; exact hj)
      · rw [Go.ConcN.Deaf_still _ _ _ hst]; exact h.t.quiet j hj
      · exact (h.t.tell.mute (fun op hop => (hu op hop).1) fun op hop a => (hu op hop).2.1 _).tr' rfl rfl rfl fun j => ⟨hlv j, F Lo.pas (by rfl) (by rfl) j, F Lo.rel (by rfl) (by rfl) j, by show (th' j).gr = .out ↔ _; rw [F Lo.gr (by rfl) (by rfl) j], by show (th' j).gr = .joined ↔ _; rw [F Lo.gr (by rfl) (by rfl) j]⟩
  · have e1 := S (fun l => l.φ E.K) (by rfl) (by rfl)
    have e2 : ∀ k', (sumTo G.n fun i => (th' i).stale k' (G.wd k')) = sumTo G.n fun i => (G.th i).stale k' (G.wd k') := fun k' => S (fun l => l.stale k' (G.wd k')) (by rfl) (by rfl)
    have e3 : (th' 0).staleG G.wn = (G.th 0).staleG G.wn := F (fun l => l.staleG G.wn) (by rfl) (by rfl) 0
    show sumTo G.n (fun i => (th' i).φ E.K) + sumTo E.K (fun k => 320 * G.sm k + sumTo G.n fun i => (th' i).stale k (G.wd k)) + 8192 * G.left + (E.nj - (G.pos + 1)) + (!G.cl).toNat + (th' 0).staleG G.wn < _
    unfold Gh.Φ
    simp only [e1, e2, e3]
    omega
  · rcases hj with ⟨kk, e, hs⟩ | ⟨e, e1, e2⟩
    · exact .inl ⟨kk, by show (th' j).mr = _; rw [F Lo.mr (by rfl) (by rfl) j]; exact e, hs⟩
    · exact .inr ⟨e, by show (th' 0).gr = _; rw [F Lo.gr (by rfl) (by rfl) 0]; exact e1, e2⟩
theorem GI.closed (h : GI E G w t) {k : Nat} (fk : FuncId) (pk : String) (hk : (G.th k).live = true) (hk0 : k ≠ 0) (hr : (G.th k).ch = .recv) (hcl : G.cl = true) :
    GI E { G with th := upd G.th k { G.th k with ch := .no, sc := true } } w (t ++ #[{ g := k, fn := fk, pos := pk, act := .recvClosed E.c }]) := by
  have hC : E.hasC = true := by
    by_cases e : E.hasC = true
    · exact e
    · have := h.j.noC (by simpa using e) k hk; rw [hr] at this; cases this
  have hcb : E.c < w.heap.size := by obtain ⟨⟨s, r, hc⟩, _⟩ := h.m.chan hC; exact (Array.getElem?_eq_some_iff.1 hc).1
  have hu : ∀ op ∈ (#[{ g := k, fn := fk, pos := pk, act := .recvClosed E.c }] : Trace), op.act.touch? = none ∧ (∀ m, op.act ≠ .mark m) ∧ op.act.low w.heap.size := fun op hop => by
    simp at hop; subst hop; exact ⟨rfl, fun m => by simp, hcb⟩
  have hst : ∀ op ∈ (#[{ g := k, fn := fk, pos := pk, act := .recvClosed E.c }] : Trace), op.act ≠ .mark .disable ∧ op.act ≠ .mark .enable := fun op hop => ⟨(hu op hop).2.1 _, (hu op hop).2.1 _⟩
  have s : TSame G { G with th := upd G.th k { G.th k with ch := .no, sc := true } } := ⟨rfl, rfl, rfl, rfl, fun j => ⟨fld Lo.live (by rfl) j, fld Lo.own (by rfl) j, fld Lo.run (by rfl) j, fld Lo.pas (by rfl) j, fld Lo.rel (by rfl) j, by show (upd G.th k { G.th k with ch := .no, sc := true } j).gr = _ ↔ _; rw [fld Lo.gr (by rfl) j], by show (upd G.th k { G.th k with ch := .no, sc := true } j).gr = _ ↔ _; rw [fld Lo.gr (by rfl) j]⟩⟩
  refine ⟨h.a.tr rfl rfl fun j => fld Lo.live (by rfl) j, h.s.tr (Nat.le_refl _) (fun a v hv => ⟨v, hv⟩) fun j hj => ⟨by rw [← fld (i := k) (l := { G.th k with ch := .no, sc := true }) Lo.live (by rfl) j]; exact hj, fld Lo.own (by rfl) j⟩,
    h.m.tr (fun x => by cases x <;> rfl) rfl rfl, h.k.tr rfl rfl rfl rfl rfl fun j => ⟨fld Lo.live (by rfl) j, fld Lo.mr (by rfl) j, fld Lo.run (by rfl) j, fld Lo.pas (by rfl) j, fld Lo.kn (by rfl) j⟩,
    h.g.tr rfl rfl rfl rfl rfl rfl fun j => ⟨fld Lo.live (by rfl) j, fld Lo.wk (by rfl) j, fld Lo.gr (by rfl) j⟩, ?_, h.more, ?_⟩
  · have hlv : ∀ j, (upd G.th k { G.th k with ch := .no, sc := true } j).live = (G.th j).live := fun j => fld Lo.live (by rfl) j
    have hgr : ∀ j, (upd G.th k { G.th k with ch := .no, sc := true } j).gr = (G.th j).gr := fun j => fld Lo.gr (by rfl) j
    have hmr : ∀ j, (upd G.th k { G.th k with ch := .no, sc := true } j).mr = (G.th j).mr := fun j => fld Lo.mr (by rfl) j
    have hjb : ∀ j, (upd G.th k { G.th k with ch := .no, sc := true } j).job = (G.th j).job := fun j => fld Lo.job (by rfl) j
    have hch : ∀ j, (upd G.th k { G.th k with ch := .no, sc := true } j).ch ≠ .no → (upd G.th k { G.th k with ch := .no, sc := true } j).ch = (G.th j).ch := fun j hj => by
      by_cases e : j = k
      · subst e; rw [upd_same] at hj; exact absurd rfl hj
      · rw [upd_ne _ _ e]
    refine ⟨fun e => (by rw [hC] at e; cases e), fun i v hi hv => ?_, fun i hi hv => ?_, h.j.cl, h.j.posn, fun rr => ?_, fun i j hi hj => ?_, h.j.tks, fun a b i hi => ?_, h.j.any, ?_, fun i hi hm => ?_, ?_, fun _ _ _ => hcl⟩
    · have hv' : (upd G.th k { G.th k with ch := .no, sc := true } i).ch = .send v := hv
      have := hch i (by rw [hv']; simp)
      show _ ∧ _ ∧ _ ∧ _ ∧ _ ∧ (upd G.th k { G.th k with ch := .no, sc := true } i).gr = .out
      rw [hgr]
      exact h.j.ch0 i v (by rw [← hlv]; exact hi) (by rw [← this]; exact hv')
    · have hv' : (upd G.th k { G.th k with ch := .no, sc := true } i).ch = .recv := hv
      have := hch i (by rw [hv']; simp)
      show i ≠ 0 ∧ (∀ j, (upd G.th k { G.th k with ch := .no, sc := true } i).job = some j → E.rs j = none) ∧ (upd G.th k { G.th k with ch := .no, sc := true } i).mr = none ∧ (upd G.th k { G.th k with ch := .no, sc := true } i).gr = .out
      rw [hgr, hmr, hjb]
      exact h.j.chR i (by rw [← hlv]; exact hi) (by rw [← this]; exact hv')
    · have : (sumTo G.n fun a => (upd G.th k { G.th k with ch := .no, sc := true } a).holds E.rs rr) = sumTo G.n fun a => (G.th a).holds E.rs rr := sum_same (φ := fun l => l.holds E.rs rr) rfl
      show G.cv rr + (sumTo G.n fun a => (upd G.th k { G.th k with ch := .no, sc := true } a).holds E.rs rr) = _
      rw [this]; exact h.j.cnt rr
    · exact h.j.jobs i j (by rw [← hlv]; exact hi) (by rw [← hjb]; exact hj)
    · show (upd G.th k { G.th k with ch := .no, sc := true } i).live = true ∧ (upd G.th k { G.th k with ch := .no, sc := true } i).gr = .out
      rw [hlv, hgr]; exact h.j.stay a b i hi
    · intro a
      show (upd G.th k { G.th k with ch := .no, sc := true } 0).gr ≠ .out → _
      rw [hgr]; exact h.j.shutW a
    · show (upd G.th k { G.th k with ch := .no, sc := true } i).gr = .out
      rw [hgr]; exact h.j.mrG i (by rw [← hlv]; exact hi) (by rw [← hmr]; exact hm)
    · show (upd G.th k { G.th k with ch := .no, sc := true } 0).me = _
      rw [upd_ne _ _ (Ne.symm hk0)]; exact h.j.me
  · have := h.t.tr s (fun j => fld Lo.deaf (by rfl) j) (Nat.le_refl _)
    refine ⟨this.ti.mute (fun op hop => (hu op hop).1) (Nat.le_refl _) fun op hop => (hu op hop).2.2, fun j hj => ?_, fun j hj => ?_, this.tell.mute (fun op hop => (hu op hop).1) fun op hop a => (hu op hop).2.1 _⟩
    · rw [Go.ConcN.Deaf_still _ _ _ hst]; exact this.deaf j hj
    · rw [Go.ConcN.Deaf_still _ _ _ hst]; exact this.quiet j hj
theorem Geo.laws (E : Geo) : E.pro.Laws where
  draw := fun d h => GI.draw h d
  priv := fun {G w t i w' es} fn pos h hi p hs => by
    refine GI.priv h fn pos hi ?_ p
    by_cases e : (G.th i).rel = none
    · exact .inl e
    · exact .inr (hs e)
  grow_lo := fun G i a b => upd_same _ _ _
  grow_ne := fun G i a b j hj => upd_ne _ _ hj
  grow_sz := fun _ _ _ _ => rfl
  grow_act := fun G i a b j => by
    show (upd G.th i ((G.th i).grow a b) j).live = true ↔ (G.th j).live = true
    rw [fld Lo.live (by rfl) j]
  grow_cl := fun _ _ _ _ => rfl
  grow_PK := fun G i a b j hj => by
    rcases hj with ⟨kk, e, hs⟩ | ⟨e, e1, e2⟩
    · exact .inl ⟨kk, by show (upd G.th i ((G.th i).grow a b) j).mr = _; rw [fld Lo.mr (by rfl) j]; exact e, hs⟩
    · exact .inr ⟨e, by show (upd G.th i ((G.th i).grow a b) 0).gr = _; rw [fld Lo.gr (by rfl) 0]; exact e1, e2⟩
  grow_Φ := fun G i a b => by
    have e1 : (sumTo G.n fun j => (upd G.th i ((G.th i).grow a b) j).φ E.K) = sumTo G.n fun j => (G.th j).φ E.K := sum_same (φ := fun l => l.φ E.K) rfl
    have e2 : ∀ k', (sumTo G.n fun j => (upd G.th i ((G.th i).grow a b) j).stale k' (G.wd k')) = sumTo G.n fun j => (G.th j).stale k' (G.wd k') := fun k' => sum_same (φ := fun l => l.stale k' (G.wd k')) rfl
    have e3 : (upd G.th i ((G.th i).grow a b) 0).staleG G.wn = (G.th 0).staleG G.wn := fld (fun l => l.staleG G.wn) (by rfl) 0
    show sumTo G.n (fun j => (upd G.th i ((G.th i).grow a b) j).φ E.K) + sumTo E.K (fun k => 320 * G.sm k + sumTo G.n fun j => (upd G.th i ((G.th i).grow a b) j).stale k (G.wd k)) + 8192 * G.left + (E.nj - G.pos) + (!G.cl).toNat + (upd G.th i ((G.th i).grow a b) 0).staleG G.wn = G.Φ E.K E.nj
    unfold Gh.Φ
    simp only [e1, e2, e3]
  own_grow := fun _ _ _ _ => Iff.rfl
  apart := fun h hi hj hij hb => GIs.apart (GI.s h) _ _ _ hi hj hij hb
  old := fun h hi hb => GIs.old (GI.s h) _ _ hi hb
  hears := fun h hi => GIt.deaf (GI.t h) _ hi
  mute := fun fn pos h hj _ hn hm => GI.mute h fn pos hj hn hm
  chan := fun {G w t i} h hi hc => by
    have h : GI E G w t := h
    have hC : E.hasC = true := by
      by_cases e : E.hasC = true
      · exact e
      · exact absurd (h.j.noC (by simpa using e) i hi) hc
    exact ⟨(h.m.chan hC).1, fun j hj hb => (h.s.nsh j _ hj hb).2.2.1 hC rfl⟩
  only0 := fun {G w t i v} h hi hv => by
    have h : GI E G w t := h
    exact ⟨(h.j.ch0 i v hi hv).1, (h.j.ch0 i v hi hv).2.2.2.1⟩
  deliver := fun {G w t v k s r} d f0 fk p0 pk h _ hk hk0 h0 hr hc => by
    obtain ⟨G', a1, a2, a3, a4, a5, a6, a7, a8, a9⟩ := GI.deliver h d f0 fk p0 pk hk hk0 h0 hr hc
    exact ⟨G', a1, a2, a3, a4, a5, a6, fun j => by show (G'.th j).live = true ↔ (G.th j).live = true; rw [a7], a8, fun j _ _ hj => a9 j hj⟩
  closed := fun {G w t k} fk pk h hk hk0 hr hcl => by
    refine ⟨_, GI.closed h fk pk hk hk0 hr hcl, ?_, upd_same _ _ _, rfl, rfl, fun j => ?_, fun j hj => upd_ne _ _ hj, fun j _ hj => ?_⟩
    · have e1 : (sumTo G.n fun j => (upd G.th k { G.th k with ch := .no, sc := true } j).φ E.K) = sumTo G.n fun j => (G.th j).φ E.K := sum_same (φ := fun l => l.φ E.K) rfl
      have e2 : ∀ k', (sumTo G.n fun j => (upd G.th k { G.th k with ch := .no, sc := true } j).stale k' (G.wd k')) = sumTo G.n fun j => (G.th j).stale k' (G.wd k') := fun k' => sum_same (φ := fun l => l.stale k' (G.wd k')) rfl
      have e3 : (upd G.th k { G.th k with ch := .no, sc := true } 0).staleG G.wn = (G.th 0).staleG G.wn := fld (fun l => l.staleG G.wn) (by rfl) 0
      show sumTo G.n (fun j => (upd G.th k { G.th k with ch := .no, sc := true } j).φ E.K) + sumTo E.K (fun k' => 320 * G.sm k' + sumTo G.n fun j => (upd G.th k { G.th k with ch := .no, sc := true } j).stale k' (G.wd k')) + 8192 * G.left + (E.nj - G.pos) + (!G.cl).toNat + (upd G.th k { G.th k with ch := .no, sc := true } 0).staleG G.wn ≤ G.Φ E.K E.nj
      unfold Gh.Φ
      simp only [e1, e2, e3]
      exact Nat.le_refl _
    · show (upd G.th k { G.th k with ch := .no, sc := true } j).live = true ↔ (G.th j).live = true
      rw [fld Lo.live (by rfl) j]
    · rcases hj with ⟨kk, e, hs⟩ | ⟨e, e1, e2⟩
      · exact .inl ⟨kk, by show (upd G.th k { G.th k with ch := .no, sc := true } j).mr = _; rw [fld Lo.mr (by rfl) j]; exact e, hs⟩
      · exact .inr ⟨e, by show (upd G.th k { G.th k with ch := .no, sc := true } 0).gr = _; rw [fld Lo.gr (by rfl) 0]; exact e1, e2⟩
  got_own := fun {l v l' b} h hb => by obtain ⟨j, _, rfl⟩ := h; exact hb
  sent_own := fun {l l' b} h hb => by have h : l' = _ := h; subst h; exact hb
  shut_own := fun {l l' b} h hb => by have h : l' = _ := h; subst h; exact hb
  size := fun h hi => (GIa.liveW (GI.a h) _ hi).1
  finish := fun {G w t g w0} h _ hf i hi => GI.alone h (.inr (E.finJ _ _ _ hf)) i hi
  prog := fun h _ ha hm => GI.prog h ha hm
end Go.Co

namespace Go.Co
open Go Go.Conc
open Go.ConcM (OsLater)
open Go.ConcN (sumTo upd sumTo_upd upd_ne upd_same sumTo_congr le_sumTo sumTo_le)
variable {E : Geo} {G G' : Gh} {w w' : World} {t u : Trace} {B B' : Nat}
def SEv (E : Geo) (e : Event) : Prop :=
  (∃ x wr, x.ok E.K ∧ e = ⟨.cell (E.sc x), wr, true⟩ ∧ (wr = true → ∀ k, x ≠ .done k)) ∨ (∃ m s b, e = ⟨.mark m, s, b⟩ ∧ (MemAct.mark m).touch? = none ∧ (∀ a, m ≠ .release a) ∧ ∀ B, E.w0.heap.size ≤ B → (∀ x, x.ok E.K → (E.sc x).block < B) → (MemAct.mark m).low B)
theorem SEv.touch {e : Event} (h : SEv E e) : (MemAct.ofEvent e).touch? = none ∨ ∃ x wr, x.ok E.K ∧ (MemAct.ofEvent e).touch? = some ⟨.cell (E.sc x), wr, .atomic⟩ ∧ (wr = true → ∀ k, x ≠ .done k) := by
  rcases h with ⟨x, wr, hx, rfl, hw⟩ | ⟨m, s, b, rfl, hm, _⟩
  · exact .inr ⟨x, wr, hx, rfl, hw⟩
  · exact .inl hm
theorem SEv.norel {e : Event} (h : SEv E e) : ∀ a, MemAct.ofEvent e ≠ .mark (.release a) := by
  rcases h with ⟨x, wr, hx, rfl, hw⟩ | ⟨m, s, b, rfl, hm, hr, _⟩
  · simp [MemAct.ofEvent]
  · intro a e
    exact hr a (by cases s <;> cases b <;> (simp only [MemAct.ofEvent, MemAct.mark.injEq] at e; exact e))
theorem SEv.low {e : Event} (h : SEv E e) {B : Nat} (hB : E.w0.heap.size ≤ B) (hb : ∀ x, x.ok E.K → (E.sc x).block < B) : (MemAct.ofEvent e).low B := by
  rcases h with ⟨x, wr, hx, rfl, hw⟩ | ⟨m, s, b, rfl, _, _, hl⟩
  · exact hb x hx
  · exact hl B hB hb
theorem GI.sc_away (h : GI E G w t) {x : SC} (hx : x.ok E.K) (j : Nat) : ¬ (E.dis G).W j (.cell (E.sc x)) ∧ ¬ (E.dis G).R j (.cell (E.sc x)) := by
  have happ : ∀ v d, G.app (E.sc x) ≠ some (v, d) := fun v d hv => (h.m.app _ v d hv).2.2 x hx rfl
  refine ⟨fun hw => ?_, fun hr => ?_⟩
  · obtain ⟨hl, hw⟩ := hw
    rcases hw with hw | ⟨v, k, hv, _⟩ | ⟨v, k, hv, _⟩
    · exact (h.s.nsh j _ hl hw).1 x hx rfl
    · exact happ _ _ hv
    · exact happ _ _ hv
  · obtain ⟨_, v, hv | ⟨k, hv, _⟩⟩ := hr
    · exact happ _ _ hv
    · exact happ _ _ hv
theorem GI.evs (h : GI E G w t) {i : Nat} {es : Array Event} (fn : FuncId) (pos : String) (hi : (G.th i).live = true) (he : ∀ e ∈ es, SEv E e) (s : TSame G G')
    (hd : ∀ j, (G'.th j).deaf = if j = i then deafBehind ((G.th i).deaf) es else (G.th j).deaf)
    (hq : (G.th i).rel = none ∨ ∀ j e, es[j]? = some e → (MemAct.ofEvent e).touch? = none ∨ ((e.loc = .cell (E.sc .wst) ∨ e.loc = .cell (E.sc .wsm)) ∧ 0 < deafBehind (G.th i).deaf (es.extract 0 j))) :
    GIt E G' w.heap.size (t ++ MemOp.ofEvents i fn pos es) := by
  have hb : ∀ x, x.ok E.K → (E.sc x).block < w.heap.size := fun x hx => cell_block (h.m.sync x hx).1
  have hg : ∀ op ∈ MemOp.ofEvents i fn pos es, op.g = i := g_ofEvents
  refine ⟨?_, fun j hj => ?_, fun j hj => ?_, ?_⟩
  · rw [s.dis]
    refine h.t.ti.step hg (fun op hop b hbt => ?_) (Nat.le_refl _) fun op hop => ?_
    · obtain ⟨e, hem, rfl⟩ := mem_evs hop
      rcases (he e hem).touch with k | ⟨x, wr, hx, k, _⟩
      · rw [k] at hbt; cases hbt
      · rw [k] at hbt; cases hbt
        refine ⟨.inr (.inr (.inl ⟨rfl, hi, .inl ⟨x, hx, rfl⟩⟩)), fun j hj => ⟨(h.sc_away hx j).1, fun _ => (h.sc_away hx j).2, fun e => (by cases e), fun e => (by cases e)⟩⟩
    · obtain ⟨e, hem, rfl⟩ := mem_evs hop
      exact (he e hem).low h.s.size hb
  · have hj' : (G.th j).live = true := by rw [← (s.th j).1]; exact hj
    rw [hd]
    by_cases e : j = i
    · subst e; rw [if_pos rfl, Deaf_own, h.t.deaf j hj']
    · rw [if_neg e, Deaf_other t (g' := i) (fun x => e x.symm) _ g_ofEvents]; exact h.t.deaf j hj'
  · rw [s.n] at hj
    have := (h.a.liveW i hi).1
    rw [Deaf_other t (g' := i) (by omega) _ g_ofEvents]; exact h.t.quiet j hj
  · refine (h.t.tell.app hg (h.ours hi) (fun op hop => ?_) (fun op hop a ha hwr => ?_) (fun op hop a ha hk => ?_) (fun ho => ?_)).tr s
    · obtain ⟨e, hem, rfl⟩ := mem_evs hop; exact fun a => (he e hem).norel a
    · obtain ⟨e, hem, rfl⟩ := mem_evs hop
      rcases (he e hem).touch with k | ⟨x, wr, hx, k, hw⟩
      · rw [k] at ha; cases ha
      · rw [k] at ha; cases ha
        simp only at hwr
        refine ⟨fun kk hk e => ?_, fun ad v kk e => ?_⟩
        · simp only [Loc.cell.injEq] at e
          exact hw hwr kk (h.m.inj x (.done kk) hx hk e)
        · simp only [Loc.cell.injEq] at e
          intro hv
          exact (h.m.app _ v _ hv).2.2 x hx e.symm
    · obtain ⟨e, hem, rfl⟩ := mem_evs hop
      rcases (he e hem).touch with k | ⟨x, wr, hx, k, hw⟩
      · rw [k] at ha; cases ha
      · rw [k] at ha; cases ha; cases hk
    · rcases hq with hq | hq
      · exact .inl hq
      · right
        intro j op a hj hop ha
        have hjx : (MemOp.ofEvents i fn pos es)[j - t.size]? = some op := by
          rw [Array.getElem?_append] at hop
          simpa [Nat.not_lt.2 hj] using hop
        rw [ofEvents_eq, Array.getElem?_map] at hjx
        obtain ⟨e, hej, rfl⟩ := Option.map_eq_some_iff.1 hjx
        have hem : e ∈ es := Array.mem_of_getElem? hej
        simp only at ha
        rcases hq _ e hej with k | ⟨k, kd⟩
        · rw [k] at ha; cases ha
        · rcases (he e hem).touch with k2 | ⟨x, wr, hx, k2, hw⟩
          · rw [k2] at ha; cases ha
          · rw [k2] at ha; cases ha
            have hloc : e.loc = .cell (E.sc x) := by
              rcases he e hem with ⟨x', wr', hx', rfl, _⟩ | ⟨m, s', b', rfl, hm, _⟩
              · simp only [MemAct.ofEvent, MemAct.touch?, Option.some.injEq, Touch.mk.injEq] at k2
                exact k2.1
              · have hm' : (MemAct.ofEvent ⟨.mark m, s', b'⟩).touch? = none := hm
                rw [hm'] at k2; cases k2
            refine ⟨rfl, by rw [← hloc]; exact k, ?_⟩
            rintro ⟨g, hgg, hgd⟩
            have hjs : j - t.size ≤ es.size := by
              have := (Array.getElem?_eq_some_iff.1 hej).1; omega
            have hgi : g = i := by
              unfold Trace.g? at hgg
              rw [hop] at hgg
              simp at hgg
              exact hgg.symm
            subst hgi
            have := deaf_inside t g fn pos es (j - t.size) hjs
            rw [show t.size + (j - t.size) = j by omega, hgd] at this
            have hdf : Deaf t g = (G.th g).deaf := h.t.deaf g hi
            rw [hdf] at this
            omega
theorem GIm.set (h : GIm E G w) {x : SC} (hx : x.ok E.K) (v : Value) (hv : ∀ y, y.ok E.K → G'.val y = if y = x then v else G.val y) (ha : G'.app = G.app) (hc : G'.cl = G.cl) : GIm E G' (w.setCell (E.sc x) v) := by
  obtain ⟨hcx, hfx⟩ := h.sync x hx
  have other : ∀ a, a ≠ E.sc x → (w.setCell (E.sc x) v).cell? a = w.cell? a := by
    intro a hne
    unfold World.setCell World.cell?
    by_cases hb : (E.sc x).block = a.block
    · simp only [Array.getElem?_modify, hb, if_true]
      unfold World.cell? at hcx
      rw [hb] at hcx
      split at hcx
      · rename_i c e f hh
        rw [hh]
        simp only [Option.map_some]
        by_cases hs : a.spot.isSome = true
        · simp [hs]
        · split at hcx
          · cases hcx
          · rename_i hsx
            have ho : (E.sc x).off ≠ a.off := fun ho => hne (by
              have h1 : (E.sc x).spot = none := by simpa using hsx
              have h2 : a.spot = none := by simpa using hs
              cases hA : E.sc x
              rw [hA] at hb ho h1
              cases a
              simp_all)
            simp [hs, hsx, Array.getElem?_setIfInBounds_ne ho]
      · cases hcx
    · simp only [Array.getElem?_modify, if_neg hb]
  have frz : ∀ a, (w.setCell (E.sc x) v).frozen? a = w.frozen? a := by
    intro a
    unfold World.setCell World.frozen?
    by_cases hb : (E.sc x).block = a.block
    · simp only [Array.getElem?_modify, hb, if_true]
      cases w.heap[a.block]? with
      | none => rfl
      | some o => cases o <;> rfl
    · simp only [Array.getElem?_modify, if_neg hb]
  have self : (w.setCell (E.sc x) v).cell? (E.sc x) = some v := by
    unfold World.cell? at hcx
    unfold World.setCell World.cell?
    simp only [Array.getElem?_modify, if_true]
    split at hcx
    · rename_i c e f hh
      rw [hh]
      split at hcx
      · cases hcx
      · rename_i hsx
        simp only [Option.map_some, hsx]
        have := (Array.getElem?_eq_some_iff.1 hcx).1
        simp [this]
    · cases hcx
  refine ⟨fun y hy => ?_, fun a v' d hv' => ?_, h.inj, fun hC => ?_, h.tape, h.output, h.os⟩
  · rw [frz, hv y hy]
    by_cases e : y = x
    · subst e; rw [if_pos rfl]; exact ⟨self, hfx⟩
    · rw [if_neg e, other _ (fun q => e (h.inj y x hy hx q))]; exact h.sync y hy
  · rw [ha] at hv'
    obtain ⟨a1, a2, a3⟩ := h.app a v' d hv'
    rw [frz, other a (a3 x hx)]
    exact ⟨a1, a2, a3⟩
  · obtain ⟨⟨s, r, c1⟩, c2, c3⟩ := h.chan hC
    rw [ha, hc]
    refine ⟨⟨s, r, ?_⟩, c2, c3⟩
    unfold World.setCell
    simp only [Array.getElem?_modify, if_neg (c2 x hx)]
    exact c1
theorem setCell_size (w : World) (a : Addr) (v : Value) : (w.setCell a v).heap.size = w.heap.size := by simp [World.setCell]
theorem GI.view_set (h : GI E G w t) {x : SC} (hx : x.ok E.K) (v : Value) (j : Nat) (hj : (G.th j).live = true) : View (G.th j).own w (w.setCell (E.sc x) v) := by
  refine ⟨by rw [setCell_size]; exact Nat.le_refl _, fun b hb => ?_⟩
  have := (h.s.nsh j b hj hb).1 x hx
  unfold World.setCell
  simp only [Array.getElem?_modify, if_neg this]
end Go.Co
