/- A theory of many goroutines that count at once (a channel, a wait group, once, a mutex), the walks of the program's functions in it, and the law CountsSame of the seat, proved out of them. No condition beyond those that stand in each statement. -/
import Derived.Test.YtcikailibheakaaCoB
import Derived.Conc.DeferLaws
import Derived.Conc.EventLaws2
import Derived.Conc.Own5
import Derived.Conc.AtomicLaws2
import Derived.Conc.MarkLaws
import Derived.Conc.ClockLaws
import Derived.Test.YtcikailibheakaaProg
namespace Go.Co
open Go Go.Conc
open Go.ConcM (OsLater)
open Go.ConcN (sumTo upd sumTo_upd upd_ne upd_same sumTo_congr le_sumTo sumTo_le)
variable {E : Geo} {G G' : Gh} {w w' : World} {t t' u : Trace} {B B' : Nat}
def Lo.new (PB : Nat → Prop) (job : Option Nat) : Lo :=
  { live := true, wk := true, own := PB, deaf := 0, mr := none, old := none, pas := fun _ => false, run := none, ch := .no, rel := none, gr := .out, job := job, kn := fun _ => none, me := ⟨0, 0, 0, false⟩, sc := false }
def Lo.started (l : Lo) (PB : Nat → Prop) (me : Me) : Lo := { l with own := fun b => l.own b ∧ ¬ PB b, me := me }
def Gh.spawn (G : Gh) (PB : Nat → Prop) (jb : Bool) : Gh :=
  { G with n := G.n + 1, th := upd (upd G.th 0 ((G.th 0).started PB ⟨G.left - 1, 0, G.pos + jb.toNat, G.cl⟩)) G.n (Lo.new PB (if jb = true then some G.pos else none)), left := G.left - 1, pend := 0, pos := G.pos + jb.toNat,
           tk := if jb = true then upd G.tk G.pos (some G.n) else G.tk }
theorem GI.spawn (h : GI E G w t) (fn fn2 : FuncId) (pos : String) {lf ps : Nat} {c : Bool} {PB : Nat → Prop} (jb : Bool) (hme : (G.th 0).me = ⟨lf + 1, 1, ps, c⟩) (hgr : (G.th 0).gr = .out) (hch : (G.th 0).ch = .no) (hdf : (G.th 0).deaf = 0) (hK : E.K ≤ 8)
    (hPB : ∀ b, PB b → (G.th 0).own b) (hjb : jb = true → ps < E.nj) :
    GI E (G.spawn PB jb) w ((t.push { g := 0, fn := fn, pos := pos, act := .go G.n }).push { g := G.n, fn := fn2, pos := pos, act := .start }) ∧
      (G.spawn PB jb).Φ E.K E.nj < G.Φ E.K E.nj ∧ ((G.spawn PB jb).th 0) = (G.th 0).started PB ⟨lf, 0, ps + jb.toNat, c⟩ ∧ ((G.spawn PB jb).th G.n) = Lo.new PB (if jb = true then some ps else none) ∧
      (∀ j, j ≠ 0 → j ≠ G.n → (G.spawn PB jb).th j = G.th j) ∧ (∀ j, j ≠ G.n → G.PK E j → (G.spawn PB jb).PK E j) ∧ (G.th G.n).live = false := by
  have hm := h.j.me
  rw [hme] at hm
  simp only [Me.mk.injEq] at hm
  obtain ⟨m1, m2, m3, m4⟩ := hm
  obtain ⟨hwk, hmr⟩ := wk0 h
  have hn0 : G.n ≠ 0 := by have := h.a.pos0; omega
  have h0n : (0 : Nat) ≠ G.n := hn0.symm
  have hlf : G.left - 1 = lf := by omega
  have t0 : (G.spawn PB jb).th 0 = (G.th 0).started PB ⟨lf, 0, ps + jb.toNat, c⟩ := by
    show upd (upd G.th 0 _) G.n _ 0 = _
    rw [upd_ne _ _ h0n, upd_same, hlf, ← m3, ← m4]
  have tn : (G.spawn PB jb).th G.n = Lo.new PB (if jb = true then some ps else none) := by
    show upd (upd G.th 0 _) G.n _ G.n = _
    rw [upd_same, ← m3]
  have tj : ∀ j, j ≠ 0 → j ≠ G.n → (G.spawn PB jb).th j = G.th j := fun j h1 h2 => by
    show upd (upd G.th 0 _) G.n _ j = _
    rw [upd_ne _ _ h2, upd_ne _ _ h1]
  have hdead : (G.th G.n).live = false := by
    cases e : (G.th G.n).live with
    | false => rfl
    | true => have := (h.a.liveW G.n e).1; omega
  -- who is who
  have cases3 : ∀ j, (j = 0 ∧ (G.spawn PB jb).th j = (G.th 0).started PB ⟨lf, 0, ps + jb.toNat, c⟩) ∨ (j = G.n ∧ (G.spawn PB jb).th j = Lo.new PB (if jb = true then some ps else none)) ∨ ((j ≠ 0 ∧ j ≠ G.n) ∧ (G.spawn PB jb).th j = G.th j) := fun j => by
    by_cases e : j = 0
    · subst e; exact .inl ⟨rfl, t0⟩
    · by_cases e2 : j = G.n
      · subst e2; exact .inr (.inl ⟨rfl, tn⟩)
      · exact .inr (.inr ⟨⟨e, e2⟩, tj j e e2⟩)
  have old : ∀ j, j ≠ G.n → ((G.spawn PB jb).th j).live = (G.th j).live ∧ ((G.spawn PB jb).th j).wk = (G.th j).wk ∧ ((G.spawn PB jb).th j).mr = (G.th j).mr ∧ ((G.spawn PB jb).th j).old = (G.th j).old ∧ ((G.spawn PB jb).th j).pas = (G.th j).pas ∧ ((G.spawn PB jb).th j).run = (G.th j).run ∧
      ((G.spawn PB jb).th j).ch = (G.th j).ch ∧ ((G.spawn PB jb).th j).rel = (G.th j).rel ∧ ((G.spawn PB jb).th j).gr = (G.th j).gr ∧ ((G.spawn PB jb).th j).job = (G.th j).job ∧ ((G.spawn PB jb).th j).kn = (G.th j).kn ∧ ((G.spawn PB jb).th j).sc = (G.th j).sc ∧ ((G.spawn PB jb).th j).deaf = (G.th j).deaf := fun j hj => by
    rcases cases3 j with ⟨rfl, e⟩ | ⟨e, _⟩ | ⟨_, e⟩
    · rw [e]; exact ⟨rfl, rfl, rfl, rfl, rfl, rfl, rfl, rfl, rfl, rfl, rfl, rfl, rfl⟩
    · exact absurd e hj
    · rw [e]; exact ⟨rfl, rfl, rfl, rfl, rfl, rfl, rfl, rfl, rfl, rfl, rfl, rfl, rfl⟩
  have oldown : ∀ j b, j ≠ G.n → ((G.spawn PB jb).th j).own b → (G.th j).own b ∧ (j = 0 → ¬ PB b) := fun j b hj hb => by
    rcases cases3 j with ⟨rfl, e⟩ | ⟨e, _⟩ | ⟨⟨e0, _⟩, e⟩
    · rw [e] at hb; exact ⟨hb.1, fun _ => hb.2⟩
    · exact absurd e hj
    · rw [e] at hb; exact ⟨hb, fun x => absurd x e0⟩
  have liven : ((G.spawn PB jb).th G.n).live = true := by rw [tn]; rfl
  have livelt : ∀ j, (G.th j).live = true → j ≠ G.n := fun j hj e => by subst e; rw [hdead] at hj; cases hj
  have sums : ∀ (f : Lo → Nat), f ((G.spawn PB jb).th 0) = f (G.th 0) → sumTo (G.n + 1) (fun j => f ((G.spawn PB jb).th j)) = sumTo G.n (fun j => f (G.th j)) + f ((G.spawn PB jb).th G.n) := fun f hf => by
    show sumTo G.n _ + _ = _
    rw [sumTo_congr (g := fun j => f (G.th j)) fun j hj => ?_]
    rcases cases3 j with ⟨rfl, _⟩ | ⟨e, _⟩ | ⟨_, e⟩
    · exact hf
    · omega
    · rw [e]
  have hfew := h.a.few
  have hcl : G.cl = false := by
    cases e : G.cl with
    | false => rfl
    | true => have := (h.j.cl e).2.1; omega
  have hpos : (G.spawn PB jb).pos = ps + jb.toNat := by show G.pos + jb.toNat = _; rw [← m3]
  have htk : ∀ j, j ≠ G.pos → (G.spawn PB jb).tk j = G.tk j := fun j hj => by
    show (if jb = true then upd G.tk G.pos (some G.n) else G.tk) j = _
    split
    · rw [upd_ne _ _ hj]
    · rfl
  have htkp : G.tk G.pos = none := h.j.tks.1 _ (Nat.le_refl _)
  refine ⟨⟨?_, ?_, ?_, ?_, ?_, ?_, h.more, ?_⟩, ?_, t0, tn, tj, ?_, hdead⟩
  · -- the company
    refine ⟨⟨h.a.pos0.1, by show E.n0 ≤ G.n + 1; have := h.a.pos0.2; omega⟩, by rw [t0]; exact h.a.live0, fun j hj => ?_, ?_, fun e => by have := (h.a.alone e).1; omega⟩
    · show j < G.n + 1 ∧ _
      by_cases e : j = G.n
      · subst e; exact ⟨by omega, .inr h.a.pos0.2⟩
      · rw [(old j e).1] at hj
        have := h.a.liveW j hj
        exact ⟨by omega, this.2⟩
    · show sumTo (G.n + 1) (fun j => ((G.spawn PB jb).th j).lives) + (G.left - 1) ≤ 48
      rw [sums Lo.lives (by unfold Lo.lives; rw [(old 0 h0n).1]), tn]
      have : (Lo.new PB (if jb = true then some ps else none)).lives = 1 := rfl
      omega
  · -- whose blocks
    refine ⟨fun a b x ha hb hab hax hbx => ?_, fun a x ha hx => ?_, fun a x ha hx => ?_, h.s.shun, h.s.size, h.s.nshA⟩
    · by_cases ea : a = G.n
      · subst ea
        have hbn : b ≠ G.n := Ne.symm hab
        rw [(old b hbn).1] at hb
        rw [tn] at hax
        obtain ⟨o1, o2⟩ := oldown b x hbn hbx
        by_cases e0 : b = 0
        · subst e0; exact o2 rfl hax
        · exact h.s.apart 0 b x h.a.live0 hb (Ne.symm e0) (hPB x hax) o1
      · rw [(old a ea).1] at ha
        obtain ⟨o1, o2⟩ := oldown a x ea hax
        by_cases eb : b = G.n
        · subst eb
          rw [tn] at hbx
          by_cases e0 : a = 0
          · subst e0; exact o2 rfl hbx
          · exact h.s.apart 0 a x h.a.live0 ha (Ne.symm e0) (hPB x hbx) o1
        · rw [(old b eb).1] at hb
          exact h.s.apart a b x ha hb hab o1 (oldown b x eb hbx).1
    · by_cases ea : a = G.n
      · subst ea; rw [tn] at hx; exact h.s.old 0 x h.a.live0 (hPB x hx)
      · rw [(old a ea).1] at ha; exact h.s.old a x ha (oldown a x ea hx).1
    · by_cases ea : a = G.n
      · subst ea; rw [tn] at hx; exact h.s.nsh 0 x h.a.live0 (hPB x hx)
      · rw [(old a ea).1] at ha; exact h.s.nsh a x ha (oldown a x ea hx).1
  · exact h.m.tr (fun y => by cases y <;> rfl) rfl rfl
  · refine ⟨fun k hk => ?_, fun j k r hj hmj => ?_, fun j k hj hr => ?_, fun j k hj hp => ?_, fun a v k hv => ?_, h.k.ini, fun j a v hj hv => ?_⟩
    · have : (G.spawn PB jb).cnt k = G.cnt k := by
        funext r
        show sumTo (G.n + 1) (fun j => ((G.spawn PB jb).th j).at k r) = _
        rw [sums (fun l => l.at k r) (by unfold Lo.at; rw [(old 0 h0n).1, (old 0 h0n).2.2.1]), tn]
        have : (Lo.new PB (if jb = true then some ps else none)).at k r = 0 := by unfold Lo.at Lo.new; simp
        rw [this]; rfl
      rw [this]; exact h.k.mu k hk
    · by_cases e : j = G.n
      · subst e; rw [tn] at hmj; cases hmj
      · rw [(old j e).1] at hj; rw [(old j e).2.2.1] at hmj; exact h.k.mrK j k r hj hmj
    · by_cases e : j = G.n
      · subst e; rw [tn] at hr; cases hr
      · rw [(old j e).1] at hj; rw [(old j e).2.2.2.2.2.1] at hr; rw [(old j e).2.2.1]; exact h.k.run j k hj hr
    · by_cases e : j = G.n
      · subst e; rw [tn] at hp; cases hp
      · rw [(old j e).1] at hj; rw [(old j e).2.2.2.2.1] at hp; exact h.k.pas j k hj hp
    · obtain ⟨p1, p2, p3⟩ := h.k.prot a v k hv
      refine ⟨p1, p2, p3.imp (fun ⟨j, q1, q2, q3⟩ => ⟨j, ?_⟩) fun ⟨q1, q2⟩ => ⟨fun j hj hr => ?_, q2⟩⟩
      · obtain ⟨o1, _, _, _, _, o2, _, _, _, _, o3, _⟩ := old j (livelt j q1)
        rw [o1, o2, o3]; exact ⟨q1, q2, q3⟩
      · by_cases e : j = G.n
        · subst e; rw [tn] at hr; cases hr
        · rw [(old j e).1] at hj; rw [(old j e).2.2.2.2.2.1] at hr; exact q1 j hj hr
    · by_cases e : j = G.n
      · subst e; rw [tn] at hv; cases hv
      · obtain ⟨o1, _, _, _, o4, o2, _, _, _, _, o3, _⟩ := old j e
        rw [o1] at hj; rw [o3] at hv
        rw [o4, o2]; exact h.k.kn j a v hj hv
  · -- the wait group
    have hb := sums Lo.busy (by unfold Lo.busy; rw [(old 0 h0n).1, (old 0 h0n).2.1, (old 0 h0n).2.2.2.2.2.2.2.2.1])
    have hl := sums Lo.lasts (by unfold Lo.lasts; rw [(old 0 h0n).1, (old 0 h0n).2.2.2.2.2.2.2.2.1])
    have hs := sums Lo.lastsS (by unfold Lo.lastsS; rw [(old 0 h0n).1, (old 0 h0n).2.2.2.2.2.2.2.2.1])
    rw [tn] at hb hl hs
    have b1 : (Lo.new PB (if jb = true then some ps else none)).busy = 1 := rfl
    have b2 : (Lo.new PB (if jb = true then some ps else none)).lasts = 0 := rfl
    have b3 : (Lo.new PB (if jb = true then some ps else none)).lastsS = 0 := rfl
    have g0 : ((G.spawn PB jb).th 0).gr = (G.th 0).gr := (old 0 h0n).2.2.2.2.2.2.2.2.1
    have hN := h.g.n
    have hM := h.g.m
    have hA := h.g.a
    refine ⟨?_, ?_, ?_, fun x => ?_, fun x => ?_, fun x y => ?_, fun x => ?_, h.g.small, fun j hj => ?_, fun x => ?_⟩
    · show G.wn = 0 + sumTo (G.n + 1) fun j => ((G.spawn PB jb).th j).busy
      omega
    · show (if ((G.spawn PB jb).th 0).gr = .waits then 1 else 0) = G.ww + (sumTo (G.n + 1) fun j => ((G.spawn PB jb).th j).lastsS) + G.ws
      rw [g0, hM]; omega
    · show (sumTo (G.n + 1) fun j => ((G.spawn PB jb).th j).lasts) ≤ G.ww
      omega
    · have x : 0 < sumTo (G.n + 1) fun j => ((G.spawn PB jb).th j).lasts := x
      exact h.g.z (by omega)
    · have x : 0 < (sumTo (G.n + 1) fun j => ((G.spawn PB jb).th j).lastsS) + G.ws := x
      exact h.g.zs (by omega)
    · show 0 < sumTo (G.n + 1) fun j => ((G.spawn PB jb).th j).lasts
      have := h.g.w x y; omega
    · exfalso
      rw [g0, hgr] at x
      rcases x with x | x <;> cases x
    · by_cases e : j = G.n
      · subst e; rw [tn]; exact ⟨fun x => absurd x hn0, fun _ => ⟨rfl, .inl rfl⟩⟩
      · obtain ⟨o1, o2, _, _, _, _, _, _, o9, _⟩ := old j e
        rw [o1] at hj; rw [o2, o9]; exact h.g.role j hj
    · exfalso
      rw [g0, hgr] at x
      rcases x with ⟨_, x⟩ | x <;> cases x
  · -- the jobs
    refine ⟨fun hC j hj => ?_, fun j v hj hv => ?_, fun j hj hv => ?_, fun x => (by rw [show (G.spawn PB jb).cl = G.cl from rfl, hcl] at x; cases x), ?_, fun r => ?_, fun j jj hj hjj => ?_, ?_, fun hC hc j hj => ?_, fun _ _ => ?_, fun hC x => ?_, fun j hj hx => ?_, ?_, fun j hj hx => ?_⟩
    · by_cases e : j = G.n
      · subst e; rw [tn]; rfl
      · rw [(old j e).1] at hj; rw [(old j e).2.2.2.2.2.2.1]; exact h.j.noC hC j hj
    · exfalso
      by_cases e : j = G.n
      · subst e; rw [tn] at hv; cases hv
      · rw [(old j e).1] at hj; rw [(old j e).2.2.2.2.2.2.1] at hv
        have := (h.j.ch0 j v hj hv).1
        subst this; rw [hch] at hv; cases hv
    · by_cases e : j = G.n
      · subst e; rw [tn] at hv; cases hv
      · obtain ⟨o1, _, o3, _, _, _, o7, _, o9, o10, _⟩ := old j e
        rw [o1] at hj; rw [o7] at hv; rw [o3, o9, o10]; exact h.j.chR j hj hv
    · rw [hpos]
      have := h.j.posn
      cases jb with
      | false => show ps + 0 ≤ E.nj; omega
      | true => have := hjb rfl; show ps + 1 ≤ E.nj; omega
    · show G.cv r + sumTo (G.n + 1) (fun j => ((G.spawn PB jb).th j).holds E.rs r) = sentTo E.rs r (G.pos + jb.toNat)
      rw [sums (fun l => l.holds E.rs r) (by simp only [Lo.holds]; rw [(old 0 h0n).1, (old 0 h0n).2.2.2.2.2.2.2.2.2.1]), tn]
      have := h.j.cnt r
      cases jb with
      | false =>
        have e1 : (Lo.new PB (if false = true then some ps else none)).holds E.rs r = 0 := rfl
        rw [e1]; show _ = sentTo E.rs r G.pos; omega
      | true =>
        have e1 : (Lo.new PB (if true = true then some ps else none)).holds E.rs r = if E.rs ps = some r then 1 else 0 := by
          unfold Lo.holds Lo.new; simp
        have e2 : sentTo E.rs r (G.pos + 1) = sentTo E.rs r G.pos + if E.rs G.pos = some r then 1 else 0 := rfl
        rw [e1]; show _ = sentTo E.rs r (G.pos + 1)
        rw [e2, ← m3] at *; omega
    · rw [hpos]
      by_cases e : j = G.n
      · subst e
        rw [tn] at hjj
        cases jb with
        | false => cases hjj
        | true =>
          have : ps = jj := by
            have hjj : (some ps : Option Nat) = some jj := hjj
            simpa using hjj
          subst this
          refine ⟨by show ps < ps + 1; omega, ?_⟩
          show upd G.tk G.pos (some G.n) ps = _
          rw [← m3, upd_same]
      · rw [(old j e).1] at hj
        rw [(old j e).2.2.2.2.2.2.2.2.2.1] at hjj
        obtain ⟨j1, j2⟩ := h.j.jobs j jj hj hjj
        exact ⟨by omega, by rw [htk jj (by omega)]; exact j2⟩
    · refine ⟨fun j hj => ?_, fun j i hj => ?_⟩
      · rw [hpos] at hj
        cases jb with
        | false => exact h.j.tks.1 j (by have : ps + 0 ≤ j := hj; omega)
        | true =>
          have hj : ps + 1 ≤ j := hj
          rw [htk j (by omega)]; exact h.j.tks.1 j (by omega)
      · show i < G.n + 1
        by_cases e : j = G.pos
        · subst e
          have hj : (if jb = true then upd G.tk G.pos (some G.n) else G.tk) G.pos = some i := hj
          split at hj
          · rw [upd_same] at hj; cases hj; omega
          · rw [htkp] at hj; cases hj
        · rw [htk j e] at hj
          have := h.j.tks.2 j i hj; omega
    · by_cases e : j = G.n
      · subst e; rw [tn]; exact ⟨rfl, rfl⟩
      · rw [(old j e).1, (old j e).2.2.2.2.2.2.2.2.1]
        refine h.j.stay hC hcl j ⟨hj.1, ?_⟩
        have : j < G.n + 1 := hj.2
        omega
    · show E.n0 < G.n + 1
      have := h.a.pos0.2; omega
    · exfalso; rw [(old 0 h0n).2.2.2.2.2.2.2.2.1] at x; exact x hgr
    · by_cases e : j = G.n
      · subst e; rw [tn]; rfl
      · obtain ⟨o1, _, o3, _, _, _, o7, _, o9, o10, _⟩ := old j e
        rw [o1] at hj; rw [o3] at hx; rw [o9]; exact h.j.mrG j hj hx
    · rw [t0, ← hlf, m3, m4]; rfl
    · by_cases e : j = G.n
      · subst e; rw [tn] at hx; cases hx
      · rw [(old j e).1] at hj; rw [(old j e).2.2.2.2.2.2.2.2.2.2.2.1] at hx; exact h.j.sc j hj hx
  · -- the trace
    have hpp : (t.push { g := 0, fn := fn, pos := pos, act := .go G.n }).push { g := G.n, fn := fn2, pos := pos, act := .start } = t ++ #[{ g := 0, fn := fn, pos := pos, act := .go G.n }, { g := G.n, fn := fn2, pos := pos, act := .start }] := by apply Array.toList_inj.1; simp
    have hmt : ∀ op ∈ (#[{ g := 0, fn := fn, pos := pos, act := .go G.n }, { g := G.n, fn := fn2, pos := pos, act := .start }] : Trace), op.act.touch? = none ∧ (op.act ≠ .mark .disable ∧ op.act ≠ .mark .enable) ∧ (∀ a, op.act ≠ .mark (.release a)) ∧ op.act.low w.heap.size := by
      intro op hop
      simp at hop
      rcases hop with rfl | rfl
      · exact ⟨rfl, ⟨by simp, by simp⟩, by simp, trivial⟩
      · exact ⟨rfl, ⟨by simp, by simp⟩, by simp, trivial⟩
    have hdd : ∀ j, Deaf ((t.push { g := 0, fn := fn, pos := pos, act := .go G.n }).push { g := G.n, fn := fn2, pos := pos, act := .start }) j = Deaf t j := fun j => by
      rw [hpp]; exact Go.ConcN.Deaf_still _ _ _ fun op hop => (hmt op hop).2.1
    have hkn : ∀ i, Knows t 0 i → Knows ((t.push { g := 0, fn := fn, pos := pos, act := .go G.n }).push { g := G.n, fn := fn2, pos := pos, act := .start }) G.n i := fun i hi =>
      Knows.spawn hi ⟨rfl, rfl⟩ ⟨rfl, rfl⟩ (by rw [h.t.deaf 0 h.a.live0]; exact hdf) (h.t.quiet G.n (Nat.le_refl _)) h0n
    have hti : TI (E.dis G) w.heap.size ((t.push { g := 0, fn := fn, pos := pos, act := .go G.n }).push { g := G.n, fn := fn2, pos := pos, act := .start }) := by
      rw [hpp]; exact h.t.ti.mute (fun op hop => (hmt op hop).1) (Nat.le_refl _) fun op hop => (hmt op hop).2.2.2
    have htouch : ∀ i a, touchAt ((t.push { g := 0, fn := fn, pos := pos, act := .go G.n }).push { g := G.n, fn := fn2, pos := pos, act := .start }) i = some a → touchAt t i = some a := fun i a ha => by
      obtain ⟨x, hx, hxa⟩ := touch_of ha
      rw [hpp] at hx
      rcases split_at hx with ⟨_, hx⟩ | ⟨_, hx⟩
      · rw [touchAt_of hx]; exact hxa
      · rw [(hmt x hx).1] at hxa; cases hxa
    have hrun0 : (G.th 0).run = none := by
      cases e : (G.th 0).run with
      | none => rfl
      | some k => have := (h.k.run 0 k h.a.live0 e).1; rw [hmr] at this; cases this
    have prot' : ∀ k, (∀ j, ((G.spawn PB jb).th j).live = true → ((G.spawn PB jb).th j).run ≠ some k) → ∀ j, (G.th j).live = true → (G.th j).run ≠ some k := fun k hk j hj => by
      have := hk j (by rw [(old j (livelt j hj)).1]; exact hj)
      rwa [(old j (livelt j hj)).2.2.2.2.2.1] at this
    have tks' : ∀ j i, ((G.spawn PB jb).tk j = some i ∨ (G.spawn PB jb).tk j = none) → G.tk j = some i ∨ G.tk j = none := fun j i hj => by
      by_cases e : j = G.pos
      · subst e; exact .inr htkp
      · rw [htk j e] at hj; exact hj
    refine ⟨hti.change (fun g l hw => ?_) (fun g l hw => ?_) (fun g l hw => ?_) (fun g l hw => .inl hw), fun j hj => ?_, fun j hj => ?_, ?_⟩
    · obtain ⟨h1, h2⟩ := hw
      by_cases e : g = G.n
      · subst e
        -- what the new one may, its starter might
        right
        intro j b hb hbl
        refine hkn j (h.t.ti.W 0 l j b ?_ (htouch j b hb) hbl)
        cases l with
        | cell a =>
          rcases h2 with h2 | ⟨v, k, hv, h2⟩ | ⟨v, j, hv, h2⟩
          · rw [tn] at h2; exact ⟨h.a.live0, .inl (hPB _ h2)⟩
          · rcases h2 with h2 | h2
            · rw [tn] at h2; cases h2
            · exact ⟨h.a.live0, .inr (.inl ⟨v, k, hv, .inr (prot' k h2)⟩)⟩
          · rcases tks' j G.n h2 with x | x
            · have := h.j.tks.2 j G.n x; omega
            · exact ⟨h.a.live0, .inr (.inr ⟨v, j, hv, .inr x⟩)⟩
        | obj r => rw [tn] at h2; exact ⟨h.a.live0, hPB _ h2⟩
        | _ => exact h2.elim
      · left
        rw [(old g e).1] at h1
        refine ⟨h1, ?_⟩
        cases l with
        | cell a =>
          rcases h2 with h2 | ⟨v, k, hv, h2⟩ | ⟨v, j, hv, h2⟩
          · exact .inl (oldown g _ e h2).1
          · exact .inr (.inl ⟨v, k, hv, h2.imp (fun x => by rw [← (old g e).2.2.2.2.2.1]; exact x) (prot' k)⟩)
          · exact .inr (.inr ⟨v, j, hv, tks' j g h2⟩)
        | obj r => exact (oldown g _ e h2).1
        | _ => exact h2.elim
    · obtain ⟨h1, h2⟩ := hw
      by_cases e : g = G.n
      · subst e
        right
        intro j b hb hbl hbw
        refine hkn j (h.t.ti.R 0 l j b ?_ (htouch j b hb) hbl hbw)
        cases l with
        | cell a =>
          obtain ⟨v, hv | ⟨k, hv, hp⟩⟩ := h2
          · exact ⟨h.a.live0, v, .inl hv⟩
          · rw [tn] at hp; cases hp
        | _ => exact h2.elim
      · left
        rw [(old g e).1] at h1
        refine ⟨h1, ?_⟩
        cases l with
        | cell a =>
          obtain ⟨v, hv | ⟨k, hv, hp⟩⟩ := h2
          · exact ⟨v, .inl hv⟩
          · exact ⟨v, .inr ⟨k, hv, by rw [← (old g e).2.2.2.2.1]; exact hp⟩⟩
        | _ => exact h2.elim
    · obtain ⟨h1, h2⟩ := hw
      by_cases e : g = G.n
      · subst e
        right
        intro j b hb hbl hbw
        refine hkn j (h.t.ti.A 0 l j b ?_ (htouch j b hb) hbl hbw)
        cases l with
        | cell a =>
          rcases h2 with h2 | ⟨v, k, hv, hp⟩
          · exact ⟨h.a.live0, .inl h2⟩
          · rw [tn] at hp; cases hp
        | obj r => exact ⟨h.a.live0, h2⟩
        | _ => exact h2.elim
      · left
        rw [(old g e).1] at h1
        refine ⟨h1, ?_⟩
        cases l with
        | cell a =>
          rcases h2 with h2 | ⟨v, k, hv, hp⟩
          · exact .inl h2
          · exact .inr ⟨v, k, hv, by rw [← (old g e).2.2.2.2.1]; exact hp⟩
        | obj r => exact h2
        | _ => exact h2.elim
    · rw [hdd]
      by_cases e : j = G.n
      · subst e; rw [tn]; exact h.t.quiet G.n (Nat.le_refl _)
      · rw [(old j e).1] at hj; rw [(old j e).2.2.2.2.2.2.2.2.2.2.2.2]; exact h.t.deaf j hj
    · rw [hdd]
      have : G.n + 1 ≤ j := hj
      exact h.t.quiet j (by omega)
    · have T : Tell E G ((t.push { g := 0, fn := fn, pos := pos, act := .go G.n }).push { g := G.n, fn := fn2, pos := pos, act := .start }) := by
        rw [hpp]; exact h.t.tell.mute (fun op hop => (hmt op hop).1) fun op hop a => (hmt op hop).2.2.1 a
      have ours' : ∀ g, E.ours G g → E.ours (G.spawn PB jb) g := fun g hg => ⟨hg.1, by show g < G.n + 1; have := hg.2; omega⟩
      refine ⟨fun i op a h1 h2 h3 => (T.known i op a h1 h2 h3).imp (ours' _) id, fun i op h1 h2 h3 => (T.over i op h1 h2 h3).imp (ours' _) id, T.norel, fun g hg => ?_, fun k hk hd => ?_, fun x => ?_⟩
      · by_cases e : g = G.n
        · subst e; rw [tn]; exact .inl ⟨rfl, rfl, rfl⟩
        · obtain ⟨o1, _, _, _, _, _, _, o8, o9, _⟩ := old g e
          rw [o1, o8, o9]
          exact T.rel g ⟨hg.1, by have : g < G.n + 1 := hg.2; omega⟩
      · obtain ⟨p, a1, a2, a3, a4⟩ := T.pub k hk hd
        refine ⟨p, a1, a2, a3, fun j hj hp => ?_⟩
        by_cases e : j = G.n
        · subst e; rw [tn] at hp; cases hp
        · rw [(old j e).1] at hj; rw [(old j e).2.2.2.2.1] at hp; exact a4 j hj hp
      · exfalso; rw [(old 0 h0n).2.2.2.2.2.2.2.2.1, hgr] at x; cases x
  · -- what is left
    have f1 := sums (fun l => l.φ E.K) (by rw [t0]; rfl)
    have f2 : ∀ k, sumTo (G.n + 1) (fun j => ((G.spawn PB jb).th j).stale k (G.wd k)) = sumTo G.n (fun j => (G.th j).stale k (G.wd k)) := fun k => by
      rw [sums (fun l => l.stale k (G.wd k)) (by rw [t0]; rfl), tn]
      have : (Lo.new PB (if jb = true then some ps else none)).stale k (G.wd k) = 0 := rfl
      omega
    rw [tn] at f1
    have f3 : (Lo.new PB (if jb = true then some ps else none)).φ E.K = 7 + sumTo E.K fun _ => 960 := rfl
    have f4 : ∀ n, (sumTo n fun _ => 960) = 960 * n := fun n => by
      induction n with
      | zero => rfl
      | succ n ih => simp only [sumTo, ih]; omega
    have f5 : ((G.spawn PB jb).th 0).staleG G.wn = (G.th 0).staleG G.wn := by unfold Lo.staleG; rw [(old 0 h0n).2.2.2.2.2.2.2.2.1]
    rw [f4] at f3
    show sumTo (G.n + 1) (fun i => ((G.spawn PB jb).th i).φ E.K) + sumTo E.K (fun k => 320 * G.sm k + sumTo (G.n + 1) fun i => ((G.spawn PB jb).th i).stale k (G.wd k)) + 8192 * (G.left - 1) + (E.nj - (G.pos + jb.toNat)) + (!G.cl).toNat + ((G.spawn PB jb).th 0).staleG G.wn < _
    unfold Gh.Φ
    simp only [f2, f5]
    omega
  · intro j e hj
    rcases hj with ⟨k, hk, hs⟩ | ⟨e, hw, _⟩
    · exact .inl ⟨k, by rw [(old j e).2.2.1]; exact hk, hs⟩
    · rw [hgr] at hw; cases hw
end Go.Co

namespace Go.Co
open Go Go.Conc
open Go.ConcM (OsLater)
open Go.ConcN (sumTo upd sumTo_upd upd_ne upd_same sumTo_congr le_sumTo sumTo_le)
variable {E : Geo} {G G' : Gh} {w w' : World} {t t' u : Trace} {B B' : Nat}
def Lo.to (l : Lo) (c : Ch) : Lo := { l with ch := c }
theorem GI.setCh (h : GI E G w t) {i : Nat} {c : Ch} (hi : (G.th i).live = true)
    (hch : (c = .recv ∧ E.hasC = true ∧ i ≠ 0 ∧ (∀ j, (G.th i).job = some j → E.rs j = none) ∧ (G.th i).mr = none ∧ (G.th i).gr = .out) ∨
      (∃ v, c = .send v ∧ E.hasC = true ∧ i = 0 ∧ G.pos < E.nj ∧ v = E.jv G.pos ∧ G.cl = false ∧ G.left = 0 ∧ (G.th i).gr = .out)) :
    ∃ G', Did E i G G' w w t ((G.th i).to c) ∧ Calm E G G' := by
  have hh := h.thr (l' := (G.th i).to c) (w' := w) (t' := t) hi ⟨rfl, rfl, rfl, rfl, rfl, rfl, rfl, rfl, rfl, rfl, rfl⟩ (fun k hk => .inl hk) (fun k hk => hk) (fun a v hv => .inl hv) (fun a v hv => hv)
    (.inr (.inr hch)) h.m rfl
    (h.t.tr ⟨rfl, rfl, rfl, rfl, fun j => ⟨fld Lo.live (by rfl) j, fld Lo.own (by rfl) j, fld Lo.run (by rfl) j, fld Lo.pas (by rfl) j, fld Lo.rel (by rfl) j, by rw [fld (i := i) (l := (G.th i).to c) Lo.gr (by rfl) j], by rw [fld (i := i) (l := (G.th i).to c) Lo.gr (by rfl) j]⟩⟩ (fun j => fld Lo.deaf (by rfl) j) (Nat.le_refl _))
  exact ⟨_, ⟨hh.1, upd_same _ _ _, fun j hj => upd_ne _ _ hj, rfl, fun j _ _ => View.refl _ _, hh.2⟩, Calm.of rfl rfl rfl rfl rfl rfl⟩
theorem GI.toRecv (h : GI E G w t) {i : Nat} (hi : (G.th i).live = true) (hi0 : i ≠ 0) (hC : E.hasC = true) (hjob : ∀ j, (G.th i).job = some j → E.rs j = none) (hmr : (G.th i).mr = none) (hgr : (G.th i).gr = .out) :
    ∃ G', Did E i G G' w w t ((G.th i).to .recv) ∧ Calm E G G' := h.setCh hi (.inl ⟨rfl, hC, hi0, hjob, hmr, hgr⟩)
theorem GI.toSend (h : GI E G w t) {ps : Nat} (hC : E.hasC = true) (hme : (G.th 0).me = ⟨0, 0, ps, false⟩) (hps : ps < E.nj) (hgr : (G.th 0).gr = .out) :
    ∃ G', Did E 0 G G' w w t ((G.th 0).to (.send (E.jv ps))) ∧ Calm E G G' := by
  have hm := h.j.me
  rw [hme] at hm
  simp only [Me.mk.injEq] at hm
  obtain ⟨m1, _, m3, m4⟩ := hm
  exact h.setCh h.a.live0 (.inr ⟨_, rfl, hC, rfl, by rw [← m3]; exact hps, by rw [← m3], m4.symm, m1.symm, hgr⟩)
theorem GI.says (h : GI E G w t) {i : Nat} {es : Array Event} (fn : FuncId) (pos : String) (hi : (G.th i).live = true) (he : ∀ e ∈ es, SEv E e) (hh : w'.heap = w.heap) (h1 : w'.tape = w.tape) (h2 : w'.output = w.output) (h3 : OsLater w.os w'.os)
    (hq : (G.th i).rel = none ∨ ∀ j e, es[j]? = some e → (MemAct.ofEvent e).touch? = none ∨ ((e.loc = .cell (E.sc .wst) ∨ e.loc = .cell (E.sc .wsm)) ∧ 0 < deafBehind (G.th i).deaf (es.extract 0 j))) :
    ∃ G', Did E i G G' w w' (t ++ MemOp.ofEvents i fn pos es) { G.th i with deaf := deafBehind (G.th i).deaf es } ∧ Calm E G G' := by
  obtain ⟨a, b⟩ := h.said fn pos hi he hh h1 h2 h3 hq
  exact ⟨_, ⟨a, upd_same _ _ _, fun j hj => upd_ne _ _ hj, rfl, fun j _ _ => ⟨by rw [hh]; exact Nat.le_refl _, fun b _ => by rw [hh]⟩, b⟩, Calm.of rfl rfl rfl rfl rfl rfl⟩
end Go.Co

namespace Go.Co
open Go Go.Conc
open Go.ConcM (OsLater)
open Go.ConcN (sumTo upd sumTo_upd upd_ne upd_same sumTo_congr le_sumTo sumTo_le)
variable {E : Geo} {N i : Nat} {l : Lo} {w : World}
def Tr (E : Geo) (N i : Nat) (l : Lo) (g : Goroutine) (w : World) : Prop := E.pro.Lv (N + 1) i (l, g, w)
def Geo.FinV (E : Geo) : Prop := ∀ l g w w', E.fin l g w → View l.own w w' → E.fin l g w'
theorem Tr.view (hf : E.FinV) {g : Goroutine} {w' : World} (h : Tr E N i l g w) (hv : View l.own w w') : Tr E N i l g w' := by
  have key : ∀ n : E.pro.Node, E.pro.Lv (N + 1) i n → ∀ w', View n.1.own n.2.2 w' → E.pro.Lv (N + 1) i (n.1, n.2.1, w') := by
    intro n hn
    refine Lfp.induct (F := E.pro.F (E.pro.Lv N) i) (Pro.F.mono E.pro _ i) (Q := fun n => ∀ w', View n.1.own n.2.2 w' → E.pro.Lv (N + 1) i (n.1, n.2.1, w')) (fun n hn w' hv => ?_) hn
    refine Pro.Lv.fold ?_
    obtain ⟨h0, h⟩ := hn
    refine ⟨h0, ?_⟩
    rcases h with ⟨a, b, c⟩ | ⟨hc, h⟩ | ⟨hc, h⟩ | ⟨hi, hc, h⟩ | ⟨hi, v, hc, h⟩
    · exact .inl ⟨a, b, hf _ _ _ _ c hv⟩
    · refine .inr (.inl ⟨hc, fun w2 hw2 => ?_⟩)
      obtain ⟨g', w3, es, a, b, c, d, e⟩ := h w2 (hv.trans hw2)
      exact ⟨g', w3, es, a, b, c, d, e.2⟩
    · exact .inr (.inr (.inl ⟨hc, fun G w2 t a b c d => (h G w2 t a b c (hv.trans d)).mono (fun _ _ x => x) fun _ x => x.2⟩))
    · refine .inr (.inr (.inr (.inl ⟨hi, hc, fun w2 hw2 => ?_⟩)))
      obtain ⟨z, a, b, c⟩ := h w2 (hv.trans hw2)
      exact ⟨z, a, b, fun l' hl => (c l' hl).2⟩
    · refine .inr (.inr (.inr (.inr ⟨hi, v, hc, fun w2 hw2 => ?_⟩)))
      exact h w2 (hv.trans hw2)
  exact key _ h w' hv
theorem Tr.less {g : Goroutine} (h : Tr E (N + 1) i l g w) : Tr E N i l g w := Pro.Lv.less h
def Runs (g : Goroutine) : Prop := g.status = .running ∧ g.offers = none ∧ g.dying = none
theorem runs_G (fr : Frame) (cs : List Frame) : Runs (G fr cs) := ⟨rfl, rfl, rfl⟩
theorem Lo.grow_self (l : Lo) (a : Nat) : l.grow a a = l := by
  unfold Lo.grow
  have : (fun c => l.own c ∨ (a ≤ c ∧ c < a)) = l.own := by
    funext c; apply propext
    exact ⟨fun h => h.resolve_right fun x => by omega, .inl⟩
  rw [this]
theorem Tr.priv {g : Goroutine} (hg : Runs g) (hch : l.ch = .no)
    (h : ∀ w₁, View l.own w w₁ → ∃ g' w' es, stepG E.P (i == 0) g w₁ = .go g' w' es ∧ g'.status = .running ∧ Priv l.own w₁ w' es ∧ (l.rel ≠ none → ∀ e ∈ es, (MemAct.ofEvent e).touch? = none) ∧ Tr E N i (l.grow w₁.heap.size w'.heap.size) g' w') : Tr E N i l g w :=
  Pro.Lv.fold ⟨hg, .inr (.inl ⟨hch, h⟩)⟩
theorem Tr.still (hf : E.FinV) {g g' : Goroutine} (hg : Runs g) (hg' : g'.status = .running) (hch : l.ch = .no) (hs : ∀ w₁, View l.own w w₁ → stepG E.P (i == 0) g w₁ = .go g' w₁ #[]) (k : Tr E N i l g' w) : Tr E N i l g w := by
  refine Tr.priv hg hch fun w₁ hv => ⟨g', w₁, #[], hs w₁ hv, hg', ⟨Nat.le_refl _, fun _ _ _ => rfl, rfl, rfl, rfl, fun e he => by simp at he⟩, fun _ e he => by simp at he, ?_⟩
  rw [Lo.grow_self]; exact k.view hf hv
section
variable {b : Frame} {a : Act} {k : List Item} {cs : List Frame}
theorem Tr.skip (hf : E.FinV) (hch : l.ch = .no) (h : Tr E N i l (G (b.at a k) cs) w) : Tr E N i l (G (b.at a (.code .skip :: k)) cs) w := Tr.still hf (runs_G _ _) rfl hch (fun _ _ => stepG_skip) h
theorem Tr.inBlock (hf : E.FinV) (hch : l.ch = .no) {x : Nat} (h : Tr E N i l (G (b.at a k) cs) w) : Tr E N i l (G (b.at a (.inBlock x :: k)) cs) w := Tr.still hf (runs_G _ _) rfl hch (fun _ _ => stepG_inBlock) h
theorem Tr.seq (hf : E.FinV) (hch : l.ch = .no) {x y : Code} (h : Tr E N i l (G (b.at a (.code x :: .code y :: k)) cs) w) : Tr E N i l (G (b.at a (.code (.seq x y) :: k)) cs) w := Tr.still hf (runs_G _ _) rfl hch (fun _ _ => stepG_seq) h
theorem Tr.block (hf : E.FinV) (hch : l.ch = .no) {x : Nat} {c : Code} (h : Tr E N i l (G (b.at a (.code c :: .inBlock x :: k)) cs) w) : Tr E N i l (G (b.at a (.code (.block x c) :: k)) cs) w := Tr.still hf (runs_G _ _) rfl hch (fun _ _ => stepG_block) h
theorem Tr.loop (hf : E.FinV) (hch : l.ch = .no) {c : Code} (h : Tr E N i l (G (b.at a (.code c :: .inLoop c :: k)) cs) w) : Tr E N i l (G (b.at a (.code (.loop c) :: k)) cs) w := Tr.still hf (runs_G _ _) rfl hch (fun _ _ => stepG_loop) h
theorem Tr.inLoop (hf : E.FinV) (hch : l.ch = .no) {c : Code} (h : Tr E N i l (G (b.at a (.code c :: .inLoop c :: k)) cs) w) : Tr E N i l (G (b.at a (.inLoop c :: k)) cs) w := Tr.still hf (runs_G _ _) rfl hch (fun _ _ => stepG_inLoop) h
theorem Tr.exit (hf : E.FinV) (hch : l.ch = .no) {x : Nat} {k' : List Item} (hx : exitTo x k = some k') (h : Tr E N i l (G (b.at a k') cs) w) : Tr E N i l (G (b.at a (.code (.exit x) :: k)) cs) w := Tr.still hf (runs_G _ _) rfl hch (fun _ _ => stepG_exit hx) h
theorem Tr.cond (hf : E.FinV) (hch : l.ch = .no) {c : Operand} {x y : Code} {t : Bool} (hc : a.eval c = .bool t) (h : Tr E N i l (G (b.at a (.code (if t then x else y) :: k)) cs) w) : Tr E N i l (G (b.at a (.code (.cond c x y) :: k)) cs) w := Tr.still hf (runs_G _ _) rfl hch (fun _ _ => stepG_cond hc) h
theorem Tr.region (hf : E.FinV) (hch : l.ch = .no) {x : Nat} {ops : Array Oper} (h : Tr E N i l (G (b.at a (.inRegion ops (List.range ops.size) :: k)) cs) w) : Tr E N i l (G (b.at a (.code (.region x ops false) :: k)) cs) w := Tr.still hf (runs_G _ _) rfl hch (fun _ _ => stepG_region) h
theorem Tr.regionEnd (hf : E.FinV) (hch : l.ch = .no) {ops : Array Oper} (h : Tr E N i l (G (b.at a k) cs) w) : Tr E N i l (G (b.at a (.inRegion ops [] :: k)) cs) w := Tr.still hf (runs_G _ _) rfl hch (fun _ _ => stepG_region_end) h
theorem Tr.fall (hf : E.FinV) (hch : l.ch = .no) (h : Tr E N i l (G { b.at a [] with mode := .returning } cs) w) : Tr E N i l (G (b.at a []) cs) w := Tr.still hf (runs_G _ _) rfl hch (fun _ _ => stepG_end) h
theorem Tr.ret (hf : E.FinV) (hch : l.ch = .no) (h : Tr E N i l (G { b.at a (.code .ret :: k) with mode := .returning } cs) w) : Tr E N i l (G (b.at a (.code .ret :: k)) cs) w := Tr.still hf (runs_G _ _) rfl hch (fun _ _ => stepG_ret') h
end
abbrev Nv := List (Nat × Value)
def Nv.get : Nv → Nat → Option Value
  | [], _ => none
  | (j, v) :: e, k => bif Nat.beq j k then some v else Nv.get e k
def Has (n : Nat) (env : Nv) (a : Act) : Prop := a.tmps.size = n ∧ ∀ k v, env.get k = some v → a.tmps[k]? = some v
def Nv.ev (env : Nv) : Operand → Option Value
  | .tmp t => env.get t
  | .const v => some v
  | .global g => some (.pointer (some ⟨g, 0, none⟩))
  | .func f => some (.func (.func f) #[] #[])
def Nv.put (env : Nv) (d : Option Nat) (v : Value) : Nv := match d with
  | some d => (d, v) :: env
  | none => env
def dstOk (n : Nat) (d : Option Nat) : Bool := match d with
  | some d => Nat.blt d n
  | none => true
theorem Nv.get_put (env : Nv) (d : Nat) (v : Value) (k : Nat) : Nv.get ((d, v) :: env) k = if d = k then some v else env.get k := by
  simp only [Nv.get, cond_eq_ite]
  by_cases e : d = k
  · subst e; simp
  · have : Nat.beq d k = false := by rw [← Bool.not_eq_true]; exact fun x => e (Nat.eq_of_beq_eq_true x)
    simp [this, e]
theorem Has.ev {n : Nat} {env : Nv} {a : Act} (h : Has n env a) {x : Operand} {v : Value} (hx : env.ev x = some v) : a.eval x = v := by
  cases x with
  | tmp t => have := h.2 t v hx; simp [Act.eval, Array.getD_eq_getD_getElem?, this]
  | const u => cases hx; rfl
  | global g => cases hx; rfl
  | func f => cases hx; rfl
theorem Has.put {n : Nat} {env : Nv} {a : Act} (h : Has n env a) {d : Option Nat} (hd : dstOk n d = true) (v : Value) : Has n (env.put d v) (a.put d v) := by
  cases d with
  | none => exact h
  | some d =>
    have hdn : d < n := Nat.le_of_ble_eq_true (show Nat.ble (d + 1) n = true from hd)
    refine ⟨by simp [Act.put, h.1], fun k u hk => ?_⟩
    rw [Nv.put, Nv.get_put] at hk
    simp only [Act.put]
    split at hk
    · rename_i e; subst e; cases hk
      simp [h.1, hdn]
    · rename_i e
      rw [Array.getElem?_setIfInBounds_ne e]; exact h.2 k u hk
theorem Has.sub {n : Nat} {env env' : Nv} {a : Act} (h : Has n env a) (hs : ∀ k v, env'.get k = some v → env.get k = some v) : Has n env' a := ⟨h.1, fun k v hk => h.2 k v (hs k v hk)⟩
def wantE (ops : Array Oper) (env : Nv) (o : Oper) : Option Bool := match o.guard with
  | none => some true
  | some (j, want) => match (ops[j]?).bind (·.dst) with
    | some d => match env.get d with
      | some (.bool b) => some (b == want)
      | some (.tuple _) => some false
      | _ => none
    | none => none
theorem Has.want {n : Nat} {env : Nv} {a : Act} (h : Has n env a) {ops : Array Oper} {o : Oper} {t : Bool} (hw : wantE ops env o = some t) : Region.wanted o (yielded ops a.tmps) = t := by
  unfold wantE at hw
  unfold Region.wanted
  cases hg : o.guard with
  | none => rw [hg] at hw; cases hw; rfl
  | some p =>
    obtain ⟨j, want⟩ := p
    rw [hg] at hw
    simp only at hw ⊢
    unfold yielded
    cases hd : (ops[j]?).bind (·.dst) with
    | none => rw [hd] at hw; cases hw
    | some d =>
      rw [hd] at hw
      simp only at hw
      simp only [Option.bind_some]
      cases hv : env.get d with
      | none => rw [hv] at hw; cases hw
      | some v =>
        rw [hv] at hw
        rw [h.2 d v hv]
        cases v <;> simp only at hw <;> first
          | (cases hw; done)
          | (simp only [Option.some.injEq] at hw; subst hw; rfl)
          | skip
        all_goals (simp only [Option.some.injEq] at hw; subst hw; rename_i b; cases b <;> cases want <;> rfl)
def Tk (E : Geo) (N i : Nat) (l : Lo) (w : World) (b : Frame) (n : Nat) (env : Nv) (ds : List Deferred) (k : List Item) (cs : List Frame) : Prop :=
  ∀ a, Has n env a → a.defers = ds → Tr E N i l (G (b.at a k) cs) w
theorem Tk.sub {b : Frame} {n : Nat} {env env' : Nv} {ds : List Deferred} {k : List Item} {cs : List Frame} (h : Tk E N i l w b n env' ds k cs) (hs : ∀ k v, env'.get k = some v → env.get k = some v) : Tk E N i l w b n env ds k cs :=
  fun a ha hd => h a (ha.sub hs) hd
def PureOp (P : Program) (env : Nv) (o : Oper) (v : Value) : Prop :=
  ∀ n a, Has n env a → ∀ w, (execOp a.eval o).run P w = .ok (.value v) w ∧ (execOp a.eval o).events P w #[] = #[]
structure Wk (E : Geo) (l : Lo) (b : Frame) : Prop where
  fin : E.FinV
  ch : l.ch = .no
  kind : b.kind ≠ .early
section
variable {b : Frame} {n : Nat} {env : Nv} {ds : List Deferred} {k : List Item} {cs : List Frame}
theorem Tk.pure (W : Wk E l b) {ops : Array Oper} {j : Nat} {rest : List Nat} {o : Oper} {v : Value} (ho : ops[j]? = some o) (hw : wantE ops env o = some true) (hd : dstOk n o.dst = true) (hp : PureOp E.P env o v)
    (h : Tk E N i l w b n (env.put o.dst v) ds (.inRegion ops rest :: k) cs) : Tk E N i l w b n env ds (.inRegion ops (j :: rest) :: k) cs := by
  intro a ha hds
  refine Tr.still W.fin (runs_G _ _) (g' := G (b.at (a.put o.dst v) (.inRegion ops rest :: k)) cs) rfl W.ch (fun w₁ _ => ?_) (h _ (ha.put hd v) (by cases o.dst <;> exact hds))
  obtain ⟨h1, h2⟩ := hp n a ha w₁
  rw [stepG_value ho (ha.want hw) W.kind h1]
  unfold listed
  rw [h2, seen_none]
theorem Tk.unwanted (W : Wk E l b) {ops : Array Oper} {j : Nat} {rest : List Nat} {o : Oper} (ho : ops[j]? = some o) (hw : wantE ops env o = some false) (hd : dstOk n o.dst = true)
    (h : Tk E N i l w b n (env.put o.dst undef) ds (.inRegion ops rest :: k) cs) : Tk E N i l w b n env ds (.inRegion ops (j :: rest) :: k) cs := by
  intro a ha hds
  exact Tr.still W.fin (runs_G _ _) (g' := G (b.at (a.put o.dst undef) (.inRegion ops rest :: k)) cs) rfl W.ch (fun w₁ _ => stepG_unwanted ho (ha.want hw)) (h _ (ha.put hd undef) (by cases o.dst <;> exact hds))
theorem Tk.skip (W : Wk E l b) (h : Tk E N i l w b n env ds k cs) : Tk E N i l w b n env ds (.code .skip :: k) cs := fun a ha hd => (h a ha hd).skip W.fin W.ch
theorem Tk.inBlock (W : Wk E l b) {x : Nat} (h : Tk E N i l w b n env ds k cs) : Tk E N i l w b n env ds (.inBlock x :: k) cs := fun a ha hd => (h a ha hd).inBlock W.fin W.ch
theorem Tk.seq (W : Wk E l b) {x y : Code} (h : Tk E N i l w b n env ds (.code x :: .code y :: k) cs) : Tk E N i l w b n env ds (.code (.seq x y) :: k) cs := fun a ha hd => (h a ha hd).seq W.fin W.ch
theorem Tk.block (W : Wk E l b) {x : Nat} {c : Code} (h : Tk E N i l w b n env ds (.code c :: .inBlock x :: k) cs) : Tk E N i l w b n env ds (.code (.block x c) :: k) cs := fun a ha hd => (h a ha hd).block W.fin W.ch
theorem Tk.loop (W : Wk E l b) {c : Code} (h : Tk E N i l w b n env ds (.code c :: .inLoop c :: k) cs) : Tk E N i l w b n env ds (.code (.loop c) :: k) cs := fun a ha hd => (h a ha hd).loop W.fin W.ch
theorem Tk.inLoop (W : Wk E l b) {c : Code} (h : Tk E N i l w b n env ds (.code c :: .inLoop c :: k) cs) : Tk E N i l w b n env ds (.inLoop c :: k) cs := fun a ha hd => (h a ha hd).inLoop W.fin W.ch
theorem Tk.exit (W : Wk E l b) {x : Nat} {k' : List Item} (hx : exitTo x k = some k') (h : Tk E N i l w b n env ds k' cs) : Tk E N i l w b n env ds (.code (.exit x) :: k) cs := fun a ha hd => (h a ha hd).exit W.fin W.ch hx
theorem Tk.condT (W : Wk E l b) {c : Operand} {x y : Code} (hc : env.ev c = some (.bool true)) (h : Tk E N i l w b n env ds (.code x :: k) cs) : Tk E N i l w b n env ds (.code (.cond c x y) :: k) cs := fun a ha hd => Tr.cond W.fin W.ch (ha.ev hc) (h a ha hd)
theorem Tk.condF (W : Wk E l b) {c : Operand} {x y : Code} (hc : env.ev c = some (.bool false)) (h : Tk E N i l w b n env ds (.code y :: k) cs) : Tk E N i l w b n env ds (.code (.cond c x y) :: k) cs := fun a ha hd => Tr.cond W.fin W.ch (ha.ev hc) (h a ha hd)
theorem Tk.region (W : Wk E l b) {x : Nat} {ops : Array Oper} (h : Tk E N i l w b n env ds (.inRegion ops (List.range ops.size) :: k) cs) : Tk E N i l w b n env ds (.code (.region x ops false) :: k) cs := fun a ha hd => (h a ha hd).region W.fin W.ch
theorem Tk.regionEnd (W : Wk E l b) {ops : Array Oper} (h : Tk E N i l w b n env ds k cs) : Tk E N i l w b n env ds (.inRegion ops [] :: k) cs := fun a ha hd => (h a ha hd).regionEnd W.fin W.ch
end
def intV (op : BinOp) (k : IntKind) (x y : Int) : Option Value := match op with
  | .add => some (.int k (k.wrap (x + y)))
  | .sub => some (.int k (k.wrap (x - y)))
  | .mul => some (.int k (k.wrap (x * y)))
  | .and => some (.int k (k.wrap (BitVec.ofInt k.bits x &&& BitVec.ofInt k.bits y).toNat))
  | .or => some (.int k (k.wrap (BitVec.ofInt k.bits x ||| BitVec.ofInt k.bits y).toNat))
  | .andNot => some (.int k (k.wrap (BitVec.ofInt k.bits x &&& ~~~BitVec.ofInt k.bits y).toNat))
  | .eql => some (.bool (x == y))
  | .neq => some (.bool (x != y))
  | .lss => some (.bool (decide (x < y)))
  | .leq => some (.bool (decide (x ≤ y)))
  | .gtr => some (.bool (decide (x > y)))
  | .geq => some (.bool (decide (x ≥ y)))
  | _ => none
def shiftV (op : BinOp) (k : IntKind) (x y : Int) : Option Value := if y < 0 then none else match op with
  | .shl => some (.int k (k.wrap (x * 2 ^ (min y.toNat k.bits))))
  | .shr => some (.int k (x.fdiv (2 ^ (min y.toNat k.bits))))
  | _ => none
theorem pure_move {P : Program} {env : Nv} {o : Oper} {x : Operand} {v : Value} (ho : o.op = .move x ∨ o.op = .assign x) (hx : env.ev x = some v) : PureOp P env o v := fun n a ha w => by
  rcases ho with ho | ho <;> simp [execOp, ho, ha.ev hx]
theorem pure_pickT {P : Program} {env : Nv} {o : Oper} {c x y : Operand} {v : Value} (ho : o.op = .pick c x y) (hc : env.ev c = some (.bool true)) (hx : env.ev x = some v) : PureOp P env o v := fun n a ha w => by
  simp [execOp, ho, ha.ev hc, ha.ev hx, asBool]
theorem pure_pickF {P : Program} {env : Nv} {o : Oper} {c x y : Operand} {v : Value} (ho : o.op = .pick c x y) (hc : env.ev c = some (.bool false)) (hx : env.ev y = some v) : PureOp P env o v := fun n a ha w => by
  simp [execOp, ho, ha.ev hc, ha.ev hx, asBool]
theorem pure_not {P : Program} {env : Nv} {o : Oper} {t : TypeId} {x : Operand} {c : Bool} (ho : o.op = .unOp .not t x) (hx : env.ev x = some (.bool c)) : PureOp P env o (.bool (!c)) := fun n a ha w => by
  simp [execOp, ho, ha.ev hx, Op.unary]
theorem pure_int {P : Program} {env : Nv} {o : Oper} {op : BinOp} {t yt : TypeId} {x y : Operand} {k : IntKind} {p q : Int} {v : Value} (ho : o.op = .binOp op t x y yt) (hx : env.ev x = some (.int k p)) (hy : env.ev y = some (.int k q)) (hv : intV op k p q = some v) : PureOp P env o v := fun n a ha w => by
  cases op <;> simp only [intV] at hv <;> first
    | (cases hv; done)
    | (cases hv; simp [execOp, ho, ha.ev hx, ha.ev hy, eqGuard, binOp, Op.intArith, Op.intBits, Op.intCmp])
theorem pure_shift {P : Program} {env : Nv} {o : Oper} {op : BinOp} {t yt : TypeId} {x y : Operand} {k k' : IntKind} {p q : Int} {v : Value} (ho : o.op = .binOp op t x y yt) (hx : env.ev x = some (.int k p)) (hy : env.ev y = some (.int k' q)) (hv : shiftV op k p q = some v) : PureOp P env o v := fun n a ha w => by
  unfold shiftV at hv
  split at hv
  · cases hv
  · rename_i hq
    cases op <;> simp only at hv <;> first
      | (cases hv; done)
      | (cases hv; simp [execOp, ho, ha.ev hx, ha.ev hy, eqGuard, binOp, Op.shift, hq])
theorem pure_nilCheck {P : Program} {env : Nv} {o : Oper} {x : Operand} {ad : Addr} (ho : o.op = .nilCheck x) (hx : env.ev x = some (.pointer (some ad))) : PureOp P env o (.pointer (some ad)) := fun n a ha w => by
  simp [execOp, ho, ha.ev hx]
theorem eqlNil {P : Program} {t te : TypeId} {ad : Addr} (hu : P.underlying t = some (.pointer te)) (w : World) : (Op.equal t (.pointer (some ad)) (.pointer none)).run P w = .ok false w ∧ (Op.equal t (.pointer (some ad)) (.pointer none)).events P w #[] = #[] := by
  have h1 := run_underlying hu w
  have e : Op.maxDepth = 9999 + 1 := rfl
  unfold Op.equal
  rw [e]
  generalize 9999 = D
  constructor
  · simp [Op.equalIn, h1]
  · simp [Op.equalIn, h1, events_underlying]
theorem pure_eqlNil {P : Program} {env : Nv} {o : Oper} {t yt te : TypeId} {x y : Operand} {ad : Addr} (ho : o.op = .binOp .eql t x y yt) (hx : env.ev x = some (.pointer (some ad))) (hy : env.ev y = some (.pointer none)) (hu : P.underlying t = some (.pointer te)) : PureOp P env o (.bool false) := fun n a ha w => by
  obtain ⟨h1, h2⟩ := eqlNil (ad := ad) hu w
  have e : execOp a.eval o = (do eqGuard .eql t x y (.pointer (some ad)) (.pointer none); let r ← binOp .eql t (.pointer (some ad)) (.pointer none); pure (.value r)) := by
    unfold execOp; rw [ho]; simp only [ha.ev hx, ha.ev hy]; rfl
  have e2 : eqGuard .eql t x y (.pointer (some ad)) (.pointer none) = pure () := rfl
  have e3 : binOp .eql t (.pointer (some ad)) (.pointer none) = (do pure (.bool (← Op.equal t (.pointer (some ad)) (.pointer none)))) := rfl
  rw [e, e2, e3]
  constructor
  · simp only [Sem.run_bind, Sem.run_pure, Result.andThen_ok, h1]
  · simp only [Sem.events_bind, Sem.run_bind, Sem.run_pure, Sem.events_pure, Result.andThen_ok, Result.evThen_ok, h1, h2]
theorem sizeOf_run {P : Program} {t : TypeId} {inf : TypeInfo} (h : P.info? t = some inf) (w : World) : (sizeOf t).run P w = .ok (P.cellsOf t) w := by
  simp [sizeOf, typeInfo, Program.cellsOf, h]
theorem pure_field {P : Program} {env : Nv} {o : Oper} {t : TypeId} {x : Operand} {ad : Addr} {j : Nat} {fields : Array Field} {f : Field} (ho : o.op = .fieldAddr t x j) (hx : env.ev x = some (.pointer (some ad))) (hu : P.underlying t = some (.struct fields)) (hf : fields[j]? = some f) (hz : P.cellsOf f.type ≠ 0) :
    PureOp P env o (.pointer (some (ad.add f.offset))) := fun n a ha w => by
  have h1 := run_underlying hu w
  have hi : ∃ i, P.info? f.type = some i := by
    unfold Program.cellsOf at hz
    cases hi : P.info? f.type with
    | none => simp [hi] at hz
    | some i => exact ⟨i, rfl⟩
  obtain ⟨inf, hi⟩ := hi
  simp [execOp, ho, ha.ev hx, Instr.fieldAt, Instr.sureAddr, h1, hf, fieldPlace, sizeOf_run hi w, hz, events_underlying, events_sizeOf]
theorem pure_conv {P : Program} {env : Nv} {o : Oper} {s d : TypeId} {x : Operand} {k k' : IntKind} {p : Int} {sd : TypeDesc} (ho : o.op = .convert s d x) (hx : env.ev x = some (.int k' p)) (hs : P.underlying s = some sd) (hd : P.underlying d = some (.int k)) : PureOp P env o (.int k (k.wrap p)) := fun n a ha w => by
  have h1 := run_underlying hs w
  have h2 := run_underlying hd w
  cases sd <;> simp [execOp, ho, ha.ev hx, convert, h1, h2, events_underlying, Conv.intToInt]
end Go.Co

namespace Go.Co
open Go Go.Conc
open Go.ConcM (OsLater)
open Go.ConcN (sumTo upd sumTo_upd upd_ne upd_same sumTo_congr le_sumTo sumTo_le)
structure Past (Sh : Nat → Prop) (n R B : Nat) (t : Trace) : Prop where
  clean : ∀ said, ¬ Race said t
  seen : ∀ op ∈ t, op.act.low B
  known : ∀ i op a, t[i]? = some op → op.act.touch? = some a → a.loc.isMemory = true → Knows t 0 i ∨ (∃ b, a.loc = .cell b ∧ Sh b.block ∧ a.kind = .atomic)
  over : ∀ i op, t[i]? = some op → op.g ≠ 0 → t.counts i → Knows t 0 i
  norel : ∀ i a, t.act? i = some (.mark (.release a)) → a.block < R
  old : R ≤ B
  deaf : Deaf t 0 = 0
  quiet : ∀ j, n ≤ j → Deaf t j = 0
  shun : ∀ b, Sh b → b < B
  pos : 0 < n
theorem sumTo_zero {n : Nat} {f : Nat → Nat} (h : ∀ i, i < n → f i = 0) : sumTo n f = 0 := by
  induction n with
  | zero => rfl
  | succ n ih => simp only [sumTo]; rw [ih fun i hi => h i (by omega), h n (by omega)]
theorem sumTo_only0 {n : Nat} {f : Nat → Nat} (hn : 0 < n) (h : ∀ i, i ≠ 0 → f i = 0) : sumTo n f = f 0 := by
  induction n with
  | zero => omega
  | succ n ih =>
    simp only [sumTo]
    by_cases e : n = 0
    · subst e; simp [sumTo]
    · rw [ih (by omega), h n e]; rfl
theorem low_touch {op : MemOp} {B : Nat} {a : Touch} (hs : op.act.low B) (hxa : op.act.touch? = some a) : a.loc.low B := by
  obtain ⟨g, fn, pos, act⟩ := op
  cases act with
  | access e => simp only [MemAct.touch?, Option.some.injEq] at hxa; subst hxa; exact hs
  | mark m => cases m <;> simp [MemAct.touch?] at hxa <;> (subst hxa; exact hs)
  | _ => simp [MemAct.touch?] at hxa
def mainLo (own : Nat → Prop) : Lo := { live := true, wk := false, own, deaf := 0, mr := none, old := none, pas := fun _ => false, run := none, ch := .no, rel := none, gr := .joined, job := none, kn := fun _ => none, me := ⟨0, 0, 0, false⟩, sc := false }
def deadLo : Lo := { live := false, wk := false, own := fun _ => False, deaf := 0, mr := none, old := none, pas := fun _ => false, run := none, ch := .no, rel := none, gr := .out, job := none, kn := fun _ => none, me := ⟨0, 0, 0, false⟩, sc := false }
def soloGh (n : Nat) (own : Nat → Prop) : Gh := { n, th := fun i => if i = 0 then mainLo own else deadLo, left := 0, wd := fun _ => ⟨false, false, false, 0⟩, sm := fun _ => 0, dn := fun _ => false, app := fun _ => none, wn := 0, ww := 0, ws := 0, pend := 0, cl := false, pos := 0, cv := fun _ => 0, tk := fun _ => none }
def solo (P : Program) (Sh : Nat → Prop) (n : Nat) (w : World) (fin : Lo → Goroutine → World → Prop) (finJ : ∀ l g w, fin l g w → l.gr = .joined) : Geo where
  P := P
  K := 0
  sc := fun _ => ⟨w.heap.size, 0, none⟩
  c := 0
  hasC := false
  n0 := n
  shun := Sh
  nj := 0
  jv := fun _ => undef
  rs := fun _ => none
  w0 := w
  ini := fun _ => none
  App := fun _ _ _ => True
  fin := fin
  finJ := finJ
theorem notok {x : SC} : ¬ x.ok 0 := by cases x <;> simp [SC.ok]
theorem solo_GI {P : Program} {Sh : Nat → Prop} {n : Nat} {w : World} {t : Trace} {fin : Lo → Goroutine → World → Prop} {finJ : ∀ l g w, fin l g w → l.gr = .joined} {own : Nat → Prop} {R : Nat} (h : Past Sh n R w.heap.size t) (ho : ∀ b, own b → b < w.heap.size ∧ ¬ Sh b) :
    GI (solo P Sh n w fin finJ) (soloGh n own) w t := by
  have hl : ∀ i, ((soloGh n own).th i).live = true → i = 0 := fun i hi => by
    by_cases e : i = 0
    · exact e
    · simp [soloGh, e, deadLo] at hi
  have h0 : (soloGh n own).th 0 = mainLo own := rfl
  have hd : ∀ i, i ≠ 0 → (soloGh n own).th i = deadLo := fun i e => if_neg e
  have hno : ∀ g, ¬ (solo P Sh n w fin finJ).ours (soloGh n own) g := fun g ⟨a, b⟩ => Nat.lt_irrefl g (Nat.lt_of_lt_of_le b a)
  have hs : ∀ (f : Lo → Nat), f deadLo = 0 → f (mainLo own) = 0 → sumTo (soloGh n own).n (fun i => f ((soloGh n own).th i)) = 0 := fun f f1 f2 => sumTo_zero fun i _ => by
    by_cases e : i = 0
    · subst e; exact f2
    · rw [hd i e]; exact f1
  refine ⟨⟨⟨h.pos, Nat.le_refl _⟩, rfl, fun i hi => ⟨by rw [hl i hi]; exact h.pos, .inl (hl i hi)⟩, ?_, ?_⟩, ⟨fun i j b hi hj hij => absurd ((hl i hi).trans (hl j hj).symm) hij, fun i b hi hb => ?_, fun i b hi hb => ?_, h.shun, Nat.le_refl _, fun a v e => (by cases e)⟩,
    ⟨fun x hx => absurd hx notok, fun a v d e => (by cases e), fun x y hx => absurd hx notok, fun e => (by cases e), rfl, rfl, OsLater.refl _⟩, ?_, ?_, ?_, trivial, ?_⟩
  · show sumTo n _ + 0 ≤ 48
    rw [sumTo_only0 h.pos fun i e => by rw [hd i e]; rfl]
    rw [h0]; exact Nat.le_of_ble_eq_true rfl
  · exact fun _ => ⟨rfl, rfl⟩
  · rw [hl i hi] at hb; exact (ho b hb).1
  · rw [hl i hi] at hb
    exact ⟨fun x hx => absurd hx notok, fun a v e => (by cases e), fun e => (by cases e), (ho b hb).2⟩
  · refine ⟨fun k hk => absurd hk (Nat.not_lt_zero _), fun i k r hi e => ?_, fun i k hi e => ?_, fun i k hi e => ?_, fun a v k e => (by cases e), fun a v k e => (by cases e), fun i a v hi e => ?_⟩ <;>
      (rw [hl i hi] at e; cases e)
  · refine ⟨?_, ?_, ?_, fun e => ?_, fun e => ?_, fun e => (by cases e), fun _ => ⟨rfl, rfl, rfl⟩, Nat.zero_le _, fun i hi => ⟨fun e => ?_, fun e => absurd (hl i hi) e⟩, fun e => ?_⟩
    · rw [hs Lo.busy rfl rfl]; rfl
    · rw [hs Lo.lastsS rfl rfl]; rfl
    · rw [hs Lo.lasts rfl rfl]; exact Nat.le_refl _
    · rfl
    · rfl
    · subst e; exact ⟨rfl, .inr (.inr (.inr (.inr rfl)))⟩
    · rcases e with ⟨m, e⟩ | e <;> cases e
  · refine ⟨fun _ i hi => by rw [hl i hi]; rfl, fun i v hi e => ?_, fun i hi e => ?_, fun e => (by cases e), Nat.le_refl _, fun r => ?_, fun i j hi e => ?_, ⟨fun _ _ => rfl, fun j i e => (by cases e)⟩, fun e => (by cases e), fun e => (by cases e), fun e => (by cases e), fun i hi e => ?_, rfl, fun i hi e => ?_⟩
    · rw [hl i hi] at e; cases e
    · rw [hl i hi] at e; cases e
    · rw [hs (Lo.holds (solo P Sh n w fin finJ).rs r) rfl rfl]; rfl
    · rw [hl i hi] at e; cases e
    · rw [hl i hi] at e; exact absurd rfl e
    · rw [hl i hi] at e; cases e
  · refine ⟨⟨h.clean, fun g l i a hw ha hal => ?_, fun g l i a hw => ?_, fun g l i a hw => ?_, fun g l i a hw => ?_, h.seen⟩, fun i hi => by rw [hl i hi]; exact h.deaf, fun j hj => h.quiet j hj, ⟨fun i op a h1 h2 h3 => .inr (h.known i op a h1 h2 h3), fun i op h1 h2 h3 => .inr (h.over i op h1 h2 h3), fun i a e => ?_, fun g hg => absurd hg (hno g), fun k hk => absurd hk (Nat.not_lt_zero _), fun _ g r hg => absurd hg (hno g)⟩⟩
    · obtain ⟨hlv, hw⟩ := hw
      have := hl g hlv
      subst this
      obtain ⟨op, h1, h2⟩ := touch_of ha
      have hm : a.loc.isMemory = true ∧ (∀ b, a.loc = .cell b → own b.block) := by
        rw [hal]
        cases l with
        | cell b =>
          refine ⟨rfl, fun b' e => ?_⟩
          cases e
          rcases hw with hw | ⟨v, k, e, _⟩ | ⟨v, k, e, _⟩
          · exact hw
          · cases e
          · cases e
        | obj r => exact ⟨rfl, fun b' e => by cases e⟩
        | _ => exact hw.elim
      rcases h.known i op a h1 h2 hm.1 with k | ⟨b, k1, k2, _⟩
      · exact k
      · exact absurd k2 (ho _ (hm.2 b k1)).2
    · obtain ⟨_, hw⟩ := hw
      cases l with
      | cell b => obtain ⟨v, e | ⟨k, e, _⟩⟩ := hw <;> cases e
      | _ => exact hw.elim
    · obtain ⟨_, hw⟩ := hw
      cases l with
      | cell b =>
        rcases hw with ⟨x, hx, _⟩ | ⟨v, k, e, _⟩
        · exact absurd hx notok
        · cases e
      | obj r => obtain ⟨e, _⟩ := hw; cases e
      | _ => exact hw.elim
    · obtain ⟨e0, hw⟩ := hw
      intro ha hal _
      exfalso
      obtain ⟨op, h1, h2⟩ := touch_of ha
      have hlow := low_touch (h.seen op (Array.mem_of_getElem? h1)) h2
      rw [hal] at hlow
      cases l with
      | cell b =>
        have hw : b = ⟨w.heap.size, 0, none⟩ := hw
        subst hw
        exact Nat.lt_irrefl _ hlow
      | _ => exact hw.elim
    · have := Nat.lt_of_lt_of_le (h.norel i a e) h.old
      exact ⟨this, fun e => by rw [e] at this; exact Nat.lt_irrefl _ this⟩
end Go.Co

namespace Go.Co
open Go Go.Conc
open Go.ConcM (OsLater)
open Go.ConcN (sumTo upd sumTo_upd upd_ne upd_same sumTo_congr le_sumTo sumTo_le)
variable {E : Geo} {G : Gh} {w : World} {t : Trace}
theorem GI.mates (h : GI E G w t) (hj : (G.th 0).gr = .joined) (h0 : ∀ i, (G.th i).live = true → i = 0) {i : Nat} {op : MemOp} {a : Touch} (hi : t[i]? = some op) (ha : op.act.touch? = some a) (ho : E.ours G op.g) :
    Knows t 0 i ∨ (a.kind = .atomic ∧ (a.loc = .cell (E.sc .wst) ∨ a.loc = .cell (E.sc .wsm)) ∧ ¬ t.heard i) := by
  rcases h.t.tell.rel op.g ho with ⟨_, hl, _⟩ | ⟨r, h1, h2, h3, h4, h5⟩
  · have := h0 _ hl
    have h6 := h.a.pos0.1
    have h7 := ho.1
    omega
  · have hk := h.t.tell.join hj op.g r ho h1
    by_cases hir : r < i
    · exact .inr (h5 i op a hir hi rfl ha)
    · left
      by_cases e : i = r
      · subst e; exact hk
      · unfold Trace.g? at h3
        obtain ⟨y, hy, hyg⟩ := Option.map_eq_some_iff.1 h3
        exact Knows.of_before (.inr (hb_po (by omega) hi hy hyg.symm)) hk
theorem GI.past (h : GI E G w t) (hK : 0 < E.K) (hj : (G.th 0).gr = .joined) (hd : (G.th 0).deaf = 0) (h0 : ∀ i, (G.th i).live = true → i = 0) (hb : (E.sc .wsm).block = (E.sc .wst).block) :
    Past (fun b => E.shun b ∨ b = (E.sc .wst).block) G.n E.w0.heap.size w.heap.size t := by
  refine ⟨h.t.ti.clean, h.t.ti.seen, fun i op a h1 h2 h3 => ?_, fun i op h1 h2 h3 => ?_, fun i a e => (h.t.tell.norel i a e).1, h.s.size, by rw [h.t.deaf 0 h.a.live0]; exact hd, h.t.quiet, fun b hb => ?_, by have := h.a.pos0; omega⟩
  · rcases h.t.tell.known i op a h1 h2 h3 with k | k | ⟨b, k1, k2, k3⟩
    · rcases h.mates hj h0 h1 h2 k with m | ⟨m1, m2 | m2, _⟩
      · exact .inl m
      · exact .inr ⟨_, m2, .inr rfl, m1⟩
      · exact .inr ⟨_, m2, .inr hb, m1⟩
    · exact .inl k
    · exact .inr ⟨b, k1, .inl k2, k3⟩
  · rcases h.t.tell.over i op h1 h2 h3 with k | k
    · obtain ⟨x, hx, _, hx2⟩ := h3
      obtain ⟨op', e1, e2⟩ := touch_of hx
      rw [h1] at e1; cases e1
      rcases h.mates hj h0 h1 e2 k with m | ⟨m1, _, m3⟩
      · exact m
      · rcases hx2 with y | y
        · exact absurd m1 y
        · exact absurd y m3
    · exact k
  · rcases hb with hb | hb
    · exact Nat.lt_of_lt_of_le (h.s.shun b hb) h.s.size
    · rw [hb]; exact cell_block (h.m.sync .wst hK).1
theorem solo_past {P : Program} {Sh : Nat → Prop} {n : Nat} {w0 : World} {fin : Lo → Goroutine → World → Prop} {finJ : ∀ l g w, fin l g w → l.gr = .joined} (h : GI (solo P Sh n w0 fin finJ) G w t) (hd : (G.th 0).deaf = 0) : Past Sh G.n w0.heap.size w.heap.size t := by
  have hno : ∀ g, ¬ (solo P Sh n w0 fin finJ).ours G g := fun g ⟨a, b⟩ => by
    have := (h.a.alone rfl).2
    omega
  refine ⟨h.t.ti.clean, h.t.ti.seen, fun i op a h1 h2 h3 => (h.t.tell.known i op a h1 h2 h3).resolve_left (hno _), fun i op h1 h2 h3 => (h.t.tell.over i op h1 h2 h3).resolve_left (hno _), fun i a e => (h.t.tell.norel i a e).1, h.s.size, by rw [h.t.deaf 0 h.a.live0]; exact hd, h.t.quiet, fun b hb => Nat.lt_of_lt_of_le (h.s.shun b hb) h.s.size, by have := h.a.pos0; omega⟩
structure Rest (P : Program) (gs : Array Goroutine) (t : Trace) : Prop where
  quit : ∀ i y, 0 < i → gs[i]? = some y → ∃ q, QuitsD P q (Deaf t i) y
theorem phase {gs : Array Goroutine} {sl : Option (Nat × Nat)} (h : GI E G w t) (hn : G.n = gs.size) (h0 : ∀ i, (G.th i).live = true → i = 0) (R : Rest E.P gs t) {x g : Goroutine} (hx : gs[0]? = some x) (hx1 : x.status = .running) (hx2 : x.frame = g.frame) (hx3 : x.callers = g.callers) (hx4 : x.dying = g.dying)
    (hT : ∀ N, Tr E N 0 (G.th 0) g w) : Arrives E.pro gs w sl t := by
  obtain ⟨q, hq⟩ : ∃ q : Nat → Nat, ∀ i y, 0 < i → gs[i]? = some y → QuitsD E.P (q i) (Deaf t i) y := by
    refine (Classical.skolem (p := fun i k => ∀ y, 0 < i → gs[i]? = some y → QuitsD E.P k (Deaf t i) y)).1 fun i => ?_
    cases e : gs[i]? with
    | none => exact ⟨0, fun y _ hy => by cases hy⟩
    | some z =>
      rcases Nat.eq_zero_or_pos i with e0 | e0
      · exact ⟨0, fun y hi _ => by omega⟩
      · obtain ⟨k, hk⟩ := R.quit i z e0 e
        exact ⟨k, fun y _ hy => by cases hy; exact hk⟩
  have hlt : 0 < gs.size := (Array.getElem?_eq_some_iff.1 hx).1
  refine company E.laws (G.Φ E.K E.nj) (fun i => i = 0) 1 (fun _ => (G.th 0, g, w)) (fun i e => by subst e; exact hT _) _ G w t gs sl q ⟨h, hn, h.a.live0, fun i hi => ?_, fun i y hi hy => ?_, fun j hj => h.t.quiet j (by rw [hn]; exact hj), fun k x0 xk hk hk0 => absurd (h0 k hk) hk0, fun k xk hk hk0 => absurd (h0 k hk) hk0⟩ (Nat.le_refl _) (fun i hi => by have := h0 i hi; subst this; exact ⟨rfl, by decide⟩) (Nat.le_refl _)
  · have := h0 i hi
    subst this
    exact ⟨rfl, View.refl _ _, x, hx, hx2, hx3, hx4, .inl hx1⟩
  · refine hq i y ?_ hy
    rcases Nat.eq_zero_or_pos i with e | e
    · subst e; exact absurd h.a.live0 hi
    · exact e
end Go.Co

namespace Go.Co
open Go Go.Conc
open Go.ConcM (OsLater)
open Go.ConcN (sumTo upd sumTo_upd upd_ne upd_same sumTo_congr le_sumTo sumTo_le)
variable {E : Geo} {G G' : Gh} {w w' : World} {t t' u : Trace} {B B' : Nat}
theorem Wd.enc_inj {x y : Wd} (h : x.enc = y.enc) : x = y := by
  obtain ⟨l, w, s, q⟩ := x
  obtain ⟨l', w', s', q'⟩ := y
  unfold Wd.enc at h
  simp only at h
  cases l <;> cases w <;> cases s <;> cases l' <;> cases w' <;> cases s' <;> simp at h <;> first
    | omega
    | (have : q = q' := by omega
       rw [this])
theorem Gh.cnt_le4 (_h : GIa E G) (k : Nat) : G.cnt k .queued + G.cnt k .tok + G.cnt k (.hand true) + G.cnt k (.hand false) ≤ sumTo G.n fun i => (G.th i).lives := by
  have key : ∀ n, (sumTo n fun i => (G.th i).at k .queued) + (sumTo n fun i => (G.th i).at k .tok) + (sumTo n fun i => (G.th i).at k (.hand true)) + (sumTo n fun i => (G.th i).at k (.hand false)) ≤ sumTo n fun i => (G.th i).lives := by
    intro n
    induction n with
    | zero => simp [sumTo]
    | succ n ih =>
      simp only [sumTo]
      have : (G.th n).at k .queued + (G.th n).at k .tok + (G.th n).at k (.hand true) + (G.th n).at k (.hand false) ≤ (G.th n).lives := by
        unfold Lo.at Lo.lives
        cases hl : (G.th n).live with
        | false => simp
        | true =>
          cases hm : (G.th n).mr with
          | none => simp
          | some p =>
            obtain ⟨k', r⟩ := p
            by_cases e : k' = k
            · subst e; cases r <;> simp
              rename_i b; cases b <;> simp
            · simp [e]
      omega
  exact key G.n
theorem GI.word (h : GI E G w t) {k : Nat} (hk : k < E.K) : w.cell? (E.sc (.word k)) = some (.int .i32 (G.wd k).enc) ∧ w.frozen? (E.sc (.word k)) = false ∧ (G.wd k).q ≤ 48 := by
  refine ⟨(h.m.sync (.word k) hk).1, (h.m.sync (.word k) hk).2, ?_⟩
  have hm := h.k.mu k hk
  have hf := h.a.few
  have h4 := Gh.cnt_le4 h.a k
  cases hs : (G.wd k).s with
  | true => have := hm.starv hs; omega
  | false => have := hm.norm hs; omega
theorem GI.sema (h : GI E G w t) {k : Nat} (hk : k < E.K) : w.cell? (E.sc (.sema k)) = some (.int .u32 (G.sm k : Int)) ∧ w.frozen? (E.sc (.sema k)) = false ∧ G.sm k ≤ 48 := by
  refine ⟨(h.m.sync (.sema k) hk).1, (h.m.sync (.sema k) hk).2, ?_⟩
  have hm := h.k.mu k hk
  have hf := h.a.few
  have h4 := Gh.cnt_le4 h.a k
  cases hs : (G.wd k).s with
  | true => have := hm.starv hs; omega
  | false => have := hm.norm hs; omega
def Lo.mu (l : Lo) (k : Nat) (b : Option Ro) (o : Option Wd) : Lo := { l with mr := b.map (k, ·), old := o }
theorem GI.mu (h : GI E G w t) {i k : Nat} {a b : Option Ro} {x' : Wd} {s' : Nat} {o' : Option Wd} {es : Array Event} (fn : FuncId) (pos : String) (hi : (G.th i).live = true) (hi0 : i ≠ 0) (hk : k < E.K) (hmr : (G.th i).mr = a.map (k, ·))
    (hmu : ∀ c', Mv (G.cnt k) c' a b → MuI x' s' c') (hch : (G.th i).ch = .no) (hgr : (G.th i).gr = .out) (hrun : (G.th i).run = none ∨ b = some .held)
    (hw : (w' = w ∧ x' = G.wd k ∧ s' = G.sm k) ∨ (w' = w.setCell (E.sc (.word k)) (.int .i32 x'.enc) ∧ s' = G.sm k) ∨ (w' = w.setCell (E.sc (.sema k)) (.int .u32 s') ∧ x' = G.wd k))
    (he : ∀ e ∈ es, SEv E e) (hd : deafBehind (G.th i).deaf es = (G.th i).deaf) (hrel : (G.th i).rel = none) (hnp : a ≠ some .queued ∨ 0 < G.sm k)
    (hφ : 64 * ((G.th i).mu k b o').wt k + 320 * s' + 64 ≤ 64 * (G.th i).wt k + 320 * G.sm k ∨ (64 * ((G.th i).mu k b o').wt k + 320 * s' = 64 * (G.th i).wt k + 320 * G.sm k ∧ x' = G.wd k ∧ ((G.th i).mu k b o').stale k (G.wd k) ≤ (G.th i).stale k (G.wd k))) :
    ∃ G', Did E i G G' w w' (t ++ MemOp.ofEvents i fn pos es) ((G.th i).mu k b o') ∧ G'.cl = G.cl ∧ (s' ≤ G.sm k → Calm E G G') ∧ (((G.th i).mu k b o').wt k + 5 * s' < (G.th i).wt k + 5 * G.sm k ∨ ((G.th i).mu k b o').stale k (G.wd k) < (G.th i).stale k (G.wd k) → G'.Φ E.K E.nj < G.Φ E.K E.nj) := by
  obtain ⟨G', e, hgi, hv, hp, hst⟩ := h.mutex (o' := o') fn pos hi hi0 hk hmr hmu hch hgr hrun hw he hrel
  have el : ({ G.th i with mr := b.map (k, ·), old := o', deaf := deafBehind (G.th i).deaf es } : Lo) = (G.th i).mu k b o' := by rw [hd]; rfl
  rw [el] at e
  have hth : G'.th i = (G.th i).mu k b o' := by subst e; exact upd_same _ _ _
  have hin := (h.a.liveW i hi).1
  rw [hth] at hp
  have hSt : x' = G.wd k → G'.St k + (G.th i).stale k (G.wd k) = G.St k + ((G.th i).mu k b o').stale k (G.wd k) := fun ex => by
    subst e
    unfold Gh.St
    show (sumTo G.n fun j => (upd G.th i ((G.th i).mu k b o') j).stale k (upd G.wd k x' k)) + _ = _
    rw [upd_same, ex]
    exact sum_upd hin G.th _ (fun l => l.stale k (G.wd k))
  refine ⟨G', ⟨hgi, hth, fun j hj => by subst e; exact upd_ne _ _ hj, by subst e; rfl, fun j hj _ => hv j hj, ?_⟩, by subst e; rfl, fun hs => ⟨fun j hj => ?_, by subst e; rfl⟩, fun hlt => ?_⟩
  · rcases hφ with x | ⟨x1, x2, x3⟩
    · omega
    · have := hSt x2; omega
  · subst e
    rcases hj with ⟨k', h1, h2⟩ | ⟨e0, h1, h2⟩
    · by_cases ej : j = i
      · subst ej
        exfalso
        rw [hmr] at h1
        cases a with
        | none => cases h1
        | some r =>
          simp at h1
          obtain ⟨rfl, rfl⟩ := h1
          rcases hnp with x | x
          · exact x rfl
          · omega
      · refine .inl ⟨k', ?_, ?_⟩
        · show (upd G.th i _ j).mr = _
          rw [upd_ne _ _ ej]; exact h1
        · show upd G.sm k s' k' = 0
          by_cases ek : k' = k
          · subst ek; rw [upd_same]; omega
          · rw [upd_ne _ _ ek]; exact h2
    · refine .inr ⟨e0, ?_, h2⟩
      show (upd G.th i _ 0).gr = _
      rw [upd0_ne hi0]; exact h1
  · rcases hφ with x | ⟨x1, x2, x3⟩
    · omega
    · have := hSt x2; omega
structure AtMu (E : Geo) (G : Gh) (i k : Nat) (r : Option Ro) : Prop where
  live : (G.th i).live = true
  i0 : i ≠ 0
  kK : k < E.K
  mr : (G.th i).mr = r.map (k, ·)
  ch : (G.th i).ch = .no
  gr : (G.th i).gr = .out
  rel : (G.th i).rel = none
  pas : (G.th i).pas k = false ∨ (∃ r', r = some r')
theorem mu_wt_some (l : Lo) (k : Nat) (r : Ro) (o : Option Wd) : (l.mu k (some r) o).wt k = wtr r := by unfold Lo.wt Lo.mu; simp
theorem wt_some {l : Lo} {k : Nat} {r : Ro} (h : l.mr = some (k, r)) : l.wt k = wtr r := by unfold Lo.wt; rw [h]; simp
theorem wt_none {l : Lo} {k : Nat} (h : l.mr = none) (hw : l.wk = true) (hp : l.pas k = false) : l.wt k = 15 := by unfold Lo.wt; rw [h]; simp [hw, hp]
theorem mu_wt_none {l : Lo} {k : Nat} {o : Option Wd} (hp : l.pas k = true) : (l.mu k none o).wt k = 0 := by unfold Lo.wt Lo.mu; simp [hp]
def MuTo (E : Geo) (i : Nat) (G : Gh) (w w' : World) (t' : Trace) (l' : Lo) (G' : Gh) : Prop := Did E i G G' w w' t' l' ∧ Calm E G G'
theorem GI.fast (h : GI E G w t) {i k : Nat} (A : AtMu E G i k none) (hrun : (G.th i).run = none) (hp : (G.th i).pas k = false) (hz : (G.wd k).enc = 0) (fn : FuncId) (pos : String) :
    ∃ G', MuTo E i G w (w.setCell (E.sc (.word k)) (.int .i32 1)) (t ++ MemOp.ofEvents i fn pos (rw2 (E.sc (.word k)))) ((G.th i).mu k (some .held) none) G' := by
  have hx := Wd.enc_zero hz
  obtain ⟨G', d, c, f, _⟩ := h.mu (a := none) (b := some .held) (x' := { G.wd k with l := true }) (s' := G.sm k) (o' := none) (w' := w.setCell (E.sc (.word k)) (.int .i32 1)) (es := rw2 (E.sc (.word k))) fn pos A.live A.i0 A.kK A.mr
    (fun c' hm => (h.k.mu k A.kK).fast hm (by rw [hx]) (by rw [hx])) A.ch A.gr (.inl hrun) (.inr (.inl ⟨by rw [hx]; rfl, rfl⟩)) (mem_rw2 (x := .word k) A.kK fun k e => by cases e) rfl A.rel (.inl (by simp))
    (.inl (by rw [mu_wt_some, wt_none A.mr (h.worker A.live A.i0).1 hp]; simp only [wtr]; omega))
  exact ⟨G', d, f (Nat.le_refl _)⟩
theorem GI.slow (h : GI E G w t) {i k : Nat} (A : AtMu E G i k none) (hrun : (G.th i).run = none) (hp : (G.th i).pas k = false) :
    ∃ G', MuTo E i G w w t ((G.th i).mu k (some .fresh) (some (G.wd k))) G' := by
  obtain ⟨G', d, c, f, _⟩ := h.mu (a := none) (b := some .fresh) (x' := G.wd k) (s' := G.sm k) (o' := some (G.wd k)) (w' := w) (es := #[]) 0 "" A.live A.i0 A.kK A.mr
    (fun c' hm => (h.k.mu k A.kK).enter hm) A.ch A.gr (.inl hrun) (.inl ⟨rfl, rfl, rfl⟩) (by simp) rfl A.rel (.inl (by simp))
    (.inl (by rw [mu_wt_some, wt_none A.mr (h.worker A.live A.i0).1 hp]; simp only [wtr]; omega))
  exact ⟨G', by simpa [MemOp.ofEvents] using d, f (Nat.le_refl _)⟩
theorem GI.reload (h : GI E G w t) {i k : Nat} {r : Ro} (A : AtMu E G i k (some r)) (hrun : (G.th i).run = none) (hnp : r ≠ .queued) :
    ∃ G', MuTo E i G w w t ((G.th i).mu k (some r) (some (G.wd k))) G' ∧ (∀ o, (G.th i).old = some o → o ≠ G.wd k → G'.Φ E.K E.nj < G.Φ E.K E.nj) := by
  have hwt : ((G.th i).mu k (some r) (some (G.wd k))).wt k = (G.th i).wt k := by rw [mu_wt_some, wt_some (r := r) A.mr]
  have hs0 : ((G.th i).mu k (some r) (some (G.wd k))).stale k (G.wd k) = 0 := by unfold Lo.stale Lo.mu; simp
  obtain ⟨G', d, c, f, q⟩ := h.mu (a := some r) (b := some r) (x' := G.wd k) (s' := G.sm k) (o' := some (G.wd k)) (w' := w) (es := #[]) 0 "" A.live A.i0 A.kK A.mr
    (fun c' hm => by
      have : c' = G.cnt k := by funext r'; have := hm r'; omega
      rw [this]; exact h.k.mu k A.kK) A.ch A.gr (.inl hrun) (.inl ⟨rfl, rfl, rfl⟩) (by simp) rfl A.rel (.inl (by simpa using hnp))
    (.inr ⟨by rw [hwt], rfl, by rw [hs0]; exact Nat.zero_le _⟩)
  refine ⟨G', ⟨by simpa [MemOp.ofEvents] using d, f (Nat.le_refl _)⟩, fun o ho hne => q (.inr ?_)⟩
  rw [hs0]
  unfold Lo.stale
  have hmr : (G.th i).mr = some (k, r) := A.mr
  simp [hmr, ho, A.live, hne]
theorem GI.miss (h : GI E G w t) {i : Nat} {x : SC} (hx : x.ok E.K) (fn : FuncId) (pos : String) (hi : (G.th i).live = true) (hrel : (G.th i).rel = none) :
    ∃ G', MuTo E i G w w (t ++ MemOp.ofEvents i fn pos #[⟨.cell (E.sc x), false, true⟩]) (G.th i) G' := by
  obtain ⟨G', a, b⟩ := h.says fn pos hi (mem_ld hx) rfl rfl rfl (OsLater.refl _) (.inl hrel)
  exact ⟨G', a, b⟩
theorem GI.hit (h : GI E G w t) {i k : Nat} {r : Ro} {b : Ro} {x' : Wd} (A : AtMu E G i k (some r)) (hrun : (G.th i).run = none) (hnp : r ≠ .queued) (hwt : wtr b < wtr r) (fn : FuncId) (pos : String)
    (hmu : ∀ c', Mv (G.cnt k) c' (some r) (some b) → MuI x' (G.sm k) c') (o' : Option Wd) :
    ∃ G', MuTo E i G w (w.setCell (E.sc (.word k)) (.int .i32 x'.enc)) (t ++ MemOp.ofEvents i fn pos (rw2 (E.sc (.word k)))) ((G.th i).mu k (some b) o') G' := by
  obtain ⟨G', d, c, f, q⟩ := h.mu (a := some r) (b := some b) (x' := x') (s' := G.sm k) (o' := o') (w' := w.setCell (E.sc (.word k)) (.int .i32 x'.enc)) (es := rw2 (E.sc (.word k))) fn pos A.live A.i0 A.kK A.mr
    hmu A.ch A.gr (.inl hrun) (.inr (.inl ⟨rfl, rfl⟩)) (mem_rw2 (x := .word k) A.kK fun k e => by cases e) rfl A.rel (.inl (by simpa using hnp))
    (.inl (by rw [mu_wt_some, wt_some (r := r) A.mr]; omega))
  exact ⟨G', d, f (Nat.le_refl _)⟩
theorem GI.one_cnt (h : GI E G w t) {i k : Nat} {r : Ro} (A : AtMu E G i k (some r)) : 0 < G.cnt k r := by
  have hin := (h.a.liveW i A.live).1
  have : (G.th i).at k r = 1 := by unfold Lo.at; rw [if_pos ⟨A.live, A.mr⟩]
  have := one_le_sum (f := fun j => (G.th j).at k r) hin (by simp only [this]; exact Nat.le_refl _)
  exact this
theorem GI.take (h : GI E G w t) {i k : Nat} (A : AtMu E G i k (some .queued)) (hrun : (G.th i).run = none) (fn : FuncId) (pos : String) :
    (G.sm k = 0 → G.PK E i) ∧ (G.sm k ≠ 0 → ∃ G', MuTo E i G w (w.setCell (E.sc (.sema k)) (.int .u32 (G.sm k - 1 : Int))) (t ++ MemOp.ofEvents i fn pos (semEvents (E.sc (.sema k)))) ((G.th i).mu k (some .tok) none) G') := by
  refine ⟨fun e => .inl ⟨k, A.mr, e⟩, fun hne => ?_⟩
  obtain ⟨G', d, c, f, q⟩ := h.mu (a := some .queued) (b := some .tok) (x' := G.wd k) (s' := G.sm k - 1) (o' := none) (w' := w.setCell (E.sc (.sema k)) (.int .u32 (G.sm k - 1 : Int))) (es := semEvents (E.sc (.sema k))) fn pos A.live A.i0 A.kK A.mr
    (fun c' hm => MuI.take (by rw [show G.sm k - 1 + 1 = G.sm k by omega]; exact h.k.mu k A.kK) hm) A.ch A.gr (.inl hrun)
    (.inr (.inr ⟨by rw [show ((G.sm k - 1 : Nat) : Int) = (G.sm k : Int) - 1 by omega], rfl⟩)) (mem_sem (x := .sema k) A.kK fun k e => by cases e) (sem_deaf _ _) A.rel (.inr (by omega))
    (.inl (by rw [mu_wt_some, wt_some (r := .queued) A.mr]; simp only [wtr]; omega))
  exact ⟨G', d, f (by omega)⟩
theorem GI.awake (h : GI E G w t) {i k : Nat} (A : AtMu E G i k (some .tok)) (hrun : (G.th i).run = none) (b : Ro)
    (hb : (b = .wok ∧ (G.wd k).s = false) ∨ ∃ c, b = .hand c ∧ (G.wd k).s = true ∧ (c = false → 2 ≤ (G.wd k).q)) :
    ∃ G', MuTo E i G w w t ((G.th i).mu k (some b) (some (G.wd k))) G' := by
  obtain ⟨G', d, c, f, q⟩ := h.mu (a := some .tok) (b := some b) (x' := G.wd k) (s' := G.sm k) (o' := some (G.wd k)) (w' := w) (es := #[]) 0 "" A.live A.i0 A.kK A.mr
    (fun c' hm => by
      rcases hb with ⟨rfl, hs⟩ | ⟨c, rfl, hs, hq⟩
      · exact (h.k.mu k A.kK).wake hm hs
      · exact (h.k.mu k A.kK).handed c hm hs hq) A.ch A.gr (.inl hrun) (.inl ⟨rfl, rfl, rfl⟩) (by simp) rfl A.rel (.inl (by simp))
    (.inl (by
      rw [mu_wt_some, wt_some (r := .tok) A.mr]
      rcases hb with ⟨rfl, _⟩ | ⟨c, rfl, _⟩ <;> simp [wtr] <;> omega))
  exact ⟨G', by simpa [MemOp.ofEvents] using d, f (Nat.le_refl _)⟩
theorem GI.handOver (h : GI E G w t) {i k : Nat} {c : Bool} (A : AtMu E G i k (some (.hand c))) (hrun : (G.th i).run = none) (fn : FuncId) (pos : String) :
    ((G.wd k).l = false ∧ (G.wd k).w = false ∧ (G.wd k).s = true ∧ 1 ≤ (G.wd k).q) ∧
    ∃ G', MuTo E i G w (w.setCell (E.sc (.word k)) (.int .i32 (Wd.enc ⟨true, false, !c, (G.wd k).q - 1⟩))) (t ++ MemOp.ofEvents i fn pos (rw2 (E.sc (.word k)))) ((G.th i).mu k (some .held) none) G' := by
  have hcnt : ∃ c', Mv (G.cnt k) c' (some (.hand c)) (some .held) := by
    have h1 := h.one_cnt A
    refine ⟨fun r => G.cnt k r + is1 (some .held) r - is1 (some (.hand c)) r, fun r => ?_⟩
    have : is1 (some (.hand c)) r ≤ G.cnt k r := by
      unfold is1; split
      · rename_i e; cases e; exact h1
      · exact Nat.zero_le _
    show G.cnt k r + _ - _ + _ = _
    omega
  obtain ⟨c0, hc0⟩ := hcnt
  obtain ⟨f1, f2, f3, f4, _⟩ := (h.k.mu k A.kK).handAdd c hc0
  exact ⟨⟨f1, f2, f3, f4⟩, h.hit A hrun (by simp) (by cases c <;> decide) fn pos (fun c' hm => ((h.k.mu k A.kK).handAdd c hm).2.2.2.2) none⟩
theorem GI.unlock (h : GI E G w t) {i k : Nat} (A : AtMu E G i k (some .held)) (hrun : (G.th i).run = none) (hp : (G.th i).pas k = true) (fn : FuncId) (pos : String) :
    (G.wd k).l = true ∧ ∃ G', MuTo E i G w (w.setCell (E.sc (.word k)) (.int .i32 (Wd.enc { G.wd k with l := false }))) (t ++ MemOp.ofEvents i fn pos (rw2 (E.sc (.word k)))) ((G.th i).mu k (G.wd k).next (some { G.wd k with l := false })) G' := by
  have h1 := h.one_cnt A
  have hcnt : ∃ c', Mv (G.cnt k) c' (some .held) (G.wd k).next := by
    refine ⟨fun r => G.cnt k r + is1 (G.wd k).next r - is1 (some .held) r, fun r => ?_⟩
    have : is1 (some .held) r ≤ G.cnt k r := by
      unfold is1; split
      · rename_i e; cases e; exact h1
      · exact Nat.zero_le _
    show G.cnt k r + _ - _ + _ = _
    omega
  obtain ⟨c0, hc0⟩ := hcnt
  refine ⟨((h.k.mu k A.kK).unlock hc0).1, ?_⟩
  obtain ⟨G', d, c, f, q⟩ := h.mu (a := some .held) (b := (G.wd k).next) (x' := { G.wd k with l := false }) (s' := G.sm k) (o' := some { G.wd k with l := false }) (w' := w.setCell (E.sc (.word k)) (.int .i32 (Wd.enc { G.wd k with l := false }))) (es := rw2 (E.sc (.word k))) fn pos A.live A.i0 A.kK A.mr
    (fun c' hm => ((h.k.mu k A.kK).unlock hm).2) A.ch A.gr (.inl hrun) (.inr (.inl ⟨rfl, rfl⟩)) (mem_rw2 (x := .word k) A.kK fun k e => by cases e) rfl A.rel (.inl (by simp))
    (.inl (by
      rw [wt_some (r := .held) A.mr]
      have : ∀ o, ((G.th i).mu k (G.wd k).next o).wt k ≤ 7 := fun o => by
        unfold Wd.next
        split
        · rw [mu_wt_some]; decide
        · split
          · rw [mu_wt_none hp]; omega
          · rw [mu_wt_some]; decide
      have h7 := this (some { G.wd k with l := false })
      show 64 * _ + 320 * G.sm k + 64 ≤ 64 * 9 + 320 * G.sm k
      exact Nat.le_trans (Nat.add_le_add_right (Nat.add_le_add_right (Nat.mul_le_mul_left 64 h7) _) _) (by omega)))
  exact ⟨G', d, f (Nat.le_refl _)⟩
theorem GI.dropIt (h : GI E G w t) {i k : Nat} (A : AtMu E G i k (some .relN)) (hrun : (G.th i).run = none) (hp : (G.th i).pas k = true) (hd : (G.wd k).q = 0 ∨ (G.wd k).l = true ∨ (G.wd k).w = true ∨ (G.wd k).s = true) :
    ∃ G', MuTo E i G w w t ((G.th i).mu k none (some (G.wd k))) G' := by
  obtain ⟨G', d, c, f, q⟩ := h.mu (a := some .relN) (b := none) (x' := G.wd k) (s' := G.sm k) (o' := some (G.wd k)) (w' := w) (es := #[]) 0 "" A.live A.i0 A.kK A.mr
    (fun c' hm => (h.k.mu k A.kK).drop hm hd) A.ch A.gr (.inl hrun) (.inl ⟨rfl, rfl, rfl⟩) (by simp) rfl A.rel (.inl (by simp))
    (.inl (by rw [mu_wt_none hp, wt_some (r := .relN) A.mr]; simp only [wtr]; omega))
  exact ⟨G', by simpa [MemOp.ofEvents] using d, f (Nat.le_refl _)⟩
theorem GI.payIt (h : GI E G w t) {i k : Nat} {r : Ro} (hr : r = .owe ∨ r = .relS) (A : AtMu E G i k (some r)) (hrun : (G.th i).run = none) (hp : (G.th i).pas k = true) (fn : FuncId) (pos : String) :
    ∃ G', Did E i G G' w (w.setCell (E.sc (.sema k)) (.int .u32 (G.sm k + 1 : Int))) (t ++ MemOp.ofEvents i fn pos (semEvents (E.sc (.sema k)))) ((G.th i).mu k none none) := by
  obtain ⟨G', d, _⟩ := h.mu (a := some r) (b := none) (x' := G.wd k) (s' := G.sm k + 1) (o' := none) (w' := w.setCell (E.sc (.sema k)) (.int .u32 (G.sm k + 1 : Int))) (es := semEvents (E.sc (.sema k))) fn pos A.live A.i0 A.kK A.mr
    (fun c' hm => by
      rcases hr with rfl | rfl
      · exact (h.k.mu k A.kK).pay hm
      · exact (h.k.mu k A.kK).payS hm) A.ch A.gr (.inl hrun) (.inr (.inr ⟨by rw [show ((G.sm k + 1 : Nat) : Int) = (G.sm k : Int) + 1 by omega], rfl⟩)) (mem_sem (x := .sema k) A.kK fun k e => by cases e) (sem_deaf _ _) A.rel
    (.inl (by rcases hr with rfl | rfl <;> simp))
    (.inl (by
      rw [mu_wt_none hp, wt_some (r := r) A.mr]
      rcases hr with rfl | rfl <;> simp only [wtr] <;> omega))
  exact ⟨G', d⟩
end Go.Co

namespace Go.Co
open Go Go.Conc
open Go.ConcM (OsLater)
open Go.ConcN (sumTo upd sumTo_upd upd_ne upd_same sumTo_congr le_sumTo sumTo_le)
variable {E : Geo} {N i : Nat} {l : Lo} {w : World}
def TrX (E : Geo) (N i : Nat) (l : Lo) (g : Goroutine) (w : World) : Prop := E.pro.Lv N i (l, g, w)
def Goes1 (E : Geo) (i : Nat) (G : Gh) (w w' : World) (t : Trace) (es : Array Event) (l' : Lo) (mw : Bool) (lower : Bool) : Prop :=
  ∀ fn pos, ∃ G', Did E i G G' w w' (t ++ MemOp.ofEvents i fn pos es) l' ∧ (mw = true ∨ Calm E G G') ∧ l'.live = true ∧ (lower = true → G'.Φ E.K E.nj < G.Φ E.K E.nj)
theorem Tr.stop {g : Goroutine} (hg : Runs g) (hch : l.ch = .no)
    (h : ∀ G w₁ t, GI E G w₁ t → (G.th i).live = true → G.th i = l → View l.own w w₁ → ∃ g' w' es l' lower, stepG E.P (i == 0) g w₁ = .go g' w' es ∧ g'.status = .running ∧ Goes1 E i G w₁ w' t es l' (mayWake E.P g) lower ∧
      (if lower = true then TrX E N i l' g' w' else Tr E N i l' g' w')) : Tr E N i l g w := by
  refine Pro.Lv.fold ⟨hg, .inr (.inr (.inl ⟨hch, fun G w₁ t hgi hact hlo hv => ?_⟩))⟩
  obtain ⟨g', w', es, l', lower, h1, h2, h3, h4⟩ := h G w₁ t hgi hact hlo hv
  obtain ⟨G', d, c, hl, hlow⟩ := h3 g.frame.fn g.frame.place
  have hlv : ∀ j, j ≠ i → ((G'.th j).live = true ↔ (G.th j).live = true) := fun j hj => by rw [d.oth j hj]
  refine .inl ⟨g', w', es, G', h1, h2, d.gi, d.n, fun j hj => ⟨d.oth j hj, hlv j hj, fun hl => d.view j hl hj⟩, c.imp id (fun c => ⟨c.pk, c.cl⟩), d.phi, .inl ⟨?_, ?_⟩⟩
  · show (G'.th i).live = true
    rw [d.th]; exact hl
  · show E.pro.Lv (N + 1) i (G'.th i, g', w') ∨ (G'.Φ E.K E.nj < G.Φ E.K E.nj ∧ E.pro.Lv N i (G'.th i, g', w'))
    rw [d.th]
    cases lower with
    | false => exact .inl h4
    | true => exact .inr ⟨hlow rfl, h4⟩
theorem Tr.leave {g : Goroutine} (hg : Runs g) (hch : l.ch = .no) (hi0 : i ≠ 0)
    (h : ∀ G w₁ t, GI E G w₁ t → (G.th i).live = true → G.th i = l → View l.own w w₁ → ∃ g' w' es, stepG E.P (i == 0) g w₁ = .go g' w' es ∧ g'.status = .running ∧
      ((∃ l', Goes1 E i G w₁ w' t es l' (mayWake E.P g) false ∧ Tr E N i l' g' w') ∨
       (∃ l', (∀ fn pos, ∃ G', Did E i G G' w₁ w' (t ++ MemOp.ofEvents i fn pos es) l' ∧ (mayWake E.P g = true ∨ Calm E G G') ∧ l'.live = false ∧ G'.Φ E.K E.nj < G.Φ E.K E.nj) ∧ ∃ k, QuitsD E.P k (deafBehind l.deaf es) g'))) : Tr E N i l g w := by
  refine Pro.Lv.fold ⟨hg, .inr (.inr (.inl ⟨hch, fun G w₁ t hgi hact hlo hv => ?_⟩))⟩
  obtain ⟨g', w', es, h1, h2, h3⟩ := h G w₁ t hgi hact hlo hv
  rcases h3 with ⟨l', h3, h4⟩ | ⟨l', h3, h4⟩
  · obtain ⟨G', d, c, hl, _⟩ := h3 g.frame.fn g.frame.place
    refine .inl ⟨g', w', es, G', h1, h2, d.gi, d.n, fun j hj => ⟨d.oth j hj, by show (G'.th j).live = true ↔ _; rw [d.oth j hj]; rfl, fun hl => d.view j hl hj⟩, c.imp id (fun c => ⟨c.pk, c.cl⟩), d.phi, .inl ⟨?_, .inl ?_⟩⟩
    · show (G'.th i).live = true
      rw [d.th]; exact hl
    · show E.pro.Lv (N + 1) i (G'.th i, g', w')
      rw [d.th]; exact h4
  · obtain ⟨G', d, c, hl, hlow⟩ := h3 g.frame.fn g.frame.place
    refine .inl ⟨g', w', es, G', h1, h2, d.gi, d.n, fun j hj => ⟨d.oth j hj, by show (G'.th j).live = true ↔ _; rw [d.oth j hj]; rfl, fun hl => d.view j hl hj⟩, c.imp id (fun c => ⟨c.pk, c.cl⟩), d.phi, .inr ⟨?_, hi0, hlow, ?_⟩⟩
    · show ¬ (G'.th i).live = true
      rw [d.th, hl]; simp
    · show ∃ k, QuitsD E.P k (deafBehind (Gh.th G i).deaf es) g'
      rw [show Gh.th G i = l from hlo]; exact h4
theorem Tr.park {g : Goroutine} (hg : Runs g) (hch : l.ch = .no)
    (h : ∀ G w₁ t, GI E G w₁ t → (G.th i).live = true → G.th i = l → View l.own w w₁ →
      (stepG E.P (i == 0) g w₁ = .go { g with status := .blocked } w₁ #[] ∧ G.PK E i) ∨
      ∃ g' w' es l', stepG E.P (i == 0) g w₁ = .go g' w' es ∧ g'.status = .running ∧ (∀ fn pos, ∃ G', Did E i G G' w₁ w' (t ++ MemOp.ofEvents i fn pos es) l' ∧ (mayWake E.P g = true ∨ Calm E G G') ∧ l'.live = true) ∧ Tr E N i l' g' w') : Tr E N i l g w := by
  refine Pro.Lv.fold ⟨hg, .inr (.inr (.inl ⟨hch, fun G w₁ t hgi hact hlo hv => ?_⟩))⟩
  rcases h G w₁ t hgi hact hlo hv with h | ⟨g', w', es, l', h1, h2, h3, h4⟩
  · exact .inr (.inl h)
  · obtain ⟨G', d, c, hl⟩ := h3 g.frame.fn g.frame.place
    refine .inl ⟨g', w', es, G', h1, h2, d.gi, d.n, fun j hj => ⟨d.oth j hj, by show (G'.th j).live = true ↔ _; rw [d.oth j hj]; rfl, fun hl => d.view j hl hj⟩, c.imp id (fun c => ⟨c.pk, c.cl⟩), d.phi, .inl ⟨?_, .inl ?_⟩⟩
    · show (G'.th i).live = true
      rw [d.th]; exact hl
    · show E.pro.Lv (N + 1) i (G'.th i, g', w')
      rw [d.th]; exact h4
structure Ent (P : Program) (f : FuncId) (e : Array Value → Sem Value) : Prop where
  out : ∃ fn, P.funcs[f]? = some fn ∧ (fn.name == "runtime.NumGoroutine") = false ∧ fn.body.isNone = true ∧ Extern.findNext fn = none ∧ Extern.find fn = some e
theorem mayWake_ent {P : Program} {b : Frame} {a : Act} {ops : Array Oper} {j : Nat} {rest : List Nat} {k : List Item} {cs : List Frame} {o : Oper} {f : FuncId} {e : Array Value → Sem Value} {xs : Array Operand} {ats : Array TypeId}
    (ho : ops[j]? = some o) (hop : o.op = .call { callee := .value (.func f), args := xs, argTypes := ats }) (h : Ent P f e) : mayWake P (G (b.at a (.inRegion ops (j :: rest) :: k)) cs) = true := by
  obtain ⟨fn, h1, _, h2, _⟩ := h.out
  have h2' : fn.body = none := by simpa using h2
  simp [mayWake, G, Frame.at, ho, hop, Frame.eval, h1, h2']
section
variable {b : Frame} {n : Nat} {env : Nv} {ds : List Deferred} {k : List Item} {cs : List Frame}
def TkL (lower : Bool) (E : Geo) (N i : Nat) (l : Lo) (w : World) (b : Frame) (n : Nat) (env : Nv) (ds : List Deferred) (k : List Item) (cs : List Frame) : Prop :=
  ∀ a, Has n env a → a.defers = ds → if lower = true then TrX E N i l (G (b.at a k) cs) w else Tr E N i l (G (b.at a k) cs) w
theorem TkL.same (h : Tk E N i l w b n env ds k cs) : TkL false E N i l w b n env ds k cs := fun a ha hd => h a ha hd
theorem TkL.zero : TkL true E 0 i l w b n env ds k cs := fun _a _ha _hd => trivial
theorem TkL.less (h : Tk E N i l w b n env ds k cs) : TkL true E (N + 1) i l w b n env ds k cs := fun a ha hd => h a ha hd
theorem Tk.stop (W : Wk E l b) {ops : Array Oper} {j : Nat} {rest : List Nat} {o : Oper} (_ho : ops[j]? = some o) (hd : dstOk n o.dst = true)
    (h : ∀ G w₁ t, GI E G w₁ t → (G.th i).live = true → G.th i = l → View l.own w w₁ → ∃ v w' es l' lower,
      (∀ a, Has n env a → a.defers = ds → stepG E.P (i == 0) (Conc.G (b.at a (.inRegion ops (j :: rest) :: k)) cs) w₁ = .go (Conc.G (b.at (a.put o.dst v) (.inRegion ops rest :: k)) cs) w' es ∧
        Goes1 E i G w₁ w' t es l' (mayWake E.P (Conc.G (b.at a (.inRegion ops (j :: rest) :: k)) cs)) lower) ∧
      TkL lower E N i l' w' b n (env.put o.dst v) ds (.inRegion ops rest :: k) cs) : Tk E N i l w b n env ds (.inRegion ops (j :: rest) :: k) cs := by
  intro a ha hds
  refine Tr.stop (runs_G _ _) W.ch fun G w₁ t hgi hact hlo hv => ?_
  obtain ⟨v, w', es, l', lower, h1, h2⟩ := h G w₁ t hgi hact hlo hv
  obtain ⟨h3, h4⟩ := h1 a ha hds
  exact ⟨_, w', es, l', lower, h3, rfl, h4, h2 _ (ha.put hd v) (by cases o.dst <;> exact hds)⟩
variable {ops : Array Oper} {j : Nat} {rest : List Nat} {o : Oper} {f : FuncId} {ats : Array TypeId}
theorem Tk.lib (W : Wk E l b) {e : Array Value → Sem Value} {xs : Array Operand} (ho : ops[j]? = some o) (hd : dstOk n o.dst = true) (hop : o.op = .call { callee := .value (.func f), args := xs, argTypes := ats }) (he : Ent E.P f e)
    (h : ∀ G w₁ t, GI E G w₁ t → (G.th i).live = true → G.th i = l → View l.own w w₁ → ∃ v w' es l' lower,
      (∀ a, Has n env a → a.defers = ds → stepG E.P (i == 0) (Conc.G (b.at a (.inRegion ops (j :: rest) :: k)) cs) w₁ = .go (Conc.G (b.at (a.put o.dst v) (.inRegion ops rest :: k)) cs) w' es) ∧
      Goes1 E i G w₁ w' t es l' true lower ∧ TkL lower E N i l' w' b n (env.put o.dst v) ds (.inRegion ops rest :: k) cs) : Tk E N i l w b n env ds (.inRegion ops (j :: rest) :: k) cs := by
  refine Tk.stop W ho hd fun G w₁ t hgi hact hlo hv => ?_
  obtain ⟨v, w', es, l', lower, h1, h2, h3⟩ := h G w₁ t hgi hact hlo hv
  refine ⟨v, w', es, l', lower, fun a ha hds => ⟨h1 a ha hds, ?_⟩, h3⟩
  rw [mayWake_ent ho hop he]; exact h2
theorem Tk.aload (W : Wk E l b) {x : Operand} {kk : IntKind} {ad : Addr} (ho : ops[j]? = some o) (hw : wantE ops env o = some true) (hd : dstOk n o.dst = true) (hop : o.op = .call { callee := .value (.func f), args := #[x], argTypes := ats }) (he : Ent E.P f (Extern.Atomic.loadT (.int kk))) (hx : env.ev x = some (.pointer (some ad)))
    (h : ∀ G w₁ t, GI E G w₁ t → (G.th i).live = true → G.th i = l → View l.own w w₁ → ∃ v l' lower, w₁.cell? ad = some (.int kk v) ∧ Goes1 E i G w₁ w₁ t #[⟨.cell ad, false, true⟩] l' true lower ∧ TkL lower E N i l' w₁ b n (env.put o.dst (.int kk v)) ds (.inRegion ops rest :: k) cs) :
    Tk E N i l w b n env ds (.inRegion ops (j :: rest) :: k) cs := by
  refine Tk.lib W ho hd hop he fun G w₁ t hgi hact hlo hv => ?_
  obtain ⟨v, l', lower, h1, h2, h3⟩ := h G w₁ t hgi hact hlo hv
  obtain ⟨fn, f1, f2, f3, f4, f5⟩ := he.out
  exact ⟨_, w₁, _, l', lower, fun a ha _ => stepG_load_atomic ho (ha.want hw) W.kind hop f1 f2 f3 f4 kk f5 (ha.ev hx) h1, h2, h3⟩
theorem Tk.astore (W : Wk E l b) {x y : Operand} {kk : IntKind} {ad : Addr} {v : Int} (ho : ops[j]? = some o) (hw : wantE ops env o = some true) (hd : dstOk n o.dst = true) (hop : o.op = .call { callee := .value (.func f), args := #[x, y], argTypes := ats }) (he : Ent E.P f Extern.Atomic.storeT) (hx : env.ev x = some (.pointer (some ad))) (hy : env.ev y = some (.int kk v))
    (h : ∀ G w₁ t, GI E G w₁ t → (G.th i).live = true → G.th i = l → View l.own w w₁ → ∃ u l' lower, w₁.cell? ad = some u ∧ w₁.frozen? ad = false ∧ Goes1 E i G w₁ (w₁.setCell ad (.int kk v)) t #[⟨.cell ad, true, true⟩] l' true lower ∧ TkL lower E N i l' (w₁.setCell ad (.int kk v)) b n (env.put o.dst (.tuple #[])) ds (.inRegion ops rest :: k) cs) :
    Tk E N i l w b n env ds (.inRegion ops (j :: rest) :: k) cs := by
  refine Tk.lib W ho hd hop he fun G w₁ t hgi hact hlo hv => ?_
  obtain ⟨u, l', lower, h1, h1', h2, h3⟩ := h G w₁ t hgi hact hlo hv
  obtain ⟨fn, f1, f2, f3, f4, f5⟩ := he.out
  exact ⟨_, _, _, l', lower, fun a ha _ => stepG_store_atomic ho (ha.want hw) W.kind hop f1 f2 f3 f4 f5 (ha.ev hx) (ha.ev hy) h1 h1', h2, h3⟩
theorem Tk.aadd (W : Wk E l b) {x y : Operand} {kk : IntKind} {ad : Addr} {d : Int} (ho : ops[j]? = some o) (hw : wantE ops env o = some true) (hd : dstOk n o.dst = true) (hop : o.op = .call { callee := .value (.func f), args := #[x, y], argTypes := ats }) (he : Ent E.P f (Extern.Atomic.update (Op.intArith .add) kk true)) (hx : env.ev x = some (.pointer (some ad))) (hy : env.ev y = some (.int kk d))
    (h : ∀ G w₁ t, GI E G w₁ t → (G.th i).live = true → G.th i = l → View l.own w w₁ → ∃ v l' lower, w₁.cell? ad = some (.int kk v) ∧ w₁.frozen? ad = false ∧ Goes1 E i G w₁ (w₁.setCell ad (.int kk (kk.wrap (v + d)))) t (rw2 ad) l' true lower ∧
      TkL lower E N i l' (w₁.setCell ad (.int kk (kk.wrap (v + d)))) b n (env.put o.dst (.int kk (kk.wrap (v + d)))) ds (.inRegion ops rest :: k) cs) :
    Tk E N i l w b n env ds (.inRegion ops (j :: rest) :: k) cs := by
  refine Tk.lib W ho hd hop he fun G w₁ t hgi hact hlo hv => ?_
  obtain ⟨v, l', lower, h1, h1', h2, h3⟩ := h G w₁ t hgi hact hlo hv
  obtain ⟨fn, f1, f2, f3, f4, f5⟩ := he.out
  exact ⟨_, _, _, l', lower, fun a ha _ => stepG_add_atomic ho (ha.want hw) W.kind hop f1 f2 f3 f4 kk f5 (ha.ev hx) (ha.ev hy) h1 h1', h2, h3⟩
theorem Tk.cas (W : Wk E l b) {x y z : Operand} {kk : IntKind} {ad : Addr} {v0 v1 : Int} (ho : ops[j]? = some o) (hw : wantE ops env o = some true) (hd : dstOk n o.dst = true) (hop : o.op = .call { callee := .value (.func f), args := #[x, y, z], argTypes := ats }) (he : Ent E.P f (Extern.Atomic.casT (.int kk)))
    (hx : env.ev x = some (.pointer (some ad))) (hy : env.ev y = some (.int kk v0)) (hz : env.ev z = some (.int kk v1))
    (h : ∀ G w₁ t, GI E G w₁ t → (G.th i).live = true → G.th i = l → View l.own w w₁ → ∃ v l' lower, w₁.cell? ad = some (.int kk v) ∧ w₁.frozen? ad = false ∧
      ((v = v0 ∧ Goes1 E i G w₁ (w₁.setCell ad (.int kk v1)) t (rw2 ad) l' true lower ∧ TkL lower E N i l' (w₁.setCell ad (.int kk v1)) b n (env.put o.dst (.bool true)) ds (.inRegion ops rest :: k) cs) ∨
       (v ≠ v0 ∧ Goes1 E i G w₁ w₁ t #[⟨.cell ad, false, true⟩] l' true lower ∧ TkL lower E N i l' w₁ b n (env.put o.dst (.bool false)) ds (.inRegion ops rest :: k) cs))) :
    Tk E N i l w b n env ds (.inRegion ops (j :: rest) :: k) cs := by
  refine Tk.lib W ho hd hop he fun G w₁ t hgi hact hlo hv => ?_
  obtain ⟨v, l', lower, h1, h1', h⟩ := h G w₁ t hgi hact hlo hv
  obtain ⟨fn, f1, f2, f3, f4, f5⟩ := he.out
  rcases h with ⟨rfl, h2, h3⟩ | ⟨hne, h2, h3⟩
  · exact ⟨_, _, _, l', lower, fun a ha _ => stepG_cas_hit ho (ha.want hw) W.kind hop f1 f2 f3 f4 kk f5 (ha.ev hx) (ha.ev hy) (ha.ev hz) h1 h1', h2, h3⟩
  · exact ⟨_, _, _, l', lower, fun a ha _ => stepG_cas_miss ho (ha.want hw) W.kind hop f1 f2 f3 f4 kk f5 (ha.ev hx) (ha.ev hy) (ha.ev hz) h1 h1' hne, h2, h3⟩
theorem Tk.mark0 (W : Wk E l b) {m : Mark} (hm : ∀ g, m ≠ .extern g) {xs : Array Operand} (ho : ops[j]? = some o) (hw : wantE ops env o = some true) (hd : dstOk n o.dst = true) (hop : o.op = .call { callee := .value (.func f), args := xs, argTypes := ats }) (he : Ent E.P f (fun _ => do mark m; Pure.pure Extern.Race.none_))
    (h : ∀ G w₁ t, GI E G w₁ t → (G.th i).live = true → G.th i = l → View l.own w w₁ → ∃ l' lower, Goes1 E i G w₁ w₁ t #[⟨.mark m, false, true⟩] l' true lower ∧ TkL lower E N i l' w₁ b n (env.put o.dst (.tuple #[])) ds (.inRegion ops rest :: k) cs) :
    Tk E N i l w b n env ds (.inRegion ops (j :: rest) :: k) cs := by
  refine Tk.lib W ho hd hop he fun G w₁ t hgi hact hlo hv => ?_
  obtain ⟨l', lower, h2, h3⟩ := h G w₁ t hgi hact hlo hv
  obtain ⟨fn, f1, f2, f3, f4, f5⟩ := he.out
  exact ⟨_, _, _, l', lower, fun a ha _ => stepG_mark0 m hm ho (ha.want hw) W.kind hop f1 f2 f3 f4 f5, h2, h3⟩
theorem Tk.markAt (W : Wk E l b) {mk : Addr → Mark} (hm : ∀ ad g, mk ad ≠ .extern g) {x : Operand} {ad : Addr} (ho : ops[j]? = some o) (hw : wantE ops env o = some true) (hd : dstOk n o.dst = true) (hop : o.op = .call { callee := .value (.func f), args := #[x], argTypes := ats }) (he : Ent E.P f (Extern.Race.marked mk)) (hx : env.ev x = some (.pointer (some ad)))
    (h : ∀ G w₁ t, GI E G w₁ t → (G.th i).live = true → G.th i = l → View l.own w w₁ → ∃ l' lower, Goes1 E i G w₁ w₁ t #[⟨.mark (mk ad), false, true⟩] l' true lower ∧ TkL lower E N i l' w₁ b n (env.put o.dst (.tuple #[])) ds (.inRegion ops rest :: k) cs) :
    Tk E N i l w b n env ds (.inRegion ops (j :: rest) :: k) cs := by
  refine Tk.lib W ho hd hop he fun G w₁ t hgi hact hlo hv => ?_
  obtain ⟨l', lower, h2, h3⟩ := h G w₁ t hgi hact hlo hv
  obtain ⟨fn, f1, f2, f3, f4, f5⟩ := he.out
  exact ⟨_, _, _, l', lower, fun a ha _ => stepG_markAt mk hm ho (ha.want hw) W.kind hop f1 f2 f3 f4 f5 (by simp [ha.ev hx]), h2, h3⟩
theorem Tk.semrel (W : Wk E l b) {x y z : Operand} {ad : Addr} (ho : ops[j]? = some o) (hw : wantE ops env o = some true) (hd : dstOk n o.dst = true) (hop : o.op = .call { callee := .value (.func f), args := #[x, y, z], argTypes := ats }) (he : Ent E.P f Extern.Sync.semrelease) (hx : env.ev x = some (.pointer (some ad)))
    (h : ∀ G w₁ t, GI E G w₁ t → (G.th i).live = true → G.th i = l → View l.own w w₁ → ∃ v l' lower, w₁.cell? ad = some (.int .u32 v) ∧ w₁.frozen? ad = false ∧ Goes1 E i G w₁ (w₁.setCell ad (.int .u32 (IntKind.u32.wrap (v + 1)))) t (semEvents ad) l' true lower ∧ TkL lower E N i l' (w₁.setCell ad (.int .u32 (IntKind.u32.wrap (v + 1)))) b n (env.put o.dst (.tuple #[])) ds (.inRegion ops rest :: k) cs) :
    Tk E N i l w b n env ds (.inRegion ops (j :: rest) :: k) cs := by
  refine Tk.lib W ho hd hop he fun G w₁ t hgi hact hlo hv => ?_
  obtain ⟨v, l', lower, h1, h1', h2, h3⟩ := h G w₁ t hgi hact hlo hv
  obtain ⟨fn, f1, f2, f3, f4, f5⟩ := he.out
  exact ⟨_, _, _, l', lower, fun a ha _ => stepG_semrelease ho (ha.want hw) W.kind hop f1 f2 f3 f4 f5 (by simp [ha.ev hx]) h1 h1', h2, h3⟩
theorem Tk.semacq (W : Wk E l b) {xs : Array Operand} {x : Operand} {ad : Addr} (hxs : xs[0]? = some x) (ho : ops[j]? = some o) (hw : wantE ops env o = some true) (hd : dstOk n o.dst = true) (hop : o.op = .call { callee := .value (.func f), args := xs, argTypes := ats }) (he : Ent E.P f Extern.Sync.semacquire) (hx : env.ev x = some (.pointer (some ad)))
    (h : ∀ G w₁ t, GI E G w₁ t → (G.th i).live = true → G.th i = l → View l.own w w₁ → ∃ v : Int, w₁.cell? ad = some (.int .u32 v) ∧ w₁.frozen? ad = false ∧ ((v = 0 ∧ G.PK E i) ∨ (v ≠ 0 ∧ ∃ l', Goes1 E i G w₁ (w₁.setCell ad (.int .u32 (v - 1))) t (semEvents ad) l' true false ∧ Tk E N i l' (w₁.setCell ad (.int .u32 (v - 1))) b n (env.put o.dst (.tuple #[])) ds (.inRegion ops rest :: k) cs))) :
    Tk E N i l w b n env ds (.inRegion ops (j :: rest) :: k) cs := by
  intro a ha hds
  obtain ⟨fn, f1, f2, f3, f4, f5⟩ := he.out
  have hxa : (xs.map a.eval)[0]? = some (.pointer (some ad)) := by simp [hxs, ha.ev hx]
  refine Tr.park (runs_G _ _) W.ch fun G w₁ t hgi hact hlo hv => ?_
  obtain ⟨v, h1, h1', h⟩ := h G w₁ t hgi hact hlo hv
  rcases h with ⟨rfl, hp⟩ | ⟨hne, l', h2, h3⟩
  · exact .inl ⟨stepG_semacquire_wait ho (ha.want hw) hop f1 f2 f3 f4 f5 hxa h1, hp⟩
  · refine .inr ⟨_, _, _, l', stepG_semacquire ho (ha.want hw) W.kind hop f1 f2 f3 f4 f5 hxa h1 hne h1', rfl, fun fn pos => ?_, h3 _ (ha.put hd _) (by cases o.dst <;> exact hds)⟩
    obtain ⟨G', d, c, hl, _⟩ := h2 fn pos
    exact ⟨G', d, .inl (mayWake_ent ho hop he), hl⟩
theorem Tk.nano (W : Wk E l b) {xs : Array Operand} (ho : ops[j]? = some o) (hw : wantE ops env o = some true) (hd : dstOk n o.dst = true) (hop : o.op = .call { callee := .value (.func f), args := xs, argTypes := ats })
    (he : ∃ fn, E.P.funcs[f]? = some fn ∧ (fn.name == "runtime.NumGoroutine") = false ∧ fn.body.isNone = true ∧ Extern.findNext fn = none ∧ Extern.find fn = some Extern.OsHooks.nano ∧ fn.norace = true)
    (hrel : l.rel = none) (hlive : l.live = true) (h : ∀ v w₁, View l.own w w₁ → Tk E N i l w₁ b n (env.put o.dst (.int .i64 v)) ds (.inRegion ops rest :: k) cs) :
    Tk E N i l w b n env ds (.inRegion ops (j :: rest) :: k) cs := by
  obtain ⟨fn, f1, f2, f3, f4, f5, f6⟩ := he
  refine Tk.lib W ho hd hop ⟨fn, f1, f2, f3, f4, f5⟩ fun G w₁ t hgi hact hlo hv => ?_
  refine ⟨.int .i64 ((w₁.os.mono + w₁.tick : Nat) : Int), w₁.later, #[], l, false, fun a ha _ => stepG_nanotime ho (ha.want hw) W.kind hop f1 f2 f3 f4 f5 f6, fun fn pos => ?_, TkL.same (h _ _ (hv.trans ⟨Nat.le_refl _, fun _ _ => rfl⟩))⟩
  obtain ⟨G', d, c⟩ := hgi.says (w' := w₁.later) (es := #[]) fn pos hact (by simp) rfl rfl rfl ⟨w₁.tick, rfl⟩ (.inl (by rw [hlo]; exact hrel))
  refine ⟨G', ?_, .inr c, hlive, fun e => by cases e⟩
  have : ({ G.th i with deaf := deafBehind (G.th i).deaf #[] } : Lo) = l := by rw [← hlo]; rfl
  rw [this] at d; exact d
end
end Go.Co

namespace Go.Co
open Go Go.Conc
open Go.ConcM (OsLater)
open Go.ConcN (sumTo upd sumTo_upd upd_ne upd_same sumTo_congr le_sumTo sumTo_le)
variable {E : Geo} {N i : Nat} {l : Lo} {w : World}
structure Bod (P : Program) (f : FuncId) (nt : Nat) (c : Code) (rs : Array ResultVar) : Prop where
  out : ∃ fn, P.funcs[f]? = some fn ∧ (fn.name == "runtime.NumGoroutine") = false ∧ fn.body = some c ∧ fn.ntmps = nt ∧ fn.results = rs
def argsEnv : List Value → Nat → Nv
  | [], _ => []
  | v :: vs, j => (j, v) :: argsEnv vs (j + 1)
theorem argsEnv_get : ∀ (vs : List Value) (j k : Nat) (v : Value), (argsEnv vs j).get k = some v → j ≤ k ∧ vs[k - j]? = some v
  | [], j, k, v, h => by cases h
  | x :: vs, j, k, v, h => by
    rw [argsEnv, Nv.get_put] at h
    split at h
    · rename_i e; subst e; cases h; exact ⟨Nat.le_refl _, by simp⟩
    · rename_i e
      obtain ⟨h1, h2⟩ := argsEnv_get vs (j + 1) k v h
      refine ⟨by omega, ?_⟩
      obtain ⟨m, hm⟩ : ∃ m, k - j = m + 1 := ⟨k - j - 1, by omega⟩
      rw [hm]
      rw [show k - (j + 1) = m by omega] at h2
      simpa using h2
theorem has_args {nt : Nat} {args : Array Value} (h : args.size ≤ nt) : Has nt (argsEnv args.toList 0) { tmps := args ++ Array.replicate (nt - args.size) undef, defers := [] } := by
  refine ⟨by simp; omega, fun k v hk => ?_⟩
  obtain ⟨_, h2⟩ := argsEnv_get _ _ _ _ hk
  simp only [Nat.sub_zero] at h2
  have hlt : k < args.size := by
    have := (List.getElem?_eq_some_iff.1 h2).1; simpa using this
  rw [Array.getElem?_append_left hlt]
  simpa using h2
section
variable {b : Frame} {n : Nat} {env : Nv} {ds : List Deferred} {k : List Item} {cs : List Frame}
variable {ops : Array Oper} {j : Nat} {rest : List Nat} {o : Oper} {f : FuncId} {ats : Array TypeId}
theorem Tr.enter {nt : Nat} {c : Code} {rs : Array ResultVar} {args : Array Value} (hb : Bod E.P f nt c rs) (ha : args.size ≤ nt) (h : Tk E N i l w (base f) nt (argsEnv args.toList 0) [] [.code c] cs) : Tr E N i l (Conc.G (Frame.enter E.P f args .normal) cs) w := by
  obtain ⟨fn, f1, _, f3, f4, _⟩ := hb.out
  rw [enter_at args f1 f3, f4]
  exact h _ (has_args ha) rfl
def evsA (env : Nv) : List Operand → Option (List Value)
  | [] => some []
  | x :: xs => match env.ev x, evsA env xs with
    | some v, some vs => some (v :: vs)
    | _, _ => none
theorem Has.evsA {a : Act} (h : Has n env a) : ∀ {xs : List Operand} {vs : List Value}, Co.evsA env xs = some vs → xs.map a.eval = vs
  | [], vs, hx => by cases hx; rfl
  | x :: xs, vs, hx => by
    unfold Co.evsA at hx
    cases h1 : env.ev x with
    | none => rw [h1] at hx; cases hx
    | some v =>
      cases h2 : Co.evsA env xs with
      | none => rw [h1, h2] at hx; cases hx
      | some ws =>
        rw [h1, h2] at hx; cases hx
        simp only [List.map_cons, h.ev h1, Has.evsA h h2]
theorem Tk.call (W : Wk E l b) {xs : Array Operand} {vs : List Value} {nt : Nat} {c : Code} {rs : Array ResultVar} (ho : ops[j]? = some o) (hw : wantE ops env o = some true) (hd : dstOk n o.dst = true) (hop : o.op = .call { callee := .value (.func f), args := xs, argTypes := ats }) (hb : Bod E.P f nt c rs)
    (hx : evsA env xs.toList = some vs) (h : ∀ fr : Frame, (∀ l' w' v, Tk E N i l' w' b n (env.put o.dst v) ds (.inRegion ops rest :: k) cs → Tr E N i l' (Conc.G (fr.finish v) cs) w') → Tr E N i l (Conc.G (Frame.enter E.P f vs.toArray .normal) (fr :: cs)) w) :
    Tk E N i l w b n env ds (.inRegion ops (j :: rest) :: k) cs := by
  intro a ha hds
  obtain ⟨fn, f1, f2, f3, _⟩ := hb.out
  have hm : xs.map a.eval = vs.toArray := by
    apply Array.toList_inj.1
    simp only [Array.toList_map]
    exact ha.evsA hx
  refine Tr.still W.fin (runs_G _ _) (g' := Conc.G (Frame.enter E.P f vs.toArray .normal) (b.at a (.inRegion ops (j :: rest) :: k) :: cs)) rfl W.ch (fun w₁ _ => ?_) (h _ fun l' w' v hk => ?_)
  · have hr := run_call_body (a := a) (P := E.P) (w := w₁) hop f1 f2 (by rw [f3]; rfl)
    rw [stepG_enter ho (ha.want hw) W.kind hr, hm]
    unfold listed
    rw [events_call_body hop f1 f2 (by rw [f3]; rfl), seen_none]
  · rw [show (b.at a (.inRegion ops (j :: rest) :: k)).finish v = b.at (a.put o.dst v) (.inRegion ops rest :: k) by rw [Frame.finish_at, ho]; rfl]
    exact hk _ (ha.put hd v) (by cases o.dst <;> exact hds)
def TkR (E : Geo) (N i : Nat) (l : Lo) (w : World) (b : Frame) (n : Nat) (env : Nv) (ds : List Deferred) (cs : List Frame) : Prop :=
  ∀ a todo, Has n env a → a.defers = ds → Tr E N i l (Conc.G { b.at a todo with mode := .returning } cs) w
theorem Tk.ret (W : Wk E l b) (h : TkR E N i l w b n env ds cs) : Tk E N i l w b n env ds (.code .ret :: k) cs := fun a ha hd => Tr.ret W.fin W.ch (h a _ ha hd)
theorem Tk.fall (W : Wk E l b) (h : TkR E N i l w b n env ds cs) : Tk E N i l w b n env ds [] cs := fun a ha hd => Tr.fall W.fin W.ch (h a _ ha hd)
theorem TkR.leave1 (W : Wk E l (base f)) {nt : Nat} {c : Code} {r : Tmp} {v : Value} {fr : Frame} (hb : Bod E.P f nt c #[.tmp r]) (hv : env.get r = some v) (h : Tr E N i l (Conc.G (fr.finish v) cs) w) : TkR E N i l w (base f) n env [] (fr :: cs) := by
  intro a todo ha hds
  obtain ⟨fn, f1, _, _, _, f5⟩ := hb.out
  have e : a.tmps.getD r undef = v := by rw [Array.getD_eq_getD_getElem?, ha.2 r v hv]; rfl
  refine Tr.still W.fin (runs_G _ _) (g' := Conc.G (fr.finish v) cs) rfl W.ch (fun w₁ _ => ?_) h
  exact stepG_leave (b := base f) rfl hds f1 (by rw [results_tmp f5, e]) (events_results_tmp f5 _ _)
theorem TkR.leave0 (W : Wk E l (base f)) {nt : Nat} {c : Code} {fr : Frame} (hb : Bod E.P f nt c #[]) (h : Tr E N i l (Conc.G (fr.finish (.tuple #[])) cs) w) : TkR E N i l w (base f) n env [] (fr :: cs) := by
  intro a todo ha hds
  obtain ⟨fn, f1, _, _, _, f5⟩ := hb.out
  refine Tr.still W.fin (runs_G _ _) (g' := Conc.G (fr.finish (.tuple #[])) cs) rfl W.ch (fun w₁ _ => ?_) h
  exact stepG_leave (b := base f) rfl hds f1 (results_none f5 _ _ _) (events_results_none f5 _ _)
theorem TkR.leaveD (W : Wk E l (baseD f)) {nt : Nat} {c : Code} {fr : Frame} (hb : Bod E.P f nt c #[]) (hm : fr.mode = .returning) (h : Tr E N i l (Conc.G fr cs) w) : TkR E N i l w (baseD f) n env [] (fr :: cs) := by
  intro a todo ha hds
  obtain ⟨fn, f1, _, _, _, f5⟩ := hb.out
  refine Tr.still W.fin (runs_G _ _) (g' := Conc.G fr cs) rfl W.ch (fun w₁ _ => ?_) h
  exact stepG_leave_deferred (b := baseD f) rfl hds f1 (results_none f5 _ _ _) (events_results_none f5 _ _) hm
theorem TkR.call (W : Wk E l b) {args : Array Value} {nt : Nat} {c : Code} {rs : Array ResultVar} (hb : Bod E.P f nt c rs) (ha : args.size ≤ nt)
    (h : ∀ fr : Frame, fr.mode = .returning → (∀ l' w', TkR E N i l' w' b n env ds cs → Tr E N i l' (Conc.G fr cs) w') → Tk E N i l w (baseD f) nt (argsEnv args.toList 0) [] [.code c] (fr :: cs)) : TkR E N i l w b n env (dcall f args :: ds) cs := by
  intro a todo hh hds
  obtain ⟨fn, f1, f2, f3, f4, _⟩ := hb.out
  refine Tr.still W.fin (runs_G _ _) (g' := Conc.G ((baseD f).at { tmps := args ++ Array.replicate (fn.ntmps - args.size) undef, defers := [] } [.code c]) ({ b.at ⟨a.tmps, ds⟩ todo with mode := .returning } :: cs)) rfl W.ch (fun w₁ _ => stepG_unwind_enter hds f1 f2 f3) ?_
  rw [f4]
  exact h _ rfl (fun l' w' hr => hr ⟨a.tmps, ds⟩ todo hh rfl) _ (has_args ha) rfl
theorem TkR.mark (W : Wk E l b) {m : Mark} (hm : ∀ g, m ≠ .extern g) {args : Array Value} (he : Ent E.P f (fun _ => do Go.mark m; Pure.pure Extern.Race.none_))
    (h : ∀ G w₁ t, GI E G w₁ t → (G.th i).live = true → G.th i = l → View l.own w w₁ → ∃ l', Goes1 E i G w₁ w₁ t #[⟨.mark m, false, true⟩] l' true false ∧ TkR E N i l' w₁ b n env ds cs) : TkR E N i l w b n env (dcall f args :: ds) cs := by
  intro a todo hh hds
  obtain ⟨fn, f1, f2, f3, f4, f5⟩ := he.out
  refine Tr.stop (runs_G _ _) W.ch fun G w₁ t hgi hact hlo hv => ?_
  obtain ⟨l', h2, h3⟩ := h G w₁ t hgi hact hlo hv
  refine ⟨_, w₁, #[⟨.mark m, false, true⟩], l', false, stepG_unwind_entry (v := Extern.Race.none_) hds f1 f2 f3 f4 f5 (by simp [Extern.Race.none_]) (by simp) (by
    intro x hx
    simp at hx; subst hx
    exact ⟨rfl, fun g h => hm g (by cases h; rfl)⟩), rfl, h2, h3 ⟨a.tmps, ds⟩ todo hh rfl⟩
theorem Tk.defer (W : Wk E l b) {xs : Array Operand} {vs : List Value} (ho : ops[j]? = some o) (hw : wantE ops env o = some true) (hd : dstOk n o.dst = true) (hop : o.op = .defer { callee := .value (.func f), args := xs, argTypes := ats }) (hx : evsA env xs.toList = some vs)
    (h : Tk E N i l w b n (env.put o.dst undef) (dcall f vs.toArray :: ds) (.inRegion ops rest :: k) cs) : Tk E N i l w b n env ds (.inRegion ops (j :: rest) :: k) cs := by
  intro a ha hds
  have hm : xs.map a.eval = vs.toArray := by
    apply Array.toList_inj.1
    simp only [Array.toList_map]
    exact ha.evsA hx
  refine Tr.still W.fin (runs_G _ _) (g' := Conc.G (b.at (Act.put ⟨a.tmps, dcall f vs.toArray :: a.defers⟩ o.dst undef) (.inRegion ops rest :: k)) cs) rfl W.ch (fun w₁ _ => by rw [stepG_defer ho (ha.want hw) W.kind hop, hm]) (h _ ?_ ?_)
  · have := ha.put hd undef
    exact ⟨by cases hdd : o.dst <;> simp_all [Act.put, Has], fun q v hq => by
      have := this.2 q v hq
      cases hdd : o.dst <;> simp_all [Act.put]⟩
  · cases o.dst <;> simp [Act.put, hds]
def isAggT (P : Program) (t : TypeId) : Option Bool :=
  match P.underlying t with
  | some (.struct _) => some true
  | some (.array _ _) => some true
  | some _ => some false
  | none => none
theorem run_isAgg {P : Program} {t : TypeId} {b : Bool} (h : isAggT P t = some b) (w : World) : (isAgg t).run P w = .ok b w := by
  unfold isAggT at h
  cases hu : P.underlying t with
  | none => simp [hu] at h
  | some d =>
    have hr := run_underlying hu w
    cases d <;> simp [hu] at h <;> subst h <;> simp [isAgg, hr]
theorem exec_load {P : Program} {a : Act} {o : Oper} {t : TypeId} {x : Operand} {ad : Addr} {v : Value} {w : World} (ho : o.op = .load t x) (hx : a.eval x = .pointer (some ad)) (ha : isAggT P t = some false) (hc : w.cell? ad = some v) :
    (execOp a.eval o).run P w = .ok (.value v) w ∧ (execOp a.eval o).events P w #[] = #[⟨.cell ad, false, false⟩] := by
  have hu : ∃ d, P.underlying t = some d := by
    unfold isAggT at ha
    cases hu : P.underlying t with
    | none => simp [hu] at ha
    | some d => exact ⟨d, rfl⟩
  obtain ⟨d, hd⟩ := hu
  have h1 := run_underlying hd w
  have hagg : ∀ w, (isAgg t).run P w = .ok false w := run_isAgg ha
  have hev : ∀ es, (isAgg t).events P w es = es := fun es => by
    unfold isAggT at ha
    rw [hd] at ha
    cases d <;> simp at ha <;> simp [isAgg, h1, events_underlying]
  constructor
  · simp [execOp, ho, hx, Instr.loadAt, Instr.sureAddr, loadVar, hagg, hc]
  · simp [execOp, ho, hx, Instr.loadAt, Instr.sureAddr, loadVar, hagg, hev, hc, events_load]
theorem seen_quiet1 {P : Program} {fn : FuncId} {ad : Addr} (hq : (P.funcs[fn]?).any (·.norace) = true) : seen P fn #[⟨.cell ad, false, false⟩] = #[] := by
  rw [seen_def]; simp [seenStep, hq]
theorem seen_loud1 {P : Program} {fn : FuncId} {ad : Addr} {wr : Bool} (hq : (P.funcs[fn]?).any (·.norace) = false) : seen P fn #[⟨.cell ad, wr, false⟩] = #[⟨.cell ad, wr, false⟩] := by
  rw [seen_def]; simp [seenStep, hq]
theorem Tk.qload (W : Wk E l b) {t : TypeId} {x : Operand} {ad : Addr} (hq : (E.P.funcs[b.fn]?).any (·.norace) = true) (ho : ops[j]? = some o) (hw : wantE ops env o = some true) (hd : dstOk n o.dst = true) (hop : o.op = .load t x) (ht : isAggT E.P t = some false) (hx : env.ev x = some (.pointer (some ad)))
    (h : ∀ G w₁ u, GI E G w₁ u → (G.th i).live = true → G.th i = l → View l.own w w₁ → ∃ v l' lower, w₁.cell? ad = some v ∧ (∃ G', Did E i G G' w₁ w₁ u l' ∧ Calm E G G' ∧ l'.live = true ∧ (lower = true → G'.Φ E.K E.nj < G.Φ E.K E.nj)) ∧ TkL lower E N i l' w₁ b n (env.put o.dst v) ds (.inRegion ops rest :: k) cs) :
    Tk E N i l w b n env ds (.inRegion ops (j :: rest) :: k) cs := by
  refine Tk.stop W ho hd fun G w₁ u hgi hact hlo hv => ?_
  obtain ⟨v, l', lower, h1, ⟨G', d, c, e, f⟩, h3⟩ := h G w₁ u hgi hact hlo hv
  refine ⟨v, w₁, #[], l', lower, fun a ha _ => ⟨?_, fun fn pos => ⟨G', by simpa [MemOp.ofEvents] using d, .inr c, e, f⟩⟩, h3⟩
  obtain ⟨r1, r2⟩ := exec_load (P := E.P) (a := a) hop (ha.ev hx) ht h1
  rw [stepG_value ho (ha.want hw) W.kind r1]
  unfold listed
  rw [r2, seen_quiet1 hq]
theorem Tk.sload (W : Wk E l b) {t : TypeId} {x : Operand} {ad : Addr} (hq : (E.P.funcs[b.fn]?).any (·.norace) = false) (ho : ops[j]? = some o) (hw : wantE ops env o = some true) (hd : dstOk n o.dst = true) (hop : o.op = .load t x) (ht : isAggT E.P t = some false) (hx : env.ev x = some (.pointer (some ad)))
    (h : ∀ G w₁ u, GI E G w₁ u → (G.th i).live = true → G.th i = l → View l.own w w₁ → ∃ v l' lower, w₁.cell? ad = some v ∧ (∀ fn pos, ∃ G', Did E i G G' w₁ w₁ (u ++ MemOp.ofEvents i fn pos #[⟨.cell ad, false, false⟩]) l' ∧ Calm E G G' ∧ l'.live = true ∧ (lower = true → G'.Φ E.K E.nj < G.Φ E.K E.nj)) ∧ TkL lower E N i l' w₁ b n (env.put o.dst v) ds (.inRegion ops rest :: k) cs) :
    Tk E N i l w b n env ds (.inRegion ops (j :: rest) :: k) cs := by
  refine Tk.stop W ho hd fun G w₁ u hgi hact hlo hv => ?_
  obtain ⟨v, l', lower, h1, h2, h3⟩ := h G w₁ u hgi hact hlo hv
  refine ⟨v, w₁, #[⟨.cell ad, false, false⟩], l', lower, fun a ha _ => ⟨?_, fun fn pos => ?_⟩, h3⟩
  · obtain ⟨r1, r2⟩ := exec_load (P := E.P) (a := a) hop (ha.ev hx) ht h1
    rw [stepG_value ho (ha.want hw) W.kind r1]
    unfold listed
    rw [r2, seen_loud1 hq]
  · obtain ⟨G', d, c, e, f⟩ := h2 fn pos
    exact ⟨G', d, .inr c, e, f⟩
theorem Tk.oload (W : Wk E l b) {t : TypeId} {x : Operand} {ad : Addr} {v : Value} (hrel : l.rel = none) (ho : ops[j]? = some o) (hw : wantE ops env o = some true) (hd : dstOk n o.dst = true) (hop : o.op = .load t x) (ht : isAggT E.P t = some false) (hx : env.ev x = some (.pointer (some ad)))
    (hown : l.own ad.block) (hc : w.cell? ad = some v) (h : Tk E N i l w b n (env.put o.dst v) ds (.inRegion ops rest :: k) cs) :
    Tk E N i l w b n env ds (.inRegion ops (j :: rest) :: k) cs := by
  intro a ha hds
  refine Tr.priv (runs_G _ _) W.ch fun w₁ hv => ?_
  have hc1 : w₁.cell? ad = some v := by
    have := hv.2 _ hown
    rw [(cell_same this).1]; exact hc
  obtain ⟨r1, r2⟩ := exec_load (P := E.P) (a := a) hop (ha.ev hx) ht hc1
  refine ⟨Conc.G (b.at (a.put o.dst v) (.inRegion ops rest :: k)) cs, w₁, _, stepG_value ho (ha.want hw) W.kind r1, rfl, ⟨Nat.le_refl _, fun _ _ _ => rfl, rfl, rfl, rfl, fun e he => ?_⟩, fun hr => absurd hrel hr, ?_⟩
  · unfold listed at he
    rw [r2] at he
    have : e = ⟨.cell ad, false, false⟩ := by
      cases hq : (E.P.funcs[b.fn]?).any (·.norace) with
      | true => rw [seen_quiet1 hq] at he; simp at he
      | false => rw [seen_loud1 hq] at he; simpa using he
    subst this
    exact .inl ⟨ad, false, false, rfl, .inl hown⟩
  · rw [Lo.grow_self]
    exact Tr.view W.fin (h _ (ha.put hd v) (by cases o.dst <;> exact hds)) hv
end
end Go.Co

namespace Go.Co
open Go Go.Conc
open Go.ConcM (OsLater)
open Go.ConcN (sumTo upd sumTo_upd upd_ne upd_same sumTo_congr le_sumTo sumTo_le)
variable {E : Geo} {N i : Nat} {l : Lo} {w : World}
structure WkP (P : Program) (E : Geo) (l : Lo) (b : Frame) : Prop where
  wk : Wk E l b
  hP : E.P = P
def TkO (E : Geo) (N i : Nat) (l : Lo) (w : World) (b : Frame) (n : Nat) (env : Nv) (ds : List Deferred) (ops : Array Oper) (j : Nat) (k : List Item) (cs : List Frame) : Prop :=
  Tk E N i l w b n env ds (.inRegion ops (List.range' j (ops.size - j)) :: k) cs
section
variable {P : Program} {b : Frame} {n : Nat} {env : Nv} {ds : List Deferred} {k : List Item} {cs : List Frame}
variable {ops : Array Oper} {j : Nat} {o : Oper} {f : FuncId} {ats : Array TypeId}
theorem Tk.reg (W : WkP P E l b) {x : Nat} (h : TkO E N i l w b n env ds ops 0 k cs) : Tk E N i l w b n env ds (.code (.region x ops false) :: k) cs := by
  refine Tk.region W.wk ?_
  have e : List.range ops.size = List.range' 0 (ops.size - 0) := by rw [List.range_eq_range']; rfl
  rw [e]; exact h
theorem TkO.open (ho : ops[j]? = some o) (h : Tk E N i l w b n env ds (.inRegion ops (j :: List.range' (j + 1) (ops.size - (j + 1))) :: k) cs) : TkO E N i l w b n env ds ops j k cs := by
  have hlt := (Array.getElem?_eq_some_iff.1 ho).1
  unfold TkO
  rw [show ops.size - j = (ops.size - (j + 1)) + 1 by omega, List.range'_succ]
  exact h
theorem TkO.done (W : WkP P E l b) (ho : ops[j]? = none) (h : Tk E N i l w b n env ds k cs) : TkO E N i l w b n env ds ops j k cs := by
  have hge := Array.getElem?_eq_none_iff.1 ho
  unfold TkO
  rw [show ops.size - j = 0 by omega]
  exact Tk.regionEnd W.wk h
theorem TkO.pure (W : WkP P E l b) {v : Value} (ho : ops[j]? = some o) (hw : wantE ops env o = some true) (hd : dstOk n o.dst = true) (hp : PureOp P env o v) (h : TkO E N i l w b n (env.put o.dst v) ds ops (j + 1) k cs) : TkO E N i l w b n env ds ops j k cs :=
  TkO.open ho (Tk.pure W.wk ho hw hd (by rw [W.hP]; exact hp) h)
theorem TkO.unwanted (W : WkP P E l b) (ho : ops[j]? = some o) (hw : wantE ops env o = some false) (hd : dstOk n o.dst = true) (h : TkO E N i l w b n (env.put o.dst undef) ds ops (j + 1) k cs) : TkO E N i l w b n env ds ops j k cs :=
  TkO.open ho (Tk.unwanted W.wk ho hw hd h)
theorem TkO.call (W : WkP P E l b) {xs : Array Operand} {vs : List Value} {nt : Nat} {c : Code} {rs : Array ResultVar} (ho : ops[j]? = some o) (hw : wantE ops env o = some true) (hd : dstOk n o.dst = true) (hop : o.op = .call { callee := .value (.func f), args := xs, argTypes := ats }) (hb : Bod P f nt c rs)
    (hx : evsA env xs.toList = some vs) (h : ∀ fr : Frame, (∀ l' w' v, TkO E N i l' w' b n (env.put o.dst v) ds ops (j + 1) k cs → Tr E N i l' (Conc.G (fr.finish v) cs) w') → Tr E N i l (Conc.G (Frame.enter P f vs.toArray .normal) (fr :: cs)) w) :
    TkO E N i l w b n env ds ops j k cs :=
  TkO.open ho (Tk.call W.wk ho hw hd hop (by rw [W.hP]; exact hb) hx (by rw [W.hP]; exact h))
theorem Tr.enterP (hP : E.P = P) {nt : Nat} {c : Code} {rs : Array ResultVar} {args : Array Value} (hb : Bod P f nt c rs) (ha : args.size ≤ nt) (h : Tk E N i l w (base f) nt (argsEnv args.toList 0) [] [.code c] cs) : Tr E N i l (Conc.G (Frame.enter P f args .normal) cs) w := by
  subst hP; exact Tr.enter hb ha h
theorem TkO.defer (W : WkP P E l b) {xs : Array Operand} {vs : List Value} (ho : ops[j]? = some o) (hw : wantE ops env o = some true) (hd : dstOk n o.dst = true) (hop : o.op = .defer { callee := .value (.func f), args := xs, argTypes := ats }) (hx : evsA env xs.toList = some vs)
    (h : TkO E N i l w b n (env.put o.dst undef) (dcall f vs.toArray :: ds) ops (j + 1) k cs) : TkO E N i l w b n env ds ops j k cs :=
  TkO.open ho (Tk.defer W.wk ho hw hd hop hx h)
theorem TkO.pureS (W : WkP P E l b) {v : Value} {d : Nat} (ho : ops[j]? = some o) (hw : wantE ops env o = some true) (hdd : o.dst = some d) (hd : Nat.blt d n = true) (hp : PureOp P env o v) (h : TkO E N i l w b n ((d, v) :: env) ds ops (j + 1) k cs) : TkO E N i l w b n env ds ops j k cs :=
  TkO.pure W ho hw (by rw [hdd]; exact hd) hp (by rw [hdd]; exact h)
theorem TkO.unwantedS (W : WkP P E l b) {d : Nat} (ho : ops[j]? = some o) (hw : wantE ops env o = some false) (hdd : o.dst = some d) (hd : Nat.blt d n = true) (h : TkO E N i l w b n ((d, undef) :: env) ds ops (j + 1) k cs) : TkO E N i l w b n env ds ops j k cs :=
  TkO.unwanted W ho hw (by rw [hdd]; exact hd) (by rw [hdd]; exact h)
theorem TkO.lay {env' : Nv} (e : env = env') (h : TkO E N i l w b n env' ds ops j k cs) : TkO E N i l w b n env ds ops j k cs := e ▸ h
theorem Tk.lay {env' : Nv} (e : env = env') (h : Tk E N i l w b n env' ds k cs) : Tk E N i l w b n env ds k cs := e ▸ h
def TkOL (lower : Bool) (E : Geo) (N i : Nat) (l : Lo) (w : World) (b : Frame) (n : Nat) (env : Nv) (ds : List Deferred) (ops : Array Oper) (j : Nat) (k : List Item) (cs : List Frame) : Prop :=
  TkL lower E N i l w b n env ds (.inRegion ops (List.range' j (ops.size - j)) :: k) cs
theorem TkOL.same (h : TkO E N i l w b n env ds ops j k cs) : TkOL false E N i l w b n env ds ops j k cs := TkL.same h
theorem TkO.aload (W : WkP P E l b) {x : Operand} {kk : IntKind} {ad : Addr} (ho : ops[j]? = some o) (hw : wantE ops env o = some true) (hd : dstOk n o.dst = true) (hop : o.op = .call { callee := .value (.func f), args := #[x], argTypes := ats }) (he : Ent P f (Extern.Atomic.loadT (.int kk))) (hx : env.ev x = some (.pointer (some ad)))
    (h : ∀ G w₁ t, GI E G w₁ t → (G.th i).live = true → G.th i = l → View l.own w w₁ → ∃ v l' lower, w₁.cell? ad = some (.int kk v) ∧ Goes1 E i G w₁ w₁ t #[⟨.cell ad, false, true⟩] l' true lower ∧ TkOL lower E N i l' w₁ b n (env.put o.dst (.int kk v)) ds ops (j + 1) k cs) :
    TkO E N i l w b n env ds ops j k cs := TkO.open ho (Tk.aload W.wk ho hw hd hop (by rw [W.hP]; exact he) hx h)
theorem TkO.astore (W : WkP P E l b) {x y : Operand} {kk : IntKind} {ad : Addr} {v : Int} (ho : ops[j]? = some o) (hw : wantE ops env o = some true) (hd : dstOk n o.dst = true) (hop : o.op = .call { callee := .value (.func f), args := #[x, y], argTypes := ats }) (he : Ent P f Extern.Atomic.storeT) (hx : env.ev x = some (.pointer (some ad))) (hy : env.ev y = some (.int kk v))
    (h : ∀ G w₁ t, GI E G w₁ t → (G.th i).live = true → G.th i = l → View l.own w w₁ → ∃ u l' lower, w₁.cell? ad = some u ∧ w₁.frozen? ad = false ∧ Goes1 E i G w₁ (w₁.setCell ad (.int kk v)) t #[⟨.cell ad, true, true⟩] l' true lower ∧ TkOL lower E N i l' (w₁.setCell ad (.int kk v)) b n (env.put o.dst (.tuple #[])) ds ops (j + 1) k cs) :
    TkO E N i l w b n env ds ops j k cs := TkO.open ho (Tk.astore W.wk ho hw hd hop (by rw [W.hP]; exact he) hx hy h)
theorem TkO.aadd (W : WkP P E l b) {x y : Operand} {kk : IntKind} {ad : Addr} {d : Int} (ho : ops[j]? = some o) (hw : wantE ops env o = some true) (hd : dstOk n o.dst = true) (hop : o.op = .call { callee := .value (.func f), args := #[x, y], argTypes := ats }) (he : Ent P f (Extern.Atomic.update (Op.intArith .add) kk true)) (hx : env.ev x = some (.pointer (some ad))) (hy : env.ev y = some (.int kk d))
    (h : ∀ G w₁ t, GI E G w₁ t → (G.th i).live = true → G.th i = l → View l.own w w₁ → ∃ v l' lower, w₁.cell? ad = some (.int kk v) ∧ w₁.frozen? ad = false ∧ Goes1 E i G w₁ (w₁.setCell ad (.int kk (kk.wrap (v + d)))) t (rw2 ad) l' true lower ∧
      TkOL lower E N i l' (w₁.setCell ad (.int kk (kk.wrap (v + d)))) b n (env.put o.dst (.int kk (kk.wrap (v + d)))) ds ops (j + 1) k cs) :
    TkO E N i l w b n env ds ops j k cs := TkO.open ho (Tk.aadd W.wk ho hw hd hop (by rw [W.hP]; exact he) hx hy h)
theorem TkO.cas (W : WkP P E l b) {x y z : Operand} {kk : IntKind} {ad : Addr} {v0 v1 : Int} (ho : ops[j]? = some o) (hw : wantE ops env o = some true) (hd : dstOk n o.dst = true) (hop : o.op = .call { callee := .value (.func f), args := #[x, y, z], argTypes := ats }) (he : Ent P f (Extern.Atomic.casT (.int kk)))
    (hx : env.ev x = some (.pointer (some ad))) (hy : env.ev y = some (.int kk v0)) (hz : env.ev z = some (.int kk v1))
    (h : ∀ G w₁ t, GI E G w₁ t → (G.th i).live = true → G.th i = l → View l.own w w₁ → ∃ v l' lower, w₁.cell? ad = some (.int kk v) ∧ w₁.frozen? ad = false ∧
      ((v = v0 ∧ Goes1 E i G w₁ (w₁.setCell ad (.int kk v1)) t (rw2 ad) l' true lower ∧ TkOL lower E N i l' (w₁.setCell ad (.int kk v1)) b n (env.put o.dst (.bool true)) ds ops (j + 1) k cs) ∨
       (v ≠ v0 ∧ Goes1 E i G w₁ w₁ t #[⟨.cell ad, false, true⟩] l' true lower ∧ TkOL lower E N i l' w₁ b n (env.put o.dst (.bool false)) ds ops (j + 1) k cs))) :
    TkO E N i l w b n env ds ops j k cs := TkO.open ho (Tk.cas W.wk ho hw hd hop (by rw [W.hP]; exact he) hx hy hz h)
theorem TkO.mark0 (W : WkP P E l b) {m : Mark} (hm : ∀ g, m ≠ .extern g) {xs : Array Operand} (ho : ops[j]? = some o) (hw : wantE ops env o = some true) (hd : dstOk n o.dst = true) (hop : o.op = .call { callee := .value (.func f), args := xs, argTypes := ats }) (he : Ent P f (fun _ => do mark m; Pure.pure Extern.Race.none_))
    (h : ∀ G w₁ t, GI E G w₁ t → (G.th i).live = true → G.th i = l → View l.own w w₁ → ∃ l' lower, Goes1 E i G w₁ w₁ t #[⟨.mark m, false, true⟩] l' true lower ∧ TkOL lower E N i l' w₁ b n (env.put o.dst (.tuple #[])) ds ops (j + 1) k cs) :
    TkO E N i l w b n env ds ops j k cs := TkO.open ho (Tk.mark0 W.wk hm ho hw hd hop (by rw [W.hP]; exact he) h)
theorem TkO.markAt (W : WkP P E l b) {mk : Addr → Mark} (hm : ∀ ad g, mk ad ≠ .extern g) {x : Operand} {ad : Addr} (ho : ops[j]? = some o) (hw : wantE ops env o = some true) (hd : dstOk n o.dst = true) (hop : o.op = .call { callee := .value (.func f), args := #[x], argTypes := ats }) (he : Ent P f (Extern.Race.marked mk)) (hx : env.ev x = some (.pointer (some ad)))
    (h : ∀ G w₁ t, GI E G w₁ t → (G.th i).live = true → G.th i = l → View l.own w w₁ → ∃ l' lower, Goes1 E i G w₁ w₁ t #[⟨.mark (mk ad), false, true⟩] l' true lower ∧ TkOL lower E N i l' w₁ b n (env.put o.dst (.tuple #[])) ds ops (j + 1) k cs) :
    TkO E N i l w b n env ds ops j k cs := TkO.open ho (Tk.markAt W.wk hm ho hw hd hop (by rw [W.hP]; exact he) hx h)
theorem TkO.semrel (W : WkP P E l b) {x y z : Operand} {ad : Addr} (ho : ops[j]? = some o) (hw : wantE ops env o = some true) (hd : dstOk n o.dst = true) (hop : o.op = .call { callee := .value (.func f), args := #[x, y, z], argTypes := ats }) (he : Ent P f Extern.Sync.semrelease) (hx : env.ev x = some (.pointer (some ad)))
    (h : ∀ G w₁ t, GI E G w₁ t → (G.th i).live = true → G.th i = l → View l.own w w₁ → ∃ v l' lower, w₁.cell? ad = some (.int .u32 v) ∧ w₁.frozen? ad = false ∧ Goes1 E i G w₁ (w₁.setCell ad (.int .u32 (IntKind.u32.wrap (v + 1)))) t (semEvents ad) l' true lower ∧ TkOL lower E N i l' (w₁.setCell ad (.int .u32 (IntKind.u32.wrap (v + 1)))) b n (env.put o.dst (.tuple #[])) ds ops (j + 1) k cs) :
    TkO E N i l w b n env ds ops j k cs := TkO.open ho (Tk.semrel W.wk ho hw hd hop (by rw [W.hP]; exact he) hx h)
theorem TkO.semacq (W : WkP P E l b) {xs : Array Operand} {x : Operand} {ad : Addr} (hxs : xs[0]? = some x) (ho : ops[j]? = some o) (hw : wantE ops env o = some true) (hd : dstOk n o.dst = true) (hop : o.op = .call { callee := .value (.func f), args := xs, argTypes := ats }) (he : Ent P f Extern.Sync.semacquire) (hx : env.ev x = some (.pointer (some ad)))
    (h : ∀ G w₁ t, GI E G w₁ t → (G.th i).live = true → G.th i = l → View l.own w w₁ → ∃ v : Int, w₁.cell? ad = some (.int .u32 v) ∧ w₁.frozen? ad = false ∧ ((v = 0 ∧ G.PK E i) ∨ (v ≠ 0 ∧ ∃ l', Goes1 E i G w₁ (w₁.setCell ad (.int .u32 (v - 1))) t (semEvents ad) l' true false ∧ TkO E N i l' (w₁.setCell ad (.int .u32 (v - 1))) b n (env.put o.dst (.tuple #[])) ds ops (j + 1) k cs))) :
    TkO E N i l w b n env ds ops j k cs := TkO.open ho (Tk.semacq W.wk hxs ho hw hd hop (by rw [W.hP]; exact he) hx h)
theorem TkO.qload (W : WkP P E l b) {t : TypeId} {x : Operand} {ad : Addr} (hq : (P.funcs[b.fn]?).any (·.norace) = true) (ho : ops[j]? = some o) (hw : wantE ops env o = some true) (hd : dstOk n o.dst = true) (hop : o.op = .load t x) (ht : isAggT P t = some false) (hx : env.ev x = some (.pointer (some ad)))
    (h : ∀ G w₁ u, GI E G w₁ u → (G.th i).live = true → G.th i = l → View l.own w w₁ → ∃ v l' lower, w₁.cell? ad = some v ∧ (∃ G', Did E i G G' w₁ w₁ u l' ∧ Calm E G G' ∧ l'.live = true ∧ (lower = true → G'.Φ E.K E.nj < G.Φ E.K E.nj)) ∧ TkOL lower E N i l' w₁ b n (env.put o.dst v) ds ops (j + 1) k cs) :
    TkO E N i l w b n env ds ops j k cs := TkO.open ho (Tk.qload W.wk (by rw [W.hP]; exact hq) ho hw hd hop (by rw [W.hP]; exact ht) hx h)
theorem TkO.entV (W : WkP P E l b) {xs : Array Operand} {e : Array Value → Sem Value} {v : Value} (_hlive : l.live = true) (_hrel : l.rel = none ∨ True) (ho : ops[j]? = some o) (hw : wantE ops env o = some true) (hd : dstOk n o.dst = true) (hop : o.op = .call { callee := .value (.func f), args := xs, argTypes := ats }) (he : Ent P f e) (hv : ∀ vs, e vs = Pure.pure v)
    (h : TkO E N i l w b n (env.put o.dst v) ds ops (j + 1) k cs) : TkO E N i l w b n env ds ops j k cs := by
  refine TkO.open ho ?_
  intro a ha hds
  obtain ⟨fn, f1, f2, f3, f4, f5⟩ := he.out
  refine Tr.still W.wk.fin (runs_G _ _) (g' := Conc.G (b.at (a.put o.dst v) (.inRegion ops (List.range' (j + 1) (ops.size - (j + 1))) :: k)) cs) rfl W.wk.ch (fun w₁ _ => ?_) (h _ (ha.put hd v) (by cases o.dst <;> exact hds))
  exact stepG_entry ho (ha.want hw) W.wk.kind hop (by rw [W.hP]; exact f1) f2 f3 f4 f5 (by rw [hv]; rfl) (by rw [hv]; simp) (by simp)
end
theorem Did.id {G : Gh} {t : Trace} (h : GI E G w t) : Did E i G G w w t (G.th i) := ⟨h, rfl, fun _ _ => rfl, rfl, fun _ _ _ => View.refl _ _, Nat.le_refl _⟩
theorem Calm.id (G : Gh) : Calm E G G := ⟨fun _ h => h, rfl⟩
end Go.Co

namespace Go.Co
open Go Go.Conc
open Go.ConcM (OsLater)
open Go.ConcN (sumTo upd sumTo_upd upd_ne upd_same sumTo_congr le_sumTo sumTo_le)
variable {E : Geo} {N i : Nat} {l : Lo} {w : World}
theorem exec_conv {P : Program} {a : Act} {o : Oper} {s d te : TypeId} {x : Operand} {ad : Addr} {v : Value} {w : World} (ho : o.op = .convert s d x) (hx : a.eval x = .pointer (some ad)) (hs : P.underlying s = some (.pointer te)) (hd : P.underlying d = some .unsafePointer) (hz : P.cellsOf te ≠ 0) (hc : w.cell? ad = some v) :
    (execOp a.eval o).run P w = .ok (.value (.pointer (some ad))) w ∧ (execOp a.eval o).events P w #[] = #[] := by
  have h1 := run_underlying hs w
  have h2 := run_underlying hd w
  have hi : ∃ i, P.info? te = some i := by
    unfold Program.cellsOf at hz
    cases hi : P.info? te with
    | none => simp [hi] at hz
    | some i => exact ⟨i, rfl⟩
  obtain ⟨inf, hi⟩ := hi
  have h3 := sizeOf_run hi w
  have hcell : ∃ c e f, w.heap[ad.block]? = some (.cells c e f) ∧ ad.off < c.size := by
    unfold World.cell? at hc
    split at hc
    · rename_i c e f hh
      split at hc
      · cases hc
      · exact ⟨c, e, f, hh, (Array.getElem?_eq_some_iff.1 hc).1⟩
    · cases hc
  obtain ⟨c, e, f, hh, hlt⟩ := hcell
  have hshape : w.shape? ad.block = some (e, c.size) := by unfold World.shape?; rw [hh]
  have hsh : (shape ad.block).run P w = .ok (some (e, c.size)) w ∧ ∀ es, (shape ad.block).events P w es = es := by
    constructor
    · simp [shape, Sem.run, hshape]
    · intro es; simp [shape, Sem.events, Sem.runT, hshape]
  have hv : (viewAt ad.block).run P w = .ok none w ∧ ∀ es, (viewAt ad.block).events P w es = es := by
    constructor
    · simp [viewAt, hsh.1]
    · intro es; simp [viewAt, hsh.1, hsh.2]
  have hcI : (cellsIn ad.block).run P w = .ok (some c.size) w ∧ ∀ es, (cellsIn ad.block).events P w es = es := by
    constructor
    · simp [cellsIn, hsh.1]
    · intro es; simp [cellsIn, hsh.1, hsh.2]
  have hsp : ¬ (ad.off ≥ c.size) := by omega
  constructor
  · simp [execOp, ho, hx, convert, h1, h2, Conv.unsafePointer, Conv.seenAt, hv.1, hcI.1, h3, hz]
    intro x; omega
  · simp [execOp, ho, hx, convert, h1, h2, Conv.unsafePointer, Conv.seenAt, hv.1, hv.2, hcI.1, hcI.2, h3, events_underlying, events_sizeOf]
section
variable {P : Program} {b : Frame} {n : Nat} {env : Nv} {ds : List Deferred} {k : List Item} {cs : List Frame}
variable {ops : Array Oper} {j : Nat} {o : Oper}
theorem TkO.conv (W : WkP P E l b) {s d te : TypeId} {x : Operand} {y : SC} {dd : Nat} (hy : y.ok E.K) (hlive : l.live = true) (ho : ops[j]? = some o) (hw : wantE ops env o = some true) (hdd : o.dst = some dd) (hd : Nat.blt dd n = true) (hop : o.op = .convert s d x) (hs : P.underlying s = some (.pointer te)) (hu : P.underlying d = some .unsafePointer) (hz : P.cellsOf te ≠ 0)
    (hx : env.ev x = some (.pointer (some (E.sc y)))) (h : TkO E N i l w b n ((dd, .pointer (some (E.sc y))) :: env) ds ops (j + 1) k cs) : TkO E N i l w b n env ds ops j k cs := by
  refine TkO.open ho (Tk.stop W.wk ho (by rw [hdd]; exact hd) fun G w₁ t hg hact hlo hv => ?_)
  refine ⟨.pointer (some (E.sc y)), w₁, #[], l, false, fun a ha _ => ⟨?_, fun fn pos => ⟨G, ?_, .inr (Calm.id G), hlive, fun e => by cases e⟩⟩, TkL.same ?_⟩
  · obtain ⟨r1, r2⟩ := exec_conv (P := E.P) (a := a) hop (ha.ev hx) (by rw [W.hP]; exact hs) (by rw [W.hP]; exact hu) (by rw [W.hP]; exact hz) (hg.m.sync y hy).1
    rw [stepG_value ho (ha.want hw) W.wk.kind r1]
    unfold listed
    rw [r2, seen_none]
  · have := Did.id (i := i) hg
    rw [hlo] at this
    simpa [MemOp.ofEvents] using this
  · have := fun a ha hds => (h a ha hds).view W.wk.fin hv
    intro a ha hds
    refine this a ?_ hds
    rw [hdd] at ha; exact ha
end
end Go.Co

namespace Go.Co.F1
open Go Go.Conc Go.Proofs
open Go.Co
variable {E : Geo} {N i : Nat} {l : Lo} {w : World}
noncomputable def c50 : Code := (Try.f50.body).getD .skip
theorem b50 : Bod Try.prog 50 8 c50 #[.tmp 2] := ⟨Try.f50, Try.func50, by decide +kernel, rfl, rfl, rfl⟩
theorem e52 : Ent Try.prog 52 (Extern.Atomic.loadT (.int .u32)) := ⟨Try.f52, Try.func52, by decide +kernel, rfl, by rfl, by rfl⟩
end Go.Co.F1

namespace Go.Co.F1
open Go Go.Conc Go.Proofs
open Go.Co
variable {E : Geo} {N i : Nat} {l : Lo} {w : World}
set_option maxRecDepth 10000
end Go.Co.F1

namespace Go.Co.F1
open Go Go.Conc Go.Proofs
open Go.Co
theorem small_lift {p : Nat → Bool → Bool → Bool → Prop} (h : ∀ (q : Fin 64) (l w s : Bool), p q.val l w s) {q : Nat} (hq : q < 64) (l w s : Bool) : p q l w s := h ⟨q, hq⟩ l w s
def isI (r : Option Value) (n : Int) : Bool := match r with
  | some (.int .i32 m) => m == n
  | _ => false
theorem isI_eq {r : Option Value} {n : Int} (h : isI r n = true) : r = some (.int .i32 n) := by
  unfold isI at h
  split at h
  · rename_i m; simp at h; rw [h]
  · cases h
def enc4 (q : Nat) (l w s : Bool) : Int := ((l.toNat + 2 * w.toNat + 4 * s.toNat + 8 * q : Nat) : Int)
theorem enc_eq (x : Wd) : x.enc = enc4 x.q x.l x.w x.s := rfl
theorem bit5 {x : Wd} (h : x.q < 64) : intV .and .i32 x.enc 5 = some (.int .i32 (x.l.toNat + 4 * x.s.toNat : Nat)) := by
  rw [enc_eq]; exact isI_eq (small_lift (p := fun q l w s => isI (intV .and .i32 (enc4 q l w s) 5) ((l.toNat + 4 * s.toNat : Nat )) = true) (by decide +kernel) h _ _ _)
theorem bit1 {x : Wd} (h : x.q < 64) : intV .and .i32 x.enc 1 = some (.int .i32 (x.l.toNat : Nat)) := by
  rw [enc_eq]; exact isI_eq (small_lift (p := fun q l w s => isI (intV .and .i32 (enc4 q l w s) 1) ((l.toNat : Nat )) = true) (by decide +kernel) h _ _ _)
theorem bit2 {x : Wd} (h : x.q < 64) : intV .and .i32 x.enc 2 = some (.int .i32 (2 * x.w.toNat : Nat)) := by
  rw [enc_eq]; exact isI_eq (small_lift (p := fun q l w s => isI (intV .and .i32 (enc4 q l w s) 2) ((2 * w.toNat : Nat )) = true) (by decide +kernel) h _ _ _)
theorem bit3 {x : Wd} (h : x.q < 64) : intV .and .i32 x.enc 3 = some (.int .i32 (x.l.toNat + 2 * x.w.toNat : Nat)) := by
  rw [enc_eq]; exact isI_eq (small_lift (p := fun q l w s => isI (intV .and .i32 (enc4 q l w s) 3) ((l.toNat + 2 * w.toNat : Nat )) = true) (by decide +kernel) h _ _ _)
theorem bit4 {x : Wd} (h : x.q < 64) : intV .and .i32 x.enc 4 = some (.int .i32 (4 * x.s.toNat : Nat)) := by
  rw [enc_eq]; exact isI_eq (small_lift (p := fun q l w s => isI (intV .and .i32 (enc4 q l w s) 4) ((4 * s.toNat : Nat )) = true) (by decide +kernel) h _ _ _)
theorem bit7 {x : Wd} (h : x.q < 64) : intV .and .i32 x.enc 7 = some (.int .i32 (x.l.toNat + 2 * x.w.toNat + 4 * x.s.toNat : Nat)) := by
  rw [enc_eq]; exact isI_eq (small_lift (p := fun q l w s => isI (intV .and .i32 (enc4 q l w s) 7) ((l.toNat + 2 * w.toNat + 4 * s.toNat : Nat )) = true) (by decide +kernel) h _ _ _)
theorem shr3 {x : Wd} (h : x.q < 64) : shiftV .shr .i32 x.enc 3 = some (.int .i32 (x.q : Nat)) := by
  rw [enc_eq]; exact isI_eq (small_lift (p := fun q l w s => isI (shiftV .shr .i32 (enc4 q l w s) 3) ((q : Nat )) = true) (by decide +kernel) h _ _ _)
theorem or1 {x : Wd} (h : x.q < 64) : intV .or .i32 x.enc 1 = some (.int .i32 (Wd.enc { x with l := true })) := by
  rw [enc_eq]; exact isI_eq (small_lift (p := fun q l w s => isI (intV .or .i32 (enc4 q l w s) 1) (enc4 q true w s) = true) (by decide +kernel) h _ _ _)
theorem or2 {x : Wd} (h : x.q < 64) : intV .or .i32 x.enc 2 = some (.int .i32 (Wd.enc { x with w := true })) := by
  rw [enc_eq]; exact isI_eq (small_lift (p := fun q l w s => isI (intV .or .i32 (enc4 q l w s) 2) (enc4 q l true s) = true) (by decide +kernel) h _ _ _)
theorem or4 {x : Wd} (h : x.q < 64) : intV .or .i32 x.enc 4 = some (.int .i32 (Wd.enc { x with s := true })) := by
  rw [enc_eq]; exact isI_eq (small_lift (p := fun q l w s => isI (intV .or .i32 (enc4 q l w s) 4) (enc4 q l w true) = true) (by decide +kernel) h _ _ _)
theorem clr2 {x : Wd} (h : x.q < 64) : intV .andNot .i32 x.enc 2 = some (.int .i32 (Wd.enc { x with w := false })) := by
  rw [enc_eq]; exact isI_eq (small_lift (p := fun q l w s => isI (intV .andNot .i32 (enc4 q l w s) 2) (enc4 q l false s) = true) (by decide +kernel) h _ _ _)
theorem add8 {x : Wd} (h : x.q < 64) : intV .add .i32 x.enc 8 = some (.int .i32 (Wd.enc { x with q := x.q + 1 })) := by
  rw [enc_eq]; exact isI_eq (small_lift (p := fun q l w s => isI (intV .add .i32 (enc4 q l w s) 8) (enc4 (q + 1) l w s) = true) (by decide +kernel) h _ _ _)
theorem sub8 {x : Wd} (h : x.q < 64) (h0 : 0 < x.q) : intV .sub .i32 x.enc 8 = some (.int .i32 (Wd.enc { x with q := x.q - 1 })) := by
  rw [enc_eq]
  exact isI_eq (small_lift (p := fun q l w s => 0 < q → isI (intV .sub .i32 (enc4 q l w s) 8) (enc4 (q - 1) l w s) = true) (by decide +kernel) h _ _ _ h0)
theorem subL {x : Wd} (h : x.q < 64) (hl : x.l = true) : IntKind.i32.wrap (x.enc + -1) = Wd.enc { x with l := false } := by
  rw [enc_eq, hl]
  exact small_lift (p := fun q l w s => IntKind.i32.wrap (enc4 q true w s + -1) = enc4 q false w s) (by decide +kernel) h x.l _ _
theorem handD {x : Wd} (h : x.q < 64) (h1 : x.l = false) (h2 : x.w = false) (h3 : x.s = true) (h4 : 1 ≤ x.q) (c : Bool) : IntKind.i32.wrap (x.enc + (if c then -11 else -7)) = Wd.enc ⟨true, false, !c, x.q - 1⟩ := by
  rw [enc_eq, h1, h2, h3]
  cases c with
  | true => exact small_lift (p := fun q l w s => 1 ≤ q → IntKind.i32.wrap (enc4 q false false true + -11) = enc4 (q - 1) true false false) (by decide +kernel) h x.l x.w x.s h4
  | false => exact small_lift (p := fun q l w s => 1 ≤ q → IntKind.i32.wrap (enc4 q false false true + -7) = enc4 (q - 1) true false true) (by decide +kernel) h x.l x.w x.s h4
end Go.Co.F1

namespace Go.Co.F1
open Go Go.Conc Go.Proofs
open Go.Co
variable {E : Geo} {N i : Nat} {l : Lo} {w : World}
set_option maxRecDepth 10000
noncomputable def c56 : Code := (Try.f56.body).getD .skip
theorem b56 : Bod Try.prog 56 13 c56 #[] := ⟨Try.f56, Try.func56, by decide +kernel, rfl, rfl, rfl⟩
noncomputable def c61 : Code := (Try.f61.body).getD .skip
theorem b61 : Bod Try.prog 61 139 c61 #[] := ⟨Try.f61, Try.func61, by decide +kernel, rfl, rfl, rfl⟩
theorem e26 : Ent Try.prog 26 (fun _ => do mark .disable; Pure.pure Extern.Race.none_) := ⟨Try.f26, Try.func26, by decide +kernel, rfl, by rfl, by rfl⟩
theorem e27 : Ent Try.prog 27 (fun _ => do mark .enable; Pure.pure Extern.Race.none_) := ⟨Try.f27, Try.func27, by decide +kernel, rfl, by rfl, by rfl⟩
theorem e38 : Ent Try.prog 38 (Extern.Race.marked .acquire) := ⟨Try.f38, Try.func38, by decide +kernel, rfl, by rfl, by rfl⟩
theorem e25 : Ent Try.prog 25 (Extern.Race.marked .releaseMerge) := ⟨Try.f25, Try.func25, by decide +kernel, rfl, by rfl, by rfl⟩
theorem e60 : Ent Try.prog 60 (Extern.Atomic.casT (.int .i32)) := ⟨Try.f60, Try.func60, by decide +kernel, rfl, by rfl, by rfl⟩
theorem e62 : Ent Try.prog 62 (Extern.Atomic.update (Op.intArith .add) .i32 true) := ⟨Try.f62, Try.func62, by decide +kernel, rfl, by rfl, by rfl⟩
def _root_.Go.Co.Lo.hear (l : Lo) (d : Nat) : Lo := { l with deaf := d }
theorem goes_off {G : Gh} {t : Trace} (h : GI E G w t) (hi : (G.th i).live = true) (hlo : G.th i = l) : Goes1 E i G w w t #[⟨.mark .disable, false, true⟩] (l.hear (l.deaf + 1)) true false := by
  subst hlo
  intro fn pos
  obtain ⟨G', d, c⟩ := h.says (w' := w) (es := #[⟨.mark .disable, false, true⟩]) fn pos hi (by intro e he; simp at he; subst he; exact sev_off) rfl rfl rfl (Go.ConcM.OsLater.refl _) (.inr fun j e hj => .inl (by
    have := Array.mem_of_getElem? hj
    simp at this; subst this; rfl))
  exact ⟨G', d, .inl rfl, hi, fun e => by cases e⟩
theorem goes_on {G : Gh} {t : Trace} {d : Nat} (h : GI E G w t) (hi : (G.th i).live = true) (hlo : G.th i = l) (hd : l.deaf = d + 1) : Goes1 E i G w w t #[⟨.mark .enable, false, true⟩] (l.hear d) true false := by
  subst hlo
  intro fn pos
  obtain ⟨G', dd, c⟩ := h.says (w' := w) (es := #[⟨.mark .enable, false, true⟩]) fn pos hi (by intro e he; simp at he; subst he; exact sev_on) rfl rfl rfl (Go.ConcM.OsLater.refl _) (.inr fun j e hj => .inl (by
    have := Array.mem_of_getElem? hj
    simp at this; subst this; rfl))
  have e : deafBehind (G.th i).deaf #[⟨.mark .enable, false, true⟩] = d := by rw [hd]; rfl
  rw [e] at dd
  exact ⟨G', dd, .inl rfl, hi, fun e => by cases e⟩
theorem goes_say {G : Gh} {t : Trace} {x : SC} {m : Mark} (hx : x.ok E.K) (hm : m = .acquire (E.sc x) ∨ m = .releaseMerge (E.sc x)) (h : GI E G w t) (hi : (G.th i).live = true) (hlo : G.th i = l) : Goes1 E i G w w t #[⟨.mark m, false, true⟩] l true false := by
  subst hlo
  intro fn pos
  have ht : (MemAct.mark m).touch? = none := by rcases hm with rfl | rfl <;> rfl
  obtain ⟨G', dd, c⟩ := h.says (w' := w) (es := #[⟨.mark m, false, true⟩]) fn pos hi (by
    intro e he; simp at he; subst he
    refine mem_mark ht (fun a => ?_) fun B _ hb => ?_
    · rcases hm with rfl | rfl <;> simp
    · rcases hm with rfl | rfl <;> exact hb x hx) rfl rfl rfl (Go.ConcM.OsLater.refl _) (.inr fun j e hj => .inl (by
    have := Array.mem_of_getElem? hj
    simp at this; subst this; exact ht))
  have e : ({ G.th i with deaf := deafBehind (G.th i).deaf #[⟨.mark m, false, true⟩] } : Lo) = G.th i := by
    have : deafBehind (G.th i).deaf #[⟨.mark m, false, true⟩] = (G.th i).deaf := by rcases hm with rfl | rfl <;> rfl
    rw [this]
  rw [e] at dd
  exact ⟨G', dd, .inl rfl, hi, fun e => by cases e⟩
structure Lk (E : Geo) (i k : Nat) (l : Lo) (r : Option Ro) : Prop where
  i0 : i ≠ 0
  kK : k < E.K
  live : l.live = true
  mr : l.mr = r.map (k, ·)
  ch : l.ch = .no
  gr : l.gr = .out
  rel : l.rel = none
  run : l.run = none
theorem Lk.at {k : Nat} {r : Option Ro} {G : Gh} (h : Lk E i k l r) (hlo : G.th i = l) (hp : l.pas k = false ∨ ∃ r', r = some r') : AtMu E G i k r := by
  subst hlo; exact ⟨h.live, h.i0, h.kK, h.mr, h.ch, h.gr, h.rel, hp⟩
theorem Lk.hear {k d : Nat} {r : Option Ro} (h : Lk E i k l r) : Lk E i k (l.hear d) r := ⟨h.i0, h.kK, h.live, h.mr, h.ch, h.gr, h.rel, h.run⟩
theorem Lk.mu {k : Nat} {r b : Option Ro} {o : Option Wd} (h : Lk E i k l r) : Lk E i k (l.mu k b o) b := ⟨h.i0, h.kK, h.live, rfl, h.ch, h.gr, h.rel, h.run⟩
structure OnceAt (E : Geo) (k B o : Nat) : Prop where
  d : E.sc (.done k) = ⟨B, o, none⟩
  m : E.sc (.word k) = ⟨B, o + 1, none⟩
  s : E.sc (.sema k) = ⟨B, o + 2, none⟩
def SlowSpec (E : Geo) (i k B o : Nat) : Prop := ∀ N l w (fr : Frame) cs, E.FinV → Lk E i k l none → l.pas k = false → l.deaf = 1 →
  (∀ w', View l.own w w' → Tr E N i ((l.mu k (some .held) none).hear 0) (Conc.G (fr.finish (.tuple #[])) cs) w') →
  Tr E N i l (Conc.G (Frame.enter Try.prog 61 #[.pointer (some ⟨B, o + 1, none⟩)] .normal) (fr :: cs)) w
theorem wkp {b : Frame} {l l' : Lo} (W : WkP Try.prog E l b) (h : l'.ch = .no) : WkP Try.prog E l' b := ⟨⟨W.wk.fin, h, W.wk.kind⟩, W.hP⟩
theorem lock56 {k B o : Nat} (hf : E.FinV) (hP : E.P = Try.prog) (O : OnceAt E k B o) (hslow : SlowSpec E i k B o) (A : Lk E i k l none) (hp : l.pas k = false) (hdf : l.deaf = 0) {fr : Frame} {cs : List Frame}
    (h : ∀ w', View l.own w w' → Tr E N i (l.mu k (some .held) none) (Conc.G (fr.finish (.tuple #[])) cs) w') :
    Tr E N i l (Conc.G (Frame.enter Try.prog 56 #[.pointer (some ⟨B, o + 1, none⟩)] .normal) (fr :: cs)) w := by
  have W : WkP Try.prog E l (base 56) := ⟨⟨hf, A.ch, by decide⟩, hP⟩
  refine Tr.enterP hP b56 (Nat.le_of_ble_eq_true rfl) ?_
  (repeat (first | refine TkO.done W (by rfl) ?_ | refine TkO.pureS W (by rfl) (by rfl) (by rfl) (by rfl) (by first | exact pure_move (.inl rfl) rfl | exact pure_move (.inr rfl) rfl | exact pure_nilCheck rfl rfl | exact pure_field rfl rfl (by rfl) rfl (by decide +kernel) | exact pure_int rfl rfl rfl rfl | exact pure_not rfl rfl | exact pure_pickT rfl rfl rfl | exact pure_pickF rfl rfl rfl | exact pure_shift rfl rfl rfl rfl | exact pure_eqlNil rfl rfl rfl (by rfl) | exact pure_conv rfl rfl (by rfl) (by rfl)) ?_ | refine TkO.unwantedS W (by rfl) (by rfl) (by rfl) (by rfl) ?_ | refine Tk.seq (WkP.wk W) ?_ | refine Tk.reg W ?_ | refine Tk.skip (WkP.wk W) ?_ | refine Tk.block (WkP.wk W) ?_ | refine Tk.inBlock (WkP.wk W) ?_ | refine Tk.loop (WkP.wk W) ?_ | refine Tk.condT (WkP.wk W) rfl ?_ | refine Tk.condF (WkP.wk W) rfl ?_ | refine Tk.exit (WkP.wk W) rfl ?_ | refine Tk.label (WkP.wk W) ?_))
  refine TkO.mark0 W (m := .disable) (fun g e => by cases e) (by rfl) (by rfl) (by rfl) (by rfl) e26 fun G w₁ t hg hact hlo hv => ?_
  refine ⟨_, false, goes_off hg hact hlo, TkOL.same (TkO.lay (rfl : Nv.put _ _ _ = (_, _) :: _) ?_)⟩
  rw [hdf]
  have W1 : WkP Try.prog E (l.hear 1) (base 56) := wkp W A.ch
  (repeat (first | refine TkO.done W1 (by rfl) ?_ | refine TkO.pureS W1 (by rfl) (by rfl) (by rfl) (by rfl) (by first | exact pure_move (.inl rfl) rfl | exact pure_move (.inr rfl) rfl | exact pure_nilCheck rfl rfl | exact pure_field rfl rfl (by rfl) rfl (by decide +kernel) | exact pure_int rfl rfl rfl rfl | exact pure_not rfl rfl | exact pure_pickT rfl rfl rfl | exact pure_pickF rfl rfl rfl | exact pure_shift rfl rfl rfl rfl | exact pure_eqlNil rfl rfl rfl (by rfl) | exact pure_conv rfl rfl (by rfl) (by rfl)) ?_ | refine TkO.unwantedS W1 (by rfl) (by rfl) (by rfl) (by rfl) ?_ | refine Tk.seq (WkP.wk W1) ?_ | refine Tk.reg W1 ?_ | refine Tk.skip (WkP.wk W1) ?_ | refine Tk.block (WkP.wk W1) ?_ | refine Tk.inBlock (WkP.wk W1) ?_ | refine Tk.loop (WkP.wk W1) ?_ | refine Tk.condT (WkP.wk W1) rfl ?_ | refine Tk.condF (WkP.wk W1) rfl ?_ | refine Tk.exit (WkP.wk W1) rfl ?_ | refine Tk.label (WkP.wk W1) ?_))
  refine TkO.cas W1 (kk := .i32) (ad := E.sc (.word k)) (v0 := 0) (v1 := 1) (by rfl) (by rfl) (by rfl) (by rfl) e60 (by rw [O.m]; rfl) rfl rfl fun G w₂ t hg hact hlo hv2 => ?_
  have hg2 := hg
  have hact2 := hact
  have hlo2 := hlo
  obtain ⟨c1, c2, c3⟩ := hg.word A.kK
  by_cases hz : (G.wd k).enc = 0
  · obtain ⟨fl⟩ : True := trivial
    refine ⟨_, (l.hear 1).mu k (some .held) none, false, c1, c2, .inl ⟨hz, fun fn pos => ?_, TkOL.same (TkO.lay (rfl : Nv.put _ _ _ = (_, _) :: _) ?_)⟩⟩
    · obtain ⟨G', d, c⟩ := hg.fast (A.hear.at hlo (.inl hp)) (by rw [hlo]; exact A.run) (by rw [hlo]; exact hp) hz fn pos
      rw [hlo] at d
      exact ⟨G', d, .inl rfl, A.live, fun e => by cases e⟩
    · have W2 : WkP Try.prog E ((l.hear 1).mu k (some .held) none) (base 56) := wkp W A.ch
      (repeat (first | refine TkO.done W2 (by rfl) ?_ | refine TkO.pureS W2 (by rfl) (by rfl) (by rfl) (by rfl) (by first | exact pure_move (.inl rfl) rfl | exact pure_move (.inr rfl) rfl | exact pure_nilCheck rfl rfl | exact pure_field rfl rfl (by rfl) rfl (by decide +kernel) | exact pure_int rfl rfl rfl rfl | exact pure_not rfl rfl | exact pure_pickT rfl rfl rfl | exact pure_pickF rfl rfl rfl | exact pure_shift rfl rfl rfl rfl | exact pure_eqlNil rfl rfl rfl (by rfl) | exact pure_conv rfl rfl (by rfl) (by rfl)) ?_ | refine TkO.unwantedS W2 (by rfl) (by rfl) (by rfl) (by rfl) ?_ | refine Tk.seq (WkP.wk W2) ?_ | refine Tk.reg W2 ?_ | refine Tk.skip (WkP.wk W2) ?_ | refine Tk.block (WkP.wk W2) ?_ | refine Tk.inBlock (WkP.wk W2) ?_ | refine Tk.loop (WkP.wk W2) ?_ | refine Tk.condT (WkP.wk W2) rfl ?_ | refine Tk.condF (WkP.wk W2) rfl ?_ | refine Tk.exit (WkP.wk W2) rfl ?_ | refine Tk.label (WkP.wk W2) ?_))
      refine TkO.mark0 W2 (m := .enable) (fun g e => by cases e) (by rfl) (by rfl) (by rfl) (by rfl) e27 fun G w₃ t hg hact hlo hv3 => ?_
      refine ⟨_, false, goes_on (d := 0) hg hact hlo rfl, TkOL.same (TkO.lay (rfl : Nv.put _ _ _ = (_, _) :: _) ?_)⟩
      have W3 : WkP Try.prog E (((l.hear 1).mu k (some .held) none).hear 0) (base 56) := wkp W A.ch
      (repeat (first | refine TkO.done W3 (by rfl) ?_ | refine TkO.pureS W3 (by rfl) (by rfl) (by rfl) (by rfl) (by first | exact pure_move (.inl rfl) rfl | exact pure_move (.inr rfl) rfl | exact pure_nilCheck rfl rfl | exact pure_field rfl rfl (by rfl) rfl (by decide +kernel) | exact pure_int rfl rfl rfl rfl | exact pure_not rfl rfl | exact pure_pickT rfl rfl rfl | exact pure_pickF rfl rfl rfl | exact pure_shift rfl rfl rfl rfl | exact pure_eqlNil rfl rfl rfl (by rfl) | exact pure_conv rfl rfl (by rfl) (by rfl)) ?_ | refine TkO.unwantedS W3 (by rfl) (by rfl) (by rfl) (by rfl) ?_ | refine Tk.seq (WkP.wk W3) ?_ | refine Tk.reg W3 ?_ | refine Tk.skip (WkP.wk W3) ?_ | refine Tk.block (WkP.wk W3) ?_ | refine Tk.inBlock (WkP.wk W3) ?_ | refine Tk.loop (WkP.wk W3) ?_ | refine Tk.condT (WkP.wk W3) rfl ?_ | refine Tk.condF (WkP.wk W3) rfl ?_ | refine Tk.exit (WkP.wk W3) rfl ?_ | refine Tk.label (WkP.wk W3) ?_))
      refine TkO.conv W3 (y := .word k) A.kK A.live (by rfl) (by rfl) (by rfl) (by rfl) (by rfl) (by rfl) (by rfl) (by decide +kernel) (by rw [O.m]; rfl) ?_
      refine TkO.markAt W3 (mk := .acquire) (ad := E.sc (.word k)) (fun ad g e => by cases e) (by rfl) (by rfl) (by rfl) (by rfl) e38 rfl fun G w₄ t hg hact hlo hv4 => ?_
      refine ⟨_, false, goes_say (x := .word k) A.kK (.inl rfl) hg hact hlo, TkOL.same (TkO.lay (rfl : Nv.put _ _ _ = (_, _) :: _) ?_)⟩
      (repeat (first | refine TkO.done W3 (by rfl) ?_ | refine TkO.pureS W3 (by rfl) (by rfl) (by rfl) (by rfl) (by first | exact pure_move (.inl rfl) rfl | exact pure_move (.inr rfl) rfl | exact pure_nilCheck rfl rfl | exact pure_field rfl rfl (by rfl) rfl (by decide +kernel) | exact pure_int rfl rfl rfl rfl | exact pure_not rfl rfl | exact pure_pickT rfl rfl rfl | exact pure_pickF rfl rfl rfl | exact pure_shift rfl rfl rfl rfl | exact pure_eqlNil rfl rfl rfl (by rfl) | exact pure_conv rfl rfl (by rfl) (by rfl)) ?_ | refine TkO.unwantedS W3 (by rfl) (by rfl) (by rfl) (by rfl) ?_ | refine Tk.seq (WkP.wk W3) ?_ | refine Tk.reg W3 ?_ | refine Tk.skip (WkP.wk W3) ?_ | refine Tk.block (WkP.wk W3) ?_ | refine Tk.inBlock (WkP.wk W3) ?_ | refine Tk.loop (WkP.wk W3) ?_ | refine Tk.condT (WkP.wk W3) rfl ?_ | refine Tk.condF (WkP.wk W3) rfl ?_ | refine Tk.exit (WkP.wk W3) rfl ?_ | refine Tk.label (WkP.wk W3) ?_))
      refine Tk.ret W3.wk (TkR.leave0 W3.wk (hP ▸ b56) ?_)
      have e : ((l.hear 1).mu k (some .held) none).hear 0 = l.mu k (some .held) none := by unfold Lo.hear Lo.mu; simp [← hdf]
      rw [e]
      have hvw : View l.own w₂ (w₂.setCell (E.sc (.word k)) (.int .i32 1)) := by
        have := hg2.view_set (x := .word k) A.kK (.int .i32 1) i hact2
        rw [hlo2] at this; exact this
      exact h _ (hv.trans (hv2.trans (hvw.trans (hv3.trans hv4))))
  · refine ⟨_, l.hear 1, false, c1, c2, .inr ⟨hz, fun fn pos => ?_, TkOL.same (TkO.lay (rfl : Nv.put _ _ _ = (_, _) :: _) ?_)⟩⟩
    · obtain ⟨G', d, c⟩ := hg.miss (x := .word k) A.kK fn pos hact (by rw [hlo]; exact A.rel)
      rw [hlo] at d
      exact ⟨G', d, .inl rfl, A.live, fun e => by cases e⟩
    · (repeat (first | refine TkO.done W1 (by rfl) ?_ | refine TkO.pureS W1 (by rfl) (by rfl) (by rfl) (by rfl) (by first | exact pure_move (.inl rfl) rfl | exact pure_move (.inr rfl) rfl | exact pure_nilCheck rfl rfl | exact pure_field rfl rfl (by rfl) rfl (by decide +kernel) | exact pure_int rfl rfl rfl rfl | exact pure_not rfl rfl | exact pure_pickT rfl rfl rfl | exact pure_pickF rfl rfl rfl | exact pure_shift rfl rfl rfl rfl | exact pure_eqlNil rfl rfl rfl (by rfl) | exact pure_conv rfl rfl (by rfl) (by rfl)) ?_ | refine TkO.unwantedS W1 (by rfl) (by rfl) (by rfl) (by rfl) ?_ | refine Tk.seq (WkP.wk W1) ?_ | refine Tk.reg W1 ?_ | refine Tk.skip (WkP.wk W1) ?_ | refine Tk.block (WkP.wk W1) ?_ | refine Tk.inBlock (WkP.wk W1) ?_ | refine Tk.loop (WkP.wk W1) ?_ | refine Tk.condT (WkP.wk W1) rfl ?_ | refine Tk.condF (WkP.wk W1) rfl ?_ | refine Tk.exit (WkP.wk W1) rfl ?_ | refine Tk.label (WkP.wk W1) ?_))
      refine TkO.call W1 (by rfl) (by rfl) (by rfl) (by rfl) b61 rfl fun fr' hk => ?_
      refine hslow N (l.hear 1) w₂ fr' (fr :: cs) hf A.hear hp rfl fun w₃ hv3 => hk _ _ _ (TkO.lay (rfl : Nv.put _ _ _ = (_, _) :: _) ?_)
      have W4 : WkP Try.prog E (((l.hear 1).mu k (some .held) none).hear 0) (base 56) := wkp W A.ch
      (repeat (first | refine TkO.done W4 (by rfl) ?_ | refine TkO.pureS W4 (by rfl) (by rfl) (by rfl) (by rfl) (by first | exact pure_move (.inl rfl) rfl | exact pure_move (.inr rfl) rfl | exact pure_nilCheck rfl rfl | exact pure_field rfl rfl (by rfl) rfl (by decide +kernel) | exact pure_int rfl rfl rfl rfl | exact pure_not rfl rfl | exact pure_pickT rfl rfl rfl | exact pure_pickF rfl rfl rfl | exact pure_shift rfl rfl rfl rfl | exact pure_eqlNil rfl rfl rfl (by rfl) | exact pure_conv rfl rfl (by rfl) (by rfl)) ?_ | refine TkO.unwantedS W4 (by rfl) (by rfl) (by rfl) (by rfl) ?_ | refine Tk.seq (WkP.wk W4) ?_ | refine Tk.reg W4 ?_ | refine Tk.skip (WkP.wk W4) ?_ | refine Tk.block (WkP.wk W4) ?_ | refine Tk.inBlock (WkP.wk W4) ?_ | refine Tk.loop (WkP.wk W4) ?_ | refine Tk.condT (WkP.wk W4) rfl ?_ | refine Tk.condF (WkP.wk W4) rfl ?_ | refine Tk.exit (WkP.wk W4) rfl ?_ | refine Tk.label (WkP.wk W4) ?_))
      refine Tk.fall W4.wk (TkR.leave0 W4.wk (hP ▸ b56) ?_)
      have e : ((l.hear 1).mu k (some .held) none).hear 0 = l.mu k (some .held) none := by unfold Lo.hear Lo.mu; simp [← hdf]
      rw [e]
      exact h _ (hv.trans (hv2.trans hv3))
end Go.Co.F1

namespace Go.Co
open Go Go.Conc
open Go.ConcM (OsLater)
variable {E : Geo} {N i : Nat} {l : Lo} {w : World} {G : Gh} {t : Trace}
theorem GI.missW (h : GI E G w t) {i k : Nat} {r : Ro} (A : AtMu E G i k (some r)) (hrun : (G.th i).run = none) (hnp : r ≠ .queued) {o : Wd} (ho : (G.th i).old = some o) (hne : o ≠ G.wd k) (fn : FuncId) (pos : String) :
    ∃ G', MuTo E i G w w (t ++ MemOp.ofEvents i fn pos #[⟨.cell (E.sc (.word k)), false, true⟩]) ((G.th i).mu k (some r) (some (G.wd k))) G' ∧ G'.Φ E.K E.nj < G.Φ E.K E.nj := by
  have hwt : ((G.th i).mu k (some r) (some (G.wd k))).wt k = (G.th i).wt k := by rw [mu_wt_some, wt_some (r := r) A.mr]
  have hs0 : ((G.th i).mu k (some r) (some (G.wd k))).stale k (G.wd k) = 0 := by unfold Lo.stale Lo.mu; simp
  obtain ⟨G', d, c, f, q⟩ := h.mu (a := some r) (b := some r) (x' := G.wd k) (s' := G.sm k) (o' := some (G.wd k)) (w' := w) (es := #[⟨.cell (E.sc (.word k)), false, true⟩]) fn pos A.live A.i0 A.kK A.mr
    (fun c' hm => by
      have : c' = G.cnt k := by funext r'; have := hm r'; omega
      rw [this]; exact h.k.mu k A.kK) A.ch A.gr (.inl hrun) (.inl ⟨rfl, rfl, rfl⟩) (mem_ld (x := .word k) A.kK) rfl A.rel (.inl (by simpa using hnp))
    (.inr ⟨by rw [hwt], rfl, by rw [hs0]; exact Nat.zero_le _⟩)
  refine ⟨G', ⟨d, f (Nat.le_refl _)⟩, q (.inr ?_)⟩
  rw [hs0]
  unfold Lo.stale
  have hmr : (G.th i).mr = some (k, r) := A.mr
  simp [hmr, ho, A.live, hne]
def AllGet (env : Nv) : Nv → Prop
  | [] => True
  | (k, v) :: r => env.get k = some v ∧ AllGet env r
theorem AllGet.sub {env : Nv} : ∀ {env' : Nv}, AllGet env env' → ∀ k v, env'.get k = some v → env.get k = some v
  | [], _, k, v, h => by cases h
  | (j, u) :: r, ⟨h1, h2⟩, k, v, h => by
    rw [Nv.get_put] at h
    split at h
    · rename_i e; subst e; cases h; exact h1
    · exact AllGet.sub h2 k v h
section
variable {P : Program} {b : Frame} {n : Nat} {env : Nv} {ds : List Deferred} {k : List Item} {cs : List Frame}
variable {ops : Array Oper} {j : Nat} {o : Oper} {f : FuncId} {ats : Array TypeId}
theorem TkO.spin (W : WkP P E l b) {x : Operand} {kk : IntKind} {v : Int} {d : Nat} (ho : ops[j]? = some o) (hw : wantE ops env o = some true) (hdd : o.dst = some d) (hd : Nat.blt d n = true) (hop : o.op = .call { callee := .value (.func f), args := #[x], argTypes := ats }) (he : Ent P f Extern.Sync.canSpin) (hx : env.ev x = some (.int kk v))
    (h : ∀ c : Bool, (c = true → v < 4) → TkO E N i l w b n ((d, .bool c) :: env) ds ops (j + 1) k cs) : TkO E N i l w b n env ds ops j k cs := by
  refine TkO.open ho ?_
  intro a ha hds
  obtain ⟨fn, f1, f2, f3, f4, f5⟩ := he.out
  have hxa : (#[x] : Array Operand).map a.eval = #[.int kk v] := by simp [ha.ev hx]
  refine Tr.priv (runs_G _ _) W.wk.ch fun w₁ hv => ?_
  have key : ∀ c : Bool, (c = true → v < 4) → ∀ w2, View l.own w w2 → Tr E N i l (Conc.G (b.at (a.put o.dst (.bool c)) (.inRegion ops (List.range' (j + 1) (ops.size - (j + 1))) :: k)) cs) w2 := fun c hc w2 hv2 => by
    refine Tr.view W.wk.fin (h c hc _ ?_ (by cases o.dst <;> exact hds)) hv2
    have := ha.put (d := o.dst) (by rw [hdd]; exact hd) (.bool c)
    rw [hdd] at this ⊢; exact this
  by_cases h4 : 4 ≤ v
  · refine ⟨_, w₁, #[], stepG_canSpin_no ho (ha.want hw) W.wk.kind hop (by rw [W.hP]; exact f1) f2 f3 f4 f5 hxa h4, rfl, ⟨Nat.le_refl _, fun _ _ _ => rfl, rfl, rfl, rfl, fun e he => by simp at he⟩, fun _ e he => by simp at he, ?_⟩
    rw [Lo.grow_self]; exact key false (fun e => by cases e) w₁ hv
  · refine ⟨_, w₁.asked, #[], stepG_canSpin_ask ho (ha.want hw) W.wk.kind hop (by rw [W.hP]; exact f1) f2 f3 f4 f5 hxa (by omega), rfl, ⟨Nat.le_refl _, fun _ _ _ => rfl, rfl, rfl, rfl, fun e he => by simp at he⟩, fun _ e he => by simp at he, ?_⟩
    show Tr E N i (l.grow w₁.heap.size w₁.heap.size) _ _
    rw [Lo.grow_self]; exact key w₁.spins (fun _ => by omega) w₁.asked (hv.trans ⟨Nat.le_refl _, fun _ _ => rfl⟩)
theorem TkO.nano (W : WkP P E l b) {xs : Array Operand} {d : Nat} (ho : ops[j]? = some o) (hw : wantE ops env o = some true) (hdd : o.dst = some d) (hd : Nat.blt d n = true) (hop : o.op = .call { callee := .value (.func f), args := xs, argTypes := ats })
    (he : ∃ fn, P.funcs[f]? = some fn ∧ (fn.name == "runtime.NumGoroutine") = false ∧ fn.body.isNone = true ∧ Extern.findNext fn = none ∧ Extern.find fn = some Extern.OsHooks.nano ∧ fn.norace = true)
    (hrel : l.rel = none) (hlive : l.live = true) (h : ∀ v, TkO E N i l w b n ((d, .int .i64 v) :: env) ds ops (j + 1) k cs) : TkO E N i l w b n env ds ops j k cs := by
  refine TkO.open ho (Tk.nano W.wk ho hw (by rw [hdd]; exact hd) hop (by rw [W.hP]; exact he) hrel hlive fun v w₁ hv => ?_)
  intro a ha hds
  exact (h v a (by rw [hdd] at ha; exact ha) hds).view W.wk.fin hv
end
namespace F1
section
variable {P : Program} {env : Nv} {o : Oper} {t yt : TypeId} {y : Operand} {x : Wd}
theorem p_bit5 (ho : o.op = .binOp .and t y (.const (.int .i32 5)) yt) (hx : env.ev y = some (.int .i32 x.enc)) (h : x.q < 64) : PureOp P env o (.int .i32 (x.l.toNat + 4 * x.s.toNat : Nat)) := pure_int ho hx rfl (bit5 h)
theorem p_bit1 (ho : o.op = .binOp .and t y (.const (.int .i32 1)) yt) (hx : env.ev y = some (.int .i32 x.enc)) (h : x.q < 64) : PureOp P env o (.int .i32 (x.l.toNat : Nat)) := pure_int ho hx rfl (bit1 h)
theorem p_bit2 (ho : o.op = .binOp .and t y (.const (.int .i32 2)) yt) (hx : env.ev y = some (.int .i32 x.enc)) (h : x.q < 64) : PureOp P env o (.int .i32 (2 * x.w.toNat : Nat)) := pure_int ho hx rfl (bit2 h)
theorem p_bit3 (ho : o.op = .binOp .and t y (.const (.int .i32 3)) yt) (hx : env.ev y = some (.int .i32 x.enc)) (h : x.q < 64) : PureOp P env o (.int .i32 (x.l.toNat + 2 * x.w.toNat : Nat)) := pure_int ho hx rfl (bit3 h)
theorem p_bit4 (ho : o.op = .binOp .and t y (.const (.int .i32 4)) yt) (hx : env.ev y = some (.int .i32 x.enc)) (h : x.q < 64) : PureOp P env o (.int .i32 (4 * x.s.toNat : Nat)) := pure_int ho hx rfl (bit4 h)
theorem p_bit7 (ho : o.op = .binOp .and t y (.const (.int .i32 7)) yt) (hx : env.ev y = some (.int .i32 x.enc)) (h : x.q < 64) : PureOp P env o (.int .i32 (x.l.toNat + 2 * x.w.toNat + 4 * x.s.toNat : Nat)) := pure_int ho hx rfl (bit7 h)
theorem p_or1 (ho : o.op = .binOp .or t y (.const (.int .i32 1)) yt) (hx : env.ev y = some (.int .i32 x.enc)) (h : x.q < 64) : PureOp P env o (.int .i32 (Wd.enc { x with l := true })) := pure_int ho hx rfl (or1 h)
theorem p_or2 (ho : o.op = .binOp .or t y (.const (.int .i32 2)) yt) (hx : env.ev y = some (.int .i32 x.enc)) (h : x.q < 64) : PureOp P env o (.int .i32 (Wd.enc { x with w := true })) := pure_int ho hx rfl (or2 h)
theorem p_or4 (ho : o.op = .binOp .or t y (.const (.int .i32 4)) yt) (hx : env.ev y = some (.int .i32 x.enc)) (h : x.q < 64) : PureOp P env o (.int .i32 (Wd.enc { x with s := true })) := pure_int ho hx rfl (or4 h)
theorem p_clr2 (ho : o.op = .binOp .andNot t y (.const (.int .i32 2)) yt) (hx : env.ev y = some (.int .i32 x.enc)) (h : x.q < 64) : PureOp P env o (.int .i32 (Wd.enc { x with w := false })) := pure_int ho hx rfl (clr2 h)
theorem p_add8 (ho : o.op = .binOp .add t y (.const (.int .i32 8)) yt) (hx : env.ev y = some (.int .i32 x.enc)) (h : x.q < 64) : PureOp P env o (.int .i32 (Wd.enc { x with q := x.q + 1 })) := pure_int ho hx rfl (add8 h)
theorem p_shr3 {y2 : Operand} {k' : IntKind} (ho : o.op = .binOp .shr t y y2 yt) (h2 : env.ev y2 = some (.int k' 3)) (hx : env.ev y = some (.int .i32 x.enc)) (h : x.q < 64) : PureOp P env o (.int .i32 (x.q : Nat)) := pure_shift ho hx h2 (shr3 h)
end
end F1
end Go.Co
