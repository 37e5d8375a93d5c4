/- A theory of many goroutines that count at once (a channel, a wait group, once, a mutex), the walks of the program's functions in it, and the law CountsSame of the seat, proved out of them. No condition beyond those that stand in each statement. -/
import Derived.Test.YtcikailibheakaaCoA
namespace Go.Co
open Go Go.Conc
open Go.ConcM (OsLater)
open Go.ConcN (sumTo upd sumTo_upd upd_ne upd_same sumTo_congr le_sumTo sumTo_le)
variable {E : Geo} {G G' : Gh} {w w' : World} {t u : Trace} {B B' : Nat}
theorem sumTo_but {k : Nat} {f g : Nat → Nat} (h : ∀ j, j ≠ k → f j = g j) : ∀ {n : Nat}, k < n → sumTo n f + g k = sumTo n g + f k
  | n + 1, hk => by
    by_cases e : k = n
    · subst e
      simp only [sumTo]
      rw [sumTo_congr (g := g) fun j hj => h j (by omega)]
      omega
    · simp only [sumTo]
      have := sumTo_but h (n := n) (by omega)
      rw [h n (fun q => e q.symm)]
      omega
def Gh.St (G : Gh) (k : Nat) : Nat := sumTo G.n fun j => (G.th j).stale k (G.wd k)
theorem stale_le (l : Lo) (k : Nat) (x : Wd) : l.stale k x ≤ l.lives := by
  unfold Lo.stale Lo.lives
  split
  · split
    · rename_i h; rw [h.1]; exact Nat.le_refl _
    · exact Nat.zero_le _
  · exact Nat.zero_le _
theorem sumTo_mono {f g : Nat → Nat} : ∀ {n : Nat}, (∀ j, j < n → f j ≤ g j) → sumTo n f ≤ sumTo n g
  | 0, _ => Nat.le_refl _
  | n + 1, h => by
    have := sumTo_mono (n := n) fun j hj => h j (by omega)
    have := h n (by omega)
    simp only [sumTo]; omega
theorem GIa.st_le (h : GIa E G) (k : Nat) : G.St k ≤ 48 := by
  have := sumTo_mono (n := G.n) (f := fun j => (G.th j).stale k (G.wd k)) (g := fun j => (G.th j).lives) fun j _ => stale_le _ _ _
  have := h.few
  unfold Gh.St
  omega
def AtK (l : Lo) (k : Nat) : Prop := l.mr = none ∨ ∃ r, l.mr = some (k, r)
theorem AtK.wt {l l' : Lo} {k k' : Nat} (h : AtK l k) (h' : AtK l' k) (hw : l'.wk = l.wk) (hp : k' ≠ k → l'.pas k' = l.pas k') (hk : k' ≠ k) : l'.wt k' = l.wt k' := by
  unfold Lo.wt
  rcases h with h | ⟨r, h⟩ <;> rcases h' with h' | ⟨r', h'⟩ <;> simp only [h, h', hw, hp hk, if_neg (Ne.symm hk)]
theorem AtK.stale {l : Lo} {k k' : Nat} (h : AtK l k) (hk : k' ≠ k) (x : Wd) : l.stale k' x = 0 := by
  unfold Lo.stale
  rcases h with h | ⟨r, h⟩
  · rw [h]
  · rw [h]; split
    · rename_i a b c e _
      simp only [Option.some.injEq, Prod.mk.injEq] at e
      rw [if_neg (fun q => hk (by rw [← q.2.1, ← e.1]))]
    · rfl
theorem Gh.phi_mu (h : GIa E G) {i k : Nat} {l' : Lo} {x' : Wd} {s' : Nat} (hi : (G.th i).live = true) (hk : k < E.K) (a : AtK (G.th i) k) (a' : AtK l' k) (hl : l'.live = (G.th i).live) (hwk : l'.wk = (G.th i).wk) (hgr : l'.gr = (G.th i).gr)
    (hp : ∀ k', k' ≠ k → l'.pas k' = (G.th i).pas k') (hth : G'.th = upd G.th i l') (hwd : G'.wd = upd G.wd k x') (hsm : G'.sm = upd G.sm k s') (hn : G'.n = G.n) (hleft : G'.left = G.left) (hpos : G'.pos = G.pos) (hcl : G'.cl = G.cl) (hwn : G'.wn = G.wn) :
    G'.Φ E.K E.nj + 64 * (G.th i).wt k + 320 * G.sm k + G.St k = G.Φ E.K E.nj + 64 * l'.wt k + 320 * s' + G'.St k := by
  have hin := (h.liveW i hi).1
  -- one's own
  have e1 := sum_upd hin G.th l' (fun l => l.φ E.K)
  have e2 := sumTo_but (k := k) (f := fun k' => 64 * l'.wt k') (g := fun k' => 64 * (G.th i).wt k') (fun k' hk' => by simp only [a.wt a' hwk (hp k') hk']) hk
  have eφ : l'.φ E.K + 64 * (G.th i).wt k = (G.th i).φ E.K + 64 * l'.wt k := by
    have hb : l'.busy = (G.th i).busy := by unfold Lo.busy; rw [hl, hwk, hgr]
    have hla : l'.lasts = (G.th i).lasts := by unfold Lo.lasts; rw [hl, hgr]
    unfold Lo.φ
    rw [hl, if_pos hi, if_pos hi, hb, hla, hgr]
    omega
  -- the mutexes
  have hst : ∀ k', k' ≠ k → (sumTo G.n fun j => (upd G.th i l' j).stale k' (upd G.wd k x' k')) = sumTo G.n fun j => (G.th j).stale k' (G.wd k') := fun k' hk' => by
    rw [upd_ne _ _ hk']
    exact sum_same (φ := fun l => l.stale k' (G.wd k')) (by simp only [a'.stale hk', a.stale hk'])
  have e3 := sumTo_but (k := k) (f := fun k' => 320 * (upd G.sm k s') k' + sumTo G.n fun j => (upd G.th i l' j).stale k' (upd G.wd k x' k')) (g := fun k' => 320 * G.sm k' + sumTo G.n fun j => (G.th j).stale k' (G.wd k'))
    (fun k' hk' => by have := hst k' hk'; simp only [upd_ne _ _ hk'] at this ⊢; rw [this]) hk
  simp only [upd_same] at e3
  have e4 : (upd G.th i l' 0).staleG G.wn = (G.th 0).staleG G.wn := fld (fun l => l.staleG G.wn) (by simp only [Lo.staleG, hgr]) 0
  unfold Gh.Φ Gh.St
  rw [hth, hwd, hsm, hn, hleft, hpos, hcl, hwn, e4]
  simp only [upd_same] at e1 e3 ⊢
  omega
theorem GI.mutex (h : GI E G w t) {i k : Nat} {a b : Option Ro} {x' : Wd} {s' : Nat} {o' : Option Wd} {es : Array Event} (fn : FuncId) (pos : String) (hi : (G.th i).live = true) (hi0 : i ≠ 0) (hk : k < E.K) (hmr : (G.th i).mr = a.map (k, ·))
    (hmu : ∀ c', Mv (G.cnt k) c' a b → MuI x' s' c') (hch : (G.th i).ch = .no) (hgr : (G.th i).gr = .out) (hrun : (G.th i).run = none ∨ b = some .held)
    (hw : (w' = w ∧ x' = G.wd k ∧ s' = G.sm k) ∨ (w' = w.setCell (E.sc (.word k)) (.int .i32 x'.enc) ∧ s' = G.sm k) ∨ (w' = w.setCell (E.sc (.sema k)) (.int .u32 s') ∧ x' = G.wd k))
    (he : ∀ e ∈ es, SEv E e) (hrel : (G.th i).rel = none) :
    ∃ G' : Gh, G' = { G with th := upd G.th i { G.th i with mr := b.map (k, ·), old := o', deaf := deafBehind (G.th i).deaf es }, wd := upd G.wd k x', sm := upd G.sm k s' } ∧ GI E G' w' (t ++ MemOp.ofEvents i fn pos es) ∧
      (∀ j, (G.th j).live = true → View (G.th j).own w w') ∧
      G'.Φ E.K E.nj + 64 * (G.th i).wt k + 320 * G.sm k + G.St k = G.Φ E.K E.nj + 64 * (G'.th i).wt k + 320 * s' + G'.St k ∧ G'.St k ≤ 48 := by
  refine ⟨_, rfl, ?_⟩
  have hat : AtK (G.th i) k := by cases a with
    | none => exact .inl hmr
    | some r => exact .inr ⟨_, hmr⟩
  have hat' : AtK { G.th i with mr := b.map (k, ·), old := o', deaf := deafBehind (G.th i).deaf es } k := by cases b with
    | none => exact .inl rfl
    | some r => exact .inr ⟨_, rfl⟩
  have hin := (h.a.liveW i hi).1
  have hsize : w'.heap.size = w.heap.size := by
    rcases hw with ⟨rfl, _⟩ | ⟨rfl, _⟩ | ⟨rfl, _⟩
    · rfl
    · exact setCell_size ..
    · exact setCell_size ..
  have ha' : GIa E { G with th := upd G.th i { G.th i with mr := b.map (k, ·), old := o', deaf := deafBehind (G.th i).deaf es }, wd := upd G.wd k x', sm := upd G.sm k s' } := h.a.tr rfl rfl fun j => fld Lo.live (by rfl) j
  refine ⟨⟨ha', ?_, ?_, ?_, ?_, ?_, h.more, ?_⟩, fun j hj => ?_, ?_, ha'.st_le k⟩
  · refine h.s.tr (by rw [hsize]; exact Nat.le_refl _) (fun ad v hv => ⟨v, hv⟩) fun j hj => ⟨?_, fld Lo.own (by rfl) j⟩
    have : (upd G.th i { G.th i with mr := b.map (k, ·), old := o', deaf := deafBehind (G.th i).deaf es } j).live = true := hj
    rw [fld Lo.live (by rfl) j] at this; exact this
  · have hval : ∀ y, y ≠ .word k → y ≠ .sema k → Gh.val { G with th := upd G.th i { G.th i with mr := b.map (k, ·), old := o', deaf := deafBehind (G.th i).deaf es }, wd := upd G.wd k x', sm := upd G.sm k s' } y = G.val y := by
      intro y h1 h2
      cases y with
      | word k' => show Value.int .i32 (upd G.wd k x' k').enc = _; rw [upd_ne _ _ (fun e => h1 (by rw [e]))]; rfl
      | sema k' => show Value.int .u32 ((upd G.sm k s' k' : Nat) : Int) = _; rw [upd_ne _ _ (fun e => h2 (by rw [e]))]; rfl
      | _ => rfl
    rcases hw with ⟨rfl, hx, hs⟩ | ⟨rfl, hs⟩ | ⟨rfl, hx⟩
    · refine h.m.tr (fun y => ?_) rfl rfl
      by_cases e1 : y = .word k
      · subst e1; show Value.int .i32 (upd G.wd k x' k).enc = Value.int .i32 (G.wd k).enc; rw [upd_same, hx]
      · by_cases e2 : y = .sema k
        · subst e2; show Value.int .u32 ((upd G.sm k s' k : Nat) : Int) = Value.int .u32 (G.sm k); rw [upd_same, hs]
        · exact hval y e1 e2
    · refine h.m.set (x := .word k) hk _ (fun y _ => ?_) rfl rfl
      by_cases e1 : y = .word k
      · subst e1; rw [if_pos rfl]; show Value.int .i32 (upd G.wd k x' k).enc = _; rw [upd_same]
      · rw [if_neg e1]
        by_cases e2 : y = .sema k
        · subst e2; show Value.int .u32 ((upd G.sm k s' k : Nat) : Int) = Value.int .u32 (G.sm k); rw [upd_same, hs]
        · exact hval y e1 e2
    · refine h.m.set (x := .sema k) hk _ (fun y _ => ?_) rfl rfl
      by_cases e1 : y = .sema k
      · subst e1; rw [if_pos rfl]; show Value.int .u32 ((upd G.sm k s' k : Nat) : Int) = _; rw [upd_same]
      · rw [if_neg e1]
        by_cases e2 : y = .word k
        · subst e2; show Value.int .i32 (upd G.wd k x' k).enc = Value.int .i32 (G.wd k).enc; rw [upd_same, hx]
        · exact hval y e2 e1
  · -- the mutexes
    have hcnt : Mv (G.cnt k) (Gh.cnt { G with th := upd G.th i { G.th i with mr := b.map (k, ·), old := o', deaf := deafBehind (G.th i).deaf es }, wd := upd G.wd k x', sm := upd G.sm k s' } k) a b := by
      intro r
      have := sum_upd hin G.th { G.th i with mr := b.map (k, ·), old := o', deaf := deafBehind (G.th i).deaf es } (fun l => l.at k r)
      have e1 : (G.th i).at k r = is1 a r := by
        unfold Lo.at is1; rw [hmr, hi]; cases a <;> simp
      have e2 : ({ G.th i with mr := b.map (k, ·), old := o', deaf := deafBehind (G.th i).deaf es } : Lo).at k r = is1 b r := by
        unfold Lo.at is1; simp only [hi]; cases b <;> simp
      rw [e1, e2] at this
      exact this
    have hoth : ∀ k', k' ≠ k → Gh.cnt { G with th := upd G.th i { G.th i with mr := b.map (k, ·), old := o', deaf := deafBehind (G.th i).deaf es }, wd := upd G.wd k x', sm := upd G.sm k s' } k' = G.cnt k' := by
      intro k' hk'
      funext r
      refine sum_same (φ := fun l => l.at k' r) ?_
      have z : ∀ l : Lo, AtK l k → l.at k' r = 0 := fun l hl => by
        unfold Lo.at
        rcases hl with hl | ⟨r', hl⟩
        · rw [hl]; simp
        · rw [hl, if_neg (fun q => by simp at q; exact hk' q.2.1.symm)]
      simp only [z _ hat, z _ hat']
    have hlv : ∀ j, (upd G.th i { G.th i with mr := b.map (k, ·), old := o', deaf := deafBehind (G.th i).deaf es } j).live = (G.th j).live := fun j => fld Lo.live (by rfl) j
    have hru : ∀ j, (upd G.th i { G.th i with mr := b.map (k, ·), old := o', deaf := deafBehind (G.th i).deaf es } j).run = (G.th j).run := fun j => fld Lo.run (by rfl) j
    have hpa : ∀ j, (upd G.th i { G.th i with mr := b.map (k, ·), old := o', deaf := deafBehind (G.th i).deaf es } j).pas = (G.th j).pas := fun j => fld Lo.pas (by rfl) j
    have hkn : ∀ j, (upd G.th i { G.th i with mr := b.map (k, ·), old := o', deaf := deafBehind (G.th i).deaf es } j).kn = (G.th j).kn := fun j => fld Lo.kn (by rfl) j
    refine ⟨fun k' hk' => ?_, fun j k' r hj hm => ?_, fun j k' hj hr => ?_, fun j k' hj hp => ?_, fun ad v k' hv => ?_, h.k.ini, fun j ad v hj hv => ?_⟩
    · by_cases e : k' = k
      · subst e
        show MuI (upd G.wd k' x' k') (upd G.sm k' s' k') _
        rw [upd_same, upd_same]
        exact hmu _ hcnt
      · show MuI (upd G.wd k x' k') (upd G.sm k s' k') _
        rw [upd_ne _ _ e, upd_ne _ _ e, hoth k' e]
        exact h.k.mu k' hk'
    · have hj' : (G.th j).live = true := by rw [← hlv]; exact hj
      by_cases e : j = i
      · subst e
        have : (upd G.th j { G.th j with mr := b.map (k, ·), old := o', deaf := deafBehind (G.th j).deaf es } j).mr = some (k', r) := hm
        rw [upd_same] at this
        cases b with
        | none => cases this
        | some rb => simp at this; exact ⟨by omega, hi0⟩
      · have : (upd G.th i { G.th i with mr := b.map (k, ·), old := o', deaf := deafBehind (G.th i).deaf es } j).mr = some (k', r) := hm
        rw [upd_ne _ _ e] at this
        exact h.k.mrK j k' r hj' this
    · have hj' : (G.th j).live = true := by rw [← hlv]; exact hj
      have hr' : (G.th j).run = some k' := by rw [← hru]; exact hr
      obtain ⟨r1, r2⟩ := h.k.run j k' hj' hr'
      refine ⟨?_, r2⟩
      show (upd G.th i { G.th i with mr := b.map (k, ·), old := o', deaf := deafBehind (G.th i).deaf es } j).mr = _
      by_cases e : j = i
      · subst e
        rw [upd_same]
        rcases hrun with hrun | rfl
        · rw [hrun] at hr'; cases hr'
        · rw [hmr] at r1
          cases a with
          | none => cases r1
          | some ra => simp at r1; simp [r1.1]
      · rw [upd_ne _ _ e]; exact r1
    · exact h.k.pas j k' (by rw [← hlv]; exact hj) (by rw [← hpa]; exact hp)
    · obtain ⟨p1, p2, p3⟩ := h.k.prot ad v k' hv
      refine ⟨p1, p2, ?_⟩
      rcases p3 with ⟨j, q1, q2, q3⟩ | ⟨q1, q2⟩
      · exact .inl ⟨j, by rw [show (Gh.th _ j).live = _ from hlv j]; exact q1, by rw [show (Gh.th _ j).run = _ from hru j]; exact q2, by rw [show (Gh.th _ j).kn = _ from hkn j]; exact q3⟩
      · exact .inr ⟨fun j hj => by rw [show (Gh.th _ j).run = _ from hru j]; exact q1 j (by rw [← hlv]; exact hj), q2⟩
    · have := h.k.kn j ad v (by rw [← hlv]; exact hj) (by rw [← hkn]; exact hv)
      rw [show (Gh.th _ j).run = _ from hru j, show (Gh.th _ j).pas = _ from hpa j]
      exact this
  · exact h.g.tr rfl rfl rfl rfl rfl rfl fun j => ⟨fld Lo.live (by rfl) j, fld Lo.wk (by rfl) j, fld Lo.gr (by rfl) j⟩
  · -- the jobs
    have hlv : ∀ j, (upd G.th i { G.th i with mr := b.map (k, ·), old := o', deaf := deafBehind (G.th i).deaf es } j).live = (G.th j).live := fun j => fld Lo.live (by rfl) j
    have hgr' : ∀ j, (upd G.th i { G.th i with mr := b.map (k, ·), old := o', deaf := deafBehind (G.th i).deaf es } j).gr = (G.th j).gr := fun j => fld Lo.gr (by rfl) j
    have hch' : ∀ j, (upd G.th i { G.th i with mr := b.map (k, ·), old := o', deaf := deafBehind (G.th i).deaf es } j).ch = (G.th j).ch := fun j => fld Lo.ch (by rfl) j
    have hjb : ∀ j, (upd G.th i { G.th i with mr := b.map (k, ·), old := o', deaf := deafBehind (G.th i).deaf es } j).job = (G.th j).job := fun j => fld Lo.job (by rfl) j
    refine ⟨fun hC j hj => ?_, fun j v hj hv => ?_, fun j hj hv => ?_, h.j.cl, h.j.posn, fun r => ?_, fun j jj hj hjj => ?_, h.j.tks, fun c1 c2 j hj => ?_, h.j.any, ?_, fun j hj hm => ?_, ?_, fun j hj hs => ?_⟩
    · rw [show (Gh.th _ j).ch = _ from hch' j]; exact h.j.noC hC j (by rw [← hlv]; exact hj)
    · rw [show (Gh.th _ j).gr = _ from hgr' j]; exact h.j.ch0 j v (by rw [← hlv]; exact hj) (by rw [← hch']; exact hv)
    · have hj' : (G.th j).live = true := by rw [← hlv]; exact hj
      have hv' : (G.th j).ch = .recv := by rw [← hch']; exact hv
      have e : j ≠ i := by rintro rfl; rw [hch] at hv'; cases hv'
      show j ≠ 0 ∧ (∀ jj, (upd G.th i { G.th i with mr := b.map (k, ·), old := o', deaf := deafBehind (G.th i).deaf es } j).job = some jj → E.rs jj = none) ∧ (upd G.th i { G.th i with mr := b.map (k, ·), old := o', deaf := deafBehind (G.th i).deaf es } j).mr = none ∧ (upd G.th i { G.th i with mr := b.map (k, ·), old := o', deaf := deafBehind (G.th i).deaf es } j).gr = .out
      rw [upd_ne _ _ e]
      exact h.j.chR j hj' hv'
    · have : (sumTo G.n fun j => (upd G.th i { G.th i with mr := b.map (k, ·), old := o', deaf := deafBehind (G.th i).deaf es } j).holds E.rs r) = sumTo G.n fun j => (G.th j).holds E.rs r := sum_same (φ := fun l => l.holds E.rs r) rfl
      show G.cv r + (sumTo G.n fun j => (upd G.th i { G.th i with mr := b.map (k, ·), old := o', deaf := deafBehind (G.th i).deaf es } j).holds E.rs r) = _
      rw [this]; exact h.j.cnt r
    · exact h.j.jobs j jj (by rw [← hlv]; exact hj) (by rw [← hjb]; exact hjj)
    · rw [show (Gh.th _ j).live = _ from hlv j, show (Gh.th _ j).gr = _ from hgr' j]; exact h.j.stay c1 c2 j hj
    · intro c; rw [show (Gh.th _ 0).gr = _ from hgr' 0]; exact h.j.shutW c
    · rw [show (Gh.th _ j).gr = _ from hgr' j]
      by_cases e : j = i
      · subst e; exact hgr
      · refine h.j.mrG j (by rw [← hlv]; exact hj) ?_
        have : (upd G.th i { G.th i with mr := b.map (k, ·), old := o', deaf := deafBehind (G.th i).deaf es } j).mr ≠ none := hm
        rw [upd_ne _ _ e] at this; exact this
    · rw [show (Gh.th _ 0).me = (G.th 0).me from fld (i := i) (l := { G.th i with mr := b.map (k, ·), old := o', deaf := deafBehind (G.th i).deaf es }) Lo.me (by rfl) 0]; exact h.j.me
    · exact h.j.sc j (by rw [← hlv]; exact hj) (by rw [← fld (i := i) (l := { G.th i with mr := b.map (k, ·), old := o', deaf := deafBehind (G.th i).deaf es }) Lo.sc (by rfl) j]; exact hs)
  · rw [hsize]
    refine h.evs fn pos hi he ⟨rfl, rfl, rfl, rfl, fun j => ⟨fld Lo.live (by rfl) j, fld Lo.own (by rfl) j, fld Lo.run (by rfl) j, fld Lo.pas (by rfl) j, fld Lo.rel (by rfl) j, ?_, ?_⟩⟩ (fun j => ?_) (.inl hrel)
    · rw [show (Gh.th _ j).gr = (G.th j).gr from fld (i := i) (l := { G.th i with mr := b.map (k, ·), old := o', deaf := deafBehind (G.th i).deaf es }) Lo.gr (by rfl) j]
    · rw [show (Gh.th _ j).gr = (G.th j).gr from fld (i := i) (l := { G.th i with mr := b.map (k, ·), old := o', deaf := deafBehind (G.th i).deaf es }) Lo.gr (by rfl) j]
    · show (upd G.th i { G.th i with mr := b.map (k, ·), old := o', deaf := deafBehind (G.th i).deaf es } j).deaf = _
      by_cases e : j = i
      · subst e; rw [upd_same, if_pos rfl]
      · rw [upd_ne _ _ e, if_neg e]
  · rcases hw with ⟨rfl, _⟩ | ⟨rfl, _⟩ | ⟨rfl, _⟩
    · exact View.refl _ _
    · exact h.view_set (x := .word k) hk _ j hj
    · exact h.view_set (x := .sema k) hk _ j hj
  · have := Gh.phi_mu (E := E) (G' := { G with th := upd G.th i { G.th i with mr := b.map (k, ·), old := o', deaf := deafBehind (G.th i).deaf es }, wd := upd G.wd k x', sm := upd G.sm k s' }) h.a hi hk hat hat' rfl rfl rfl (fun _ _ => rfl) rfl rfl rfl rfl rfl rfl rfl rfl
    have e : (Gh.th { G with th := upd G.th i { G.th i with mr := b.map (k, ·), old := o', deaf := deafBehind (G.th i).deaf es }, wd := upd G.wd k x', sm := upd G.sm k s' } i) = { G.th i with mr := b.map (k, ·), old := o', deaf := deafBehind (G.th i).deaf es } := upd_same _ _ _
    rw [e]
    exact this
end Go.Co

namespace Go.Co
open Go Go.Conc
open Go.ConcM (OsLater)
open Go.ConcN (sumTo upd sumTo_upd upd_ne upd_same sumTo_congr le_sumTo sumTo_le)
variable {E : Geo} {G G' : Gh} {w w' : World} {t t' u : Trace} {B B' : Nat}
structure LSame (l l' : Lo) : Prop where
  live : l'.live = l.live
  wk : l'.wk = l.wk
  own : l'.own = l.own
  mr : l'.mr = l.mr
  old : l'.old = l.old
  run : l'.run = l.run
  rel : l'.rel = l.rel
  gr : l'.gr = l.gr
  job : l'.job = l.job
  me : l'.me = l.me
  sc : l'.sc = l.sc
theorem GI.thr (h : GI E G w t) {i : Nat} {l' : Lo} (hi : (G.th i).live = true) (s : LSame (G.th i) l') (hpas : ∀ k, l'.pas k = true → (G.th i).pas k = true ∨ (k < E.K ∧ G.dn k = true)) (hpm : ∀ k, (G.th i).pas k = true → l'.pas k = true)
    (hkn : ∀ a v, l'.kn a = some v → (G.th i).kn a = some v ∨ ∃ d, G.app a = some (v, d) ∧ (d = .ro ∨ (∃ k, d = .pub k ∧ l'.pas k = true) ∨ ∃ k, d = .prot k ∧ l'.run = some k)) (hkm : ∀ a v, (G.th i).kn a = some v → l'.kn a = some v)
    (hch : l'.ch = (G.th i).ch ∨ l'.ch = .no ∨ (l'.ch = .recv ∧ E.hasC = true ∧ i ≠ 0 ∧ (∀ j, (G.th i).job = some j → E.rs j = none) ∧ (G.th i).mr = none ∧ (G.th i).gr = .out) ∨
      (∃ v, l'.ch = .send v ∧ E.hasC = true ∧ i = 0 ∧ G.pos < E.nj ∧ v = E.jv G.pos ∧ G.cl = false ∧ G.left = 0 ∧ (G.th i).gr = .out))
    (hm : GIm E G w') (hB : w'.heap.size = w.heap.size) (ht : GIt E { G with th := upd G.th i l' } w.heap.size t') :
    GI E { G with th := upd G.th i l' } w' t' ∧ Gh.Φ E.K E.nj { G with th := upd G.th i l' } ≤ G.Φ E.K E.nj := by
  have hlv : ∀ j, (upd G.th i l' j).live = (G.th j).live := fun j => fld Lo.live s.live j
  have hgr : ∀ j, (upd G.th i l' j).gr = (G.th j).gr := fun j => fld Lo.gr s.gr j
  have hmr : ∀ j, (upd G.th i l' j).mr = (G.th j).mr := fun j => fld Lo.mr s.mr j
  have hjb : ∀ j, (upd G.th i l' j).job = (G.th j).job := fun j => fld Lo.job s.job j
  have hru : ∀ j, (upd G.th i l' j).run = (G.th j).run := fun j => fld Lo.run s.run j
  have hpa : ∀ j k, (upd G.th i l' j).pas k = true → (G.th j).pas k = true ∨ (j = i ∧ k < E.K ∧ G.dn k = true) := fun j k hp => by
    by_cases e : j = i
    · subst e; rw [upd_same] at hp; exact (hpas k hp).imp id fun x => ⟨rfl, x⟩
    · rw [upd_ne _ _ e] at hp; exact .inl hp
  have hpb : ∀ j k, (G.th j).pas k = true → (upd G.th i l' j).pas k = true := fun j k hp => by
    by_cases e : j = i
    · subst e; rw [upd_same]; exact hpm k hp
    · rw [upd_ne _ _ e]; exact hp
  have hknb : ∀ j a v, (G.th j).kn a = some v → (upd G.th i l' j).kn a = some v := fun j a v hp => by
    by_cases e : j = i
    · subst e; rw [upd_same]; exact hkm a v hp
    · rw [upd_ne _ _ e]; exact hp
  refine ⟨⟨h.a.tr rfl rfl hlv, ?_, hm.tr (fun x => by cases x <;> rfl) rfl rfl, ?_, h.g.tr rfl rfl rfl rfl rfl rfl fun j => ⟨hlv j, fld Lo.wk s.wk j, hgr j⟩, ?_, h.more, by rw [hB]; exact ht⟩, ?_⟩
  · rw [hB]
    refine h.s.tr (Nat.le_refl _) (fun a v hv => ⟨v, hv⟩) fun j hj => ⟨?_, fld Lo.own s.own j⟩
    have : (upd G.th i l' j).live = true := hj
    rw [hlv] at this; exact this
  · refine ⟨fun k hk => ?_, fun j k r hj hm => ?_, fun j k hj hr => ?_, fun j k hj hp => ?_, fun a v k hv => ?_, h.k.ini, fun j a v hj hv => ?_⟩
    · have : Gh.cnt { G with th := upd G.th i l' } k = G.cnt k := by
        funext r
        exact sum_same (φ := fun l => l.at k r) (by simp only [Lo.at, s.live, s.mr])
      rw [this]; exact h.k.mu k hk
    · exact h.k.mrK j k r (by rw [← hlv]; exact hj) (by rw [← hmr]; exact hm)
    · have := h.k.run j k (by rw [← hlv]; exact hj) (by rw [← hru]; exact hr)
      rw [show (Gh.th _ j).mr = _ from hmr j]; exact this
    · rcases hpa j k hp with x | ⟨_, x⟩
      · exact h.k.pas j k (by rw [← hlv]; exact hj) x
      · exact x
    · obtain ⟨p1, p2, p3⟩ := h.k.prot a v k hv
      refine ⟨p1, p2, ?_⟩
      rcases p3 with ⟨j, q1, q2, q3⟩ | ⟨q1, q2⟩
      · exact .inl ⟨j, by rw [show (Gh.th _ j).live = _ from hlv j]; exact q1, by rw [show (Gh.th _ j).run = _ from hru j]; exact q2, hknb j a v q3⟩
      · exact .inr ⟨fun j hj => by rw [show (Gh.th _ j).run = _ from hru j]; exact q1 j (by rw [← hlv]; exact hj), q2⟩
    · have hj' : (G.th j).live = true := by rw [← hlv]; exact hj
      by_cases e : j = i
      · subst e
        have hv' : l'.kn a = some v := by
          have : (upd G.th j l' j).kn a = some v := hv
          rw [upd_same] at this; exact this
        show ∃ d, G.app a = some (v, d) ∧ (d = .ro ∨ (∃ k, d = .pub k ∧ (upd G.th j l' j).pas k = true) ∨ ∃ k, d = .prot k ∧ (upd G.th j l' j).run = some k)
        rw [upd_same]
        rcases hkn a v hv' with x | x
        · obtain ⟨d, d1, d2⟩ := h.k.kn j a v hj' x
          refine ⟨d, d1, d2.imp id (.imp (fun ⟨k, k1, k2⟩ => ⟨k, k1, hpm k k2⟩) fun ⟨k, k1, k2⟩ => ⟨k, k1, by rw [s.run]; exact k2⟩)⟩
        · exact x
      · have hv' : (G.th j).kn a = some v := by
          have : (upd G.th i l' j).kn a = some v := hv
          rw [upd_ne _ _ e] at this; exact this
        show ∃ d, G.app a = some (v, d) ∧ (d = .ro ∨ (∃ k, d = .pub k ∧ (upd G.th i l' j).pas k = true) ∨ ∃ k, d = .prot k ∧ (upd G.th i l' j).run = some k)
        rw [upd_ne _ _ e]
        exact h.k.kn j a v hj' hv'
  · refine ⟨fun hC j hj => ?_, fun j v hj hv => ?_, fun j hj hv => ?_, h.j.cl, h.j.posn, fun r => ?_, fun j jj hj hjj => ?_, h.j.tks, fun c1 c2 j hj => ?_, h.j.any, ?_, fun j hj hm => ?_, ?_, fun j hj hs => ?_⟩
    · have hj' : (G.th j).live = true := by rw [← hlv]; exact hj
      by_cases e : j = i
      · subst e
        show (upd G.th j l' j).ch = .no
        rw [upd_same]
        rcases hch with x | x | ⟨_, x, _⟩ | ⟨_, _, x, _⟩
        · rw [x]; exact h.j.noC hC j hj'
        · exact x
        · rw [hC] at x; cases x
        · rw [hC] at x; cases x
      · show (upd G.th i l' j).ch = .no
        rw [upd_ne _ _ e]; exact h.j.noC hC j hj'
    · have hj' : (G.th j).live = true := by rw [← hlv]; exact hj
      show j = 0 ∧ G.pos < E.nj ∧ v = E.jv G.pos ∧ G.cl = false ∧ G.left = 0 ∧ (upd G.th i l' j).gr = .out
      rw [hgr]
      by_cases e : j = i
      · subst e
        have hv' : l'.ch = .send v := by
          have : (upd G.th j l' j).ch = .send v := hv
          rw [upd_same] at this; exact this
        rcases hch with x | x | ⟨x, _⟩ | ⟨v', x, _, x1, x2, x3, x4, x5, x6⟩
        · exact h.j.ch0 j v hj' (by rw [← x]; exact hv')
        · rw [x] at hv'; cases hv'
        · rw [x] at hv'; cases hv'
        · rw [x] at hv'; cases hv'; exact ⟨x1, x2, x3, x4, x5, x6⟩
      · have hv' : (G.th j).ch = .send v := by
          have : (upd G.th i l' j).ch = .send v := hv
          rw [upd_ne _ _ e] at this; exact this
        exact h.j.ch0 j v hj' hv'
    · have hj' : (G.th j).live = true := by rw [← hlv]; exact hj
      show j ≠ 0 ∧ (∀ jj, (upd G.th i l' j).job = some jj → E.rs jj = none) ∧ (upd G.th i l' j).mr = none ∧ (upd G.th i l' j).gr = .out
      rw [hjb, hmr, hgr]
      by_cases e : j = i
      · subst e
        have hv' : l'.ch = .recv := by
          have : (upd G.th j l' j).ch = .recv := hv
          rw [upd_same] at this; exact this
        rcases hch with x | x | ⟨x, _, x1⟩ | ⟨v', x, _⟩
        · exact h.j.chR j hj' (by rw [← x]; exact hv')
        · rw [x] at hv'; cases hv'
        · exact x1
        · rw [x] at hv'; cases hv'
      · have hv' : (G.th j).ch = .recv := by
          have : (upd G.th i l' j).ch = .recv := hv
          rw [upd_ne _ _ e] at this; exact this
        exact h.j.chR j hj' hv'
    · have : (sumTo G.n fun j => (upd G.th i l' j).holds E.rs r) = sumTo G.n fun j => (G.th j).holds E.rs r := sum_same (φ := fun l => l.holds E.rs r) (by simp only [Lo.holds, s.job, s.live])
      show G.cv r + (sumTo G.n fun j => (upd G.th i l' j).holds E.rs r) = _
      rw [this]; exact h.j.cnt r
    · exact h.j.jobs j jj (by rw [← hlv]; exact hj) (by rw [← hjb]; exact hjj)
    · rw [show (Gh.th _ j).live = _ from hlv j, show (Gh.th _ j).gr = _ from hgr j]; exact h.j.stay c1 c2 j hj
    · intro c; rw [show (Gh.th _ 0).gr = _ from hgr 0]; exact h.j.shutW c
    · rw [show (Gh.th _ j).gr = _ from hgr j]
      exact h.j.mrG j (by rw [← hlv]; exact hj) (by rw [← hmr]; exact hm)
    · rw [show (Gh.th _ 0).me = (G.th 0).me from fld (i := i) (l := l') Lo.me s.me 0]; exact h.j.me
    · exact h.j.sc j (by rw [← hlv]; exact hj) (by rw [← fld (i := i) (l := l') Lo.sc s.sc j]; exact hs)
  · have hin := (h.a.liveW i hi).1
    have hwt : ∀ k, l'.wt k ≤ (G.th i).wt k := fun k => by
      unfold Lo.wt
      rw [s.mr, s.wk]
      have : (if (G.th i).wk = true ∧ l'.pas k = false then 15 else 0) ≤ (if (G.th i).wk = true ∧ (G.th i).pas k = false then 15 else 0) := by
        by_cases e : (G.th i).pas k = true
        · simp [hpm k e]
        · have : (G.th i).pas k = false := by simpa using e
          rw [this]; split <;> split <;> simp_all
      split
      · split
        · exact Nat.le_refl _
        · exact this
      · exact this
    have e1 := sum_upd hin G.th l' (fun l => l.φ E.K)
    have e2 : l'.φ E.K ≤ (G.th i).φ E.K := by
      have hb : l'.busy = (G.th i).busy := by unfold Lo.busy; rw [s.live, s.wk, s.gr]
      have hla : l'.lasts = (G.th i).lasts := by unfold Lo.lasts; rw [s.live, s.gr]
      have := sumTo_mono (n := E.K) (f := fun k => 64 * l'.wt k) (g := fun k => 64 * (G.th i).wt k) fun k _ => Nat.mul_le_mul_left _ (hwt k)
      unfold Lo.φ
      rw [s.live, if_pos hi, if_pos hi, hb, hla, s.gr]
      omega
    have e3 : ∀ k', (sumTo G.n fun j => (upd G.th i l' j).stale k' (G.wd k')) = sumTo G.n fun j => (G.th j).stale k' (G.wd k') := fun k' => sum_same (φ := fun l => l.stale k' (G.wd k')) (by simp only [Lo.stale, s.mr, s.old, s.live])
    have e4 : (upd G.th i l' 0).staleG G.wn = (G.th 0).staleG G.wn := fld (fun l => l.staleG G.wn) (by simp only [Lo.staleG, s.gr]) 0
    unfold Gh.Φ
    simp only [e3, e4]
    omega
theorem GI.said (h : GI E G w t) {i : Nat} {es : Array Event} (fn : FuncId) (pos : String) (hi : (G.th i).live = true) (he : ∀ e ∈ es, SEv E e) (hh : w'.heap = w.heap) (h1 : w'.tape = w.tape) (h2 : w'.output = w.output) (h3 : OsLater w.os w'.os)
    (hq : (G.th i).rel = none ∨ ∀ j e, es[j]? = some e → (MemAct.ofEvent e).touch? = none ∨ ((e.loc = .cell (E.sc .wst) ∨ e.loc = .cell (E.sc .wsm)) ∧ 0 < deafBehind (G.th i).deaf (es.extract 0 j))) :
    GI E { G with th := upd G.th i { G.th i with deaf := deafBehind (G.th i).deaf es } } w' (t ++ MemOp.ofEvents i fn pos es) ∧ Gh.Φ E.K E.nj { G with th := upd G.th i { G.th i with deaf := deafBehind (G.th i).deaf es } } ≤ G.Φ E.K E.nj := by
  refine h.thr hi ⟨rfl, rfl, rfl, rfl, rfl, rfl, rfl, rfl, rfl, rfl, rfl⟩ (fun k hk => .inl hk) (fun k hk => hk) (fun a v hv => .inl hv) (fun a v hv => hv) (.inl rfl) ?_ (by rw [hh]) ?_
  · exact h.m.world (fun a _ => cell_same (by rw [hh])) (fun _ => by rw [hh]) h1 h2 h3
  · refine h.evs fn pos hi he ⟨rfl, rfl, rfl, rfl, fun j => ⟨fld Lo.live (by rfl) j, fld Lo.own (by rfl) j, fld Lo.run (by rfl) j, fld Lo.pas (by rfl) j, fld Lo.rel (by rfl) j, ?_, ?_⟩⟩ (fun j => ?_) hq
    · rw [show (Gh.th _ j).gr = (G.th j).gr from fld (i := i) (l := { G.th i with deaf := deafBehind (G.th i).deaf es }) Lo.gr (by rfl) j]
    · rw [show (Gh.th _ j).gr = (G.th j).gr from fld (i := i) (l := { G.th i with deaf := deafBehind (G.th i).deaf es }) Lo.gr (by rfl) j]
    · show (upd G.th i { G.th i with deaf := deafBehind (G.th i).deaf es } j).deaf = _
      by_cases e : j = i
      · subst e; rw [upd_same, if_pos rfl]
      · rw [upd_ne _ _ e, if_neg e]
end Go.Co

namespace Go.Co
open Go Go.Conc
open Go.ConcM (OsLater)
open Go.ConcN (sumTo upd sumTo_upd upd_ne upd_same sumTo_congr le_sumTo sumTo_le)
variable {E : Geo} {G G' : Gh} {w w' : World} {t t' u : Trace} {B B' : Nat}
structure Did (E : Geo) (i : Nat) (G G' : Gh) (w w' : World) (t' : Trace) (l' : Lo) : Prop where
  gi : GI E G' w' t'
  th : G'.th i = l'
  oth : ∀ j, j ≠ i → G'.th j = G.th j
  n : G'.n = G.n
  view : ∀ j, (G.th j).live = true → j ≠ i → View (G.th j).own w w'
  phi : G'.Φ E.K E.nj ≤ G.Φ E.K E.nj
structure Calm (E : Geo) (G G' : Gh) : Prop where
  pk : ∀ j, G.PK E j → G'.PK E j
  cl : G'.cl = G.cl
theorem Calm.of {i : Nat} {l' : Lo} (h1 : G'.th = upd G.th i l') (h2 : G'.sm = G.sm) (h3 : G'.ws = G.ws) (h4 : G'.cl = G.cl) (h5 : l'.mr = (G.th i).mr) (h6 : l'.gr = (G.th i).gr) : Calm E G G' := by
  refine ⟨fun j hj => ?_, h4⟩
  unfold Gh.PK at hj ⊢
  rw [h1, h2, h3, fld (i := i) (l := l') Lo.mr h5 j, fld (i := i) (l := l') Lo.gr h6 0]
  exact hj
theorem TI.oneRead {D : Dis} {B : Nat} {t : Trace} {i : Nat} {fn : FuncId} {pos : String} {e : Event} {b : Touch} (h : TI D B t) (hb : (MemAct.ofEvent e).touch? = some b) (hl : Leg D i b) (hlow : (MemAct.ofEvent e).low B) : TI D B (t ++ MemOp.ofEvents i fn pos #[e]) := by
  refine h.step g_ofEvents (fun op hop b' hb' => ?_) (Nat.le_refl _) fun op hop => ?_
  · obtain ⟨x, hx, rfl⟩ := mem_evs hop
    simp only [List.mem_toArray, List.mem_singleton] at hx
    subst hx
    simp only at hb'
    rw [hb] at hb'; cases hb'; exact hl
  · obtain ⟨x, hx, rfl⟩ := mem_evs hop
    simp only [List.mem_toArray, List.mem_singleton] at hx
    subst hx; exact hlow
theorem ofEvents_one (i : Nat) (fn : FuncId) (pos : String) (e : Event) : MemOp.ofEvents i fn pos #[e] = #[{ g := i, fn, pos, act := .ofEvent e }] := by rw [ofEvents_eq]; simp
theorem GI.app_away (h : GI E G w t) {a : Addr} {v : Value} {d : Gd} (ha : G.app a = some (v, d)) (j : Nat) (hj : (G.th j).live = true) : ¬ (G.th j).own a.block := fun ho => (h.s.nsh j _ hj ho).2.1 a _ ha rfl
theorem GI.read (h : GI E G w t) {i : Nat} {a : Addr} {v : Value} {d : Gd} (fn : FuncId) (pos : String) (hi : (G.th i).live = true) (hrel : (G.th i).rel = none) (ha : G.app a = some (v, d))
    (hd : d = .ro ∨ (∃ k, d = .pub k ∧ (G.th i).pas k = true) ∨ (∃ k, d = .prot k ∧ (G.th i).run = some k) ∨ ∃ j, d = .out j ∧ G.tk j = some i) :
    GIt E G w.heap.size (t ++ MemOp.ofEvents i fn pos #[⟨.cell a, false, false⟩]) := by
  have hb : a.block < w.heap.size := cell_block (h.m.app a v d ha).1
  have hst : ∀ op ∈ MemOp.ofEvents i fn pos #[⟨.cell a, false, false⟩], op.act ≠ .mark .disable ∧ op.act ≠ .mark .enable := fun op hop => by
    rw [ofEvents_one] at hop; simp at hop; subst hop; exact ⟨by simp [MemAct.ofEvent], by simp [MemAct.ofEvent]⟩
  refine ⟨h.t.ti.oneRead rfl ⟨?_, fun j hj => ⟨fun hw => ?_, (fun e => by cases e), fun _ hw => ?_, (fun e => by cases e)⟩⟩ hb, fun j hj => ?_, fun j hj => ?_, ?_⟩
  · rcases hd with rfl | ⟨k, rfl, hp⟩ | ⟨k, rfl, hr⟩ | ⟨j, rfl, hj⟩
    · exact .inr (.inl ⟨rfl, rfl, hi, v, .inl ha⟩)
    · exact .inr (.inl ⟨rfl, rfl, hi, v, .inr ⟨k, ha, hp⟩⟩)
    · exact .inl ⟨hi, .inr (.inl ⟨v, k, ha, .inl hr⟩)⟩
    · exact .inl ⟨hi, .inr (.inr ⟨v, j, ha, .inl hj⟩)⟩
  · obtain ⟨hl, hw⟩ := hw
    rcases hw with hw | ⟨v', k', hv, hw⟩ | ⟨v', j', hv, hw⟩
    · exact h.app_away ha j hl hw
    · rw [ha] at hv; cases hv
      rcases hd with e | ⟨_, e, _⟩ | ⟨k, e, hr⟩ | ⟨_, e, _⟩ <;> first | (cases e; done) | skip
      obtain rfl : k' = k := by cases e; rfl
      rcases hw with hw | hw
      · have := (h.k.run j k' hl hw).1
        have h2 := (h.k.run i k' hi hr).1
        -- two hold one lock
        have hk := (h.k.mrK i k' _ hi h2).1
        have hc := (h.k.mu k' hk).l
        have hx := Bool.toNat_le (G.wd k').l
        have hin := (h.a.liveW i hi).1
        have hjn := (h.a.liveW j hl).1
        have s1 := sum_upd hin G.th { G.th i with mr := none } (fun l => l.at k' .held)
        have e1 : (G.th i).at k' .held = 1 := by unfold Lo.at; rw [if_pos ⟨hi, h2⟩]
        have e2 : ({ G.th i with mr := none } : Lo).at k' .held = 0 := by unfold Lo.at; simp
        have s2 := le_sumTo (f := fun a => (upd G.th i { G.th i with mr := none } a).at k' .held) hjn
        have e3 : (upd G.th i { G.th i with mr := none } j).at k' .held = 1 := by rw [upd_ne _ _ hj]; unfold Lo.at; rw [if_pos ⟨hl, this⟩]
        rw [e3] at s2
        rw [e1, e2] at s1
        unfold Gh.cnt at hc
        omega
      · exact hw i hi hr
    · rw [ha] at hv; cases hv
      rcases hd with e | ⟨_, e, _⟩ | ⟨_, e, _⟩ | ⟨jj, e, hjj⟩ <;> first | (cases e; done) | skip
      cases e
      rw [hjj] at hw
      rcases hw with hw | hw
      · cases hw; exact hj rfl
      · cases hw
  · obtain ⟨_, ⟨x, hx, e⟩ | ⟨v', k', hv, _⟩⟩ := hw
    · exact (h.m.app a v d ha).2.2 x hx e
    · rw [ha] at hv; cases hv
      rcases hd with e | ⟨_, e, _⟩ | ⟨_, e, _⟩ | ⟨_, e, _⟩ <;> cases e
  · rw [Go.ConcN.Deaf_still _ _ _ hst]; exact h.t.deaf j hj
  · rw [Go.ConcN.Deaf_still _ _ _ hst]; exact h.t.quiet j hj
  · refine h.t.tell.app g_ofEvents (h.ours hi) (fun op hop => ?_) (fun op hop b hb hw => ?_) (fun op hop b hb hk ad v' k' el hv => ?_) (fun _ => .inl hrel)
    · rw [ofEvents_one] at hop; simp at hop; subst hop; simp [MemAct.ofEvent]
    · rw [ofEvents_one] at hop; simp at hop; subst hop
      simp [MemAct.ofEvent, MemAct.touch?] at hb; subst hb; cases hw
    · rw [ofEvents_one] at hop; simp at hop; subst hop
      simp [MemAct.ofEvent, MemAct.touch?] at hb; subst hb
      simp only [Loc.cell.injEq] at el
      subst el
      rw [ha] at hv; cases hv
      rcases hd with e | ⟨_, e, _⟩ | ⟨_, e, _⟩ | ⟨_, e, _⟩ <;> cases e
theorem GI.load (h : GI E G w t) {i : Nat} {a : Addr} {v : Value} {d : Gd} (fn : FuncId) (pos : String) (hi : (G.th i).live = true) (hrel : (G.th i).rel = none) (ha : G.app a = some (v, d))
    (hd : d = .ro ∨ (∃ k, d = .pub k ∧ (G.th i).pas k = true) ∨ (∃ k, d = .prot k ∧ (G.th i).run = some k)) :
    ∃ G', Did E i G G' w w (t ++ MemOp.ofEvents i fn pos #[⟨.cell a, false, false⟩]) { G.th i with kn := fun x => if x = a then some v else (G.th i).kn x } ∧ Calm E G G' := by
  have ht := h.read fn pos hi hrel ha (hd.imp id (.imp id .inl))
  have hm : ∀ x v', (G.th i).kn x = some v' → (if x = a then some v else (G.th i).kn x) = some v' := by
    intro x v' hx
    by_cases e : x = a
    · subst e
      obtain ⟨d', h1, _⟩ := h.k.kn i x v' hi hx
      rw [ha] at h1; cases h1; rw [if_pos rfl]
    · rw [if_neg e]; exact hx
  have hh := h.thr (l' := { G.th i with kn := fun x => if x = a then some v else (G.th i).kn x }) (w' := w) (t' := t ++ MemOp.ofEvents i fn pos #[⟨.cell a, false, false⟩]) hi ⟨rfl, rfl, rfl, rfl, rfl, rfl, rfl, rfl, rfl, rfl, rfl⟩ (fun k hk => .inl hk) (fun k hk => hk) (fun x v' hx => by
      simp only at hx
      by_cases e : x = a
      · subst e; rw [if_pos rfl] at hx; cases hx; exact .inr ⟨d, ha, hd⟩
      · rw [if_neg e] at hx; exact .inl hx) hm (.inl rfl) h.m rfl
    (ht.tr ⟨rfl, rfl, rfl, rfl, fun j => ⟨fld Lo.live (by rfl) j, fld Lo.own (by rfl) j, fld Lo.run (by rfl) j, fld Lo.pas (by rfl) j, fld Lo.rel (by rfl) j, by rw [fld (i := i) (l := { G.th i with kn := fun x => if x = a then some v else (G.th i).kn x }) Lo.gr (by rfl) j], by rw [fld (i := i) (l := { G.th i with kn := fun x => if x = a then some v else (G.th i).kn x }) Lo.gr (by rfl) j]⟩⟩ (fun j => fld Lo.deaf (by rfl) j) (Nat.le_refl _))
  exact ⟨_, ⟨hh.1, upd_same _ _ _, fun j hj => upd_ne _ _ hj, rfl, fun j _ _ => View.refl _ _, hh.2⟩, Calm.of rfl rfl rfl rfl rfl rfl⟩
theorem GI.setPas (h : GI E G w t) {i k : Nat} (hi : (G.th i).live = true) (hk : k < E.K) (hd : G.dn k = true) (hkn : ∀ p, LastWrite t (E.sc (.done k)) p → t.heard p → Knows t i p) :
    GI E { G with th := upd G.th i { G.th i with pas := upd (G.th i).pas k true } } w t ∧ Gh.Φ E.K E.nj { G with th := upd G.th i { G.th i with pas := upd (G.th i).pas k true } } ≤ G.Φ E.K E.nj := by
  have hpm : ∀ k', (G.th i).pas k' = true → upd (G.th i).pas k true k' = true := fun k' hk' => by
    by_cases e : k' = k
    · subst e; exact upd_same ..
    · rw [upd_ne _ _ e]; exact hk'
  have hpn : ∀ k', upd (G.th i).pas k true k' = true → (G.th i).pas k' = true ∨ k' = k := fun k' hk' => by
    by_cases e : k' = k
    · exact .inr e
    · rw [upd_ne _ _ e] at hk'; exact .inl hk'
  refine h.thr hi ⟨rfl, rfl, rfl, rfl, rfl, rfl, rfl, rfl, rfl, rfl, rfl⟩ (fun k' hk' => ?_) hpm (fun a v hv => .inl hv) (fun a v hv => hv) (.inl rfl) h.m rfl ?_
  · rcases hpn k' hk' with x | rfl
    · exact .inl x
    · exact .inr ⟨hk, hd⟩
  · obtain ⟨p, p1, p2, p3, p4⟩ := h.t.tell.pub k hk hd
    have hKp := hkn p p1 p2
    have hpas : ∀ j k', (upd G.th i { G.th i with pas := upd (G.th i).pas k true } j).pas k' = true → (G.th j).pas k' = true ∨ (j = i ∧ k' = k) := fun j k' hj => by
      by_cases e : j = i
      · subst e; rw [upd_same] at hj; exact (hpn k' hj).imp id fun x => ⟨rfl, x⟩
      · rw [upd_ne _ _ e] at hj; exact .inl hj
    have hlv : ∀ j, (upd G.th i { G.th i with pas := upd (G.th i).pas k true } j).live = (G.th j).live := fun j => fld Lo.live (by rfl) j
    have hru : ∀ j, (upd G.th i { G.th i with pas := upd (G.th i).pas k true } j).run = (G.th j).run := fun j => fld Lo.run (by rfl) j
    have hgr : ∀ j, (upd G.th i { G.th i with pas := upd (G.th i).pas k true } j).gr = (G.th j).gr := fun j => fld Lo.gr (by rfl) j
    have hrl : ∀ j, (upd G.th i { G.th i with pas := upd (G.th i).pas k true } j).rel = (G.th j).rel := fun j => fld Lo.rel (by rfl) j
    refine ⟨?_, fun j hj => ?_, h.t.quiet, ?_⟩
    · refine h.t.ti.change (fun g l hw => .inl ?_) (fun g l hw => ?_) (fun g l hw => ?_) (fun g l hw => .inl hw)
      · obtain ⟨hl, hw⟩ := hw
        refine ⟨by rw [← hlv]; exact hl, ?_⟩
        cases l with
        | cell a =>
          rcases hw with hw | ⟨v, k', hv, hw⟩ | hw
          · exact .inl (by rw [← fld (i := i) (l := { G.th i with pas := upd (G.th i).pas k true }) Lo.own (by rfl) g]; exact hw)
          · exact .inr (.inl ⟨v, k', hv, hw.imp (fun x => by rw [← hru]; exact x) fun x j hj => by rw [← hru]; exact x j (by rw [show (Gh.th _ j).live = _ from hlv j]; exact hj)⟩)
          · exact .inr (.inr hw)
        | obj r => exact (by rw [← fld (i := i) (l := { G.th i with pas := upd (G.th i).pas k true }) Lo.own (by rfl) g]; exact hw)
        | _ => exact hw.elim
      · obtain ⟨hl, hw⟩ := hw
        have hl' : (G.th g).live = true := by rw [← hlv]; exact hl
        cases l with
        | cell a =>
          obtain ⟨v, hv | ⟨k', hv, hp⟩⟩ := hw
          · exact .inl ⟨hl', v, .inl hv⟩
          · rcases hpas g k' hp with x | ⟨rfl, rfl⟩
            · exact .inl ⟨hl', v, .inr ⟨k', hv, x⟩⟩
            · right
              intro j b hb hbl hbw
              obtain ⟨op, hop, hob⟩ := touch_of hb
              exact Knows.of_before (p3 j op b a v hop hob hbl (.inl ⟨hv, hbw⟩)) hKp
        | _ => exact hw.elim
      · obtain ⟨hl, hw⟩ := hw
        have hl' : (G.th g).live = true := by rw [← hlv]; exact hl
        cases l with
        | cell a =>
          rcases hw with hw | ⟨v, k', hv, hp⟩
          · exact .inl ⟨hl', .inl hw⟩
          · rcases hpas g k' hp with x | ⟨rfl, rfl⟩
            · exact .inl ⟨hl', .inr ⟨v, k', hv, x⟩⟩
            · right
              intro j b hb hbl hbw
              obtain ⟨op, hop, hob⟩ := touch_of hb
              exact Knows.of_before (p3 j op b a v hop hob hbl (.inr ⟨hv, hbw⟩)) hKp
        | obj r => exact .inl ⟨hl', hw⟩
        | _ => exact hw.elim
    · show Deaf t j = (upd G.th i { G.th i with pas := upd (G.th i).pas k true } j).deaf
      rw [fld Lo.deaf (by rfl) j]; exact h.t.deaf j (by rw [← hlv]; exact hj)
    · have T := h.t.tell
      refine ⟨T.known, T.over, T.norel, fun g hg => ?_, fun k' hk' hd' => ?_, fun hj g r hg hr => ?_⟩
      · rw [show (Gh.th _ g).rel = _ from hrl g, show (Gh.th _ g).live = _ from hlv g, show (Gh.th _ g).gr = _ from hgr g]; exact T.rel g hg
      · obtain ⟨q, q1, q2, q3, q4⟩ := T.pub k' hk' hd'
        refine ⟨q, q1, q2, q3, fun j hj hp => ?_⟩
        rcases hpas j k' hp with x | ⟨rfl, rfl⟩
        · exact q4 j (by rw [← hlv]; exact hj) x
        · exact hkn q q1 q2
      · exact T.join (by rw [← hgr]; exact hj) g r hg (by rw [← hrl]; exact hr)
theorem GI.seenDone (h : GI E G w t) {i k : Nat} (fn : FuncId) (pos : String) (hi : (G.th i).live = true) (hk : k < E.K) (hdf : (G.th i).deaf = 0) (hrel : (G.th i).rel = none) (hd : G.dn k = true) :
    ∃ G', Did E i G G' w w (t ++ MemOp.ofEvents i fn pos #[⟨.cell (E.sc (.done k)), false, true⟩]) { G.th i with pas := upd (G.th i).pas k true } ∧ Calm E G G' := by
  have he : ∀ e ∈ (#[⟨.cell (E.sc (.done k)), false, true⟩] : Array Event), SEv E e := by
    intro e he; simp at he; subst he; exact .inl ⟨.done k, false, hk, rfl, fun x => by cases x⟩
  obtain ⟨h1, h2⟩ := h.said fn pos hi he rfl rfl rfl (OsLater.refl _) (.inl hrel)
  have e1 : ({ G with th := upd G.th i { G.th i with deaf := deafBehind (G.th i).deaf #[⟨.cell (E.sc (.done k)), false, true⟩] } } : Gh) = G := by
    have : deafBehind (G.th i).deaf #[⟨.cell (E.sc (.done k)), false, true⟩] = (G.th i).deaf := rfl
    rw [this]
    have : upd G.th i { G.th i with deaf := (G.th i).deaf } = G.th := by funext j; by_cases e : j = i <;> simp [upd, e]
    rw [this]
  rw [e1] at h1 h2
  have h3 := h1.setPas (i := i) (k := k) hi hk hd fun p hp hh => by
    rw [ofEvents_one] at hp hh ⊢
    have hpl := lt_of_act? hp.1
    have hps : p < t.size := by
      rcases Nat.lt_or_ge p t.size with x | x
      · exact x
      · have : p = t.size := by simp at hpl; omega
        subst this
        have := hp.1
        rw [act?_of (op := { g := i, fn, pos, act := .ofEvent ⟨.cell (E.sc (.done k)), false, true⟩ }) (by simp)] at this
        simp [MemAct.ofEvent] at this
    have hl : LastWrite t (E.sc (.done k)) p := ⟨by rw [← act?_old (u := #[{ g := i, fn, pos, act := .ofEvent ⟨.cell (E.sc (.done k)), false, true⟩ }]) hps]; exact hp.1, fun q s hq e => by
      have hql := lt_of_act? e
      exact hp.2 q s hq (by rw [act?_old hql]; exact e)⟩
    have hhd : t.heard p := (heard_old hps).1 hh
    exact LastWrite.knows' (y := { g := i, fn, pos, act := .ofEvent ⟨.cell (E.sc (.done k)), false, true⟩ }) hl hhd (by rw [h.t.deaf i hi]; exact hdf) rfl
  exact ⟨_, ⟨h3.1, upd_same _ _ _, fun j hj => upd_ne _ _ hj, rfl, fun j _ _ => View.refl _ _, h3.2⟩, Calm.of rfl rfl rfl rfl rfl rfl⟩
theorem GI.seenOpen (h : GI E G w t) {i k : Nat} (fn : FuncId) (pos : String) (hi : (G.th i).live = true) (hk : k < E.K) (hrel : (G.th i).rel = none) : GI E G w (t ++ MemOp.ofEvents i fn pos #[⟨.cell (E.sc (.done k)), false, true⟩]) := by
  have he : ∀ e ∈ (#[⟨.cell (E.sc (.done k)), false, true⟩] : Array Event), SEv E e := by
    intro e he; simp at he; subst he; exact .inl ⟨.done k, false, hk, rfl, fun x => by cases x⟩
  obtain ⟨h1, h2⟩ := h.said fn pos hi he rfl rfl rfl (OsLater.refl _) (.inl hrel)
  have : deafBehind (G.th i).deaf #[⟨.cell (E.sc (.done k)), false, true⟩] = (G.th i).deaf := rfl
  rw [this] at h1
  have : upd G.th i { G.th i with deaf := (G.th i).deaf } = G.th := by funext j; by_cases e : j = i <;> simp [upd, e]
  rw [this] at h1
  exact h1
end Go.Co

namespace Go.Co
open Go Go.Conc
open Go.ConcM (OsLater)
open Go.ConcN (sumTo upd sumTo_upd upd_ne upd_same sumTo_congr le_sumTo sumTo_le)
variable {E : Geo} {G G' : Gh} {w w' : World} {t t' u : Trace} {B B' : Nat}
theorem set_other {w : World} {a b : Addr} {v0 : Value} (hc : w.cell? a = some v0) (v : Value) (hne : b ≠ a) : (w.setCell a v).cell? b = w.cell? b := by
  unfold World.setCell World.cell?
  by_cases hb : a.block = b.block
  · simp only [Array.getElem?_modify, hb, if_true]
    unfold World.cell? at hc
    rw [hb] at hc
    split at hc
    · rename_i c e f hh
      rw [hh]
      simp only [Option.map_some]
      by_cases hs : b.spot.isSome = true
      · simp [hs]
      · split at hc
        · cases hc
        · rename_i hsx
          have ho : a.off ≠ b.off := fun ho => hne (by
            have h1 : a.spot = none := by simpa using hsx
            have h2 : b.spot = none := by simpa using hs
            cases a; cases b
            simp_all)
          simp [hs, hsx, Array.getElem?_setIfInBounds_ne ho]
    · cases hc
  · simp only [Array.getElem?_modify, if_neg hb]
theorem set_frz (w : World) (a b : Addr) (v : Value) : (w.setCell a v).frozen? b = w.frozen? b := by
  unfold World.setCell World.frozen?
  by_cases hb : a.block = b.block
  · simp only [Array.getElem?_modify, hb, if_true]
    cases w.heap[b.block]? with
    | none => rfl
    | some o => cases o <;> rfl
  · simp only [Array.getElem?_modify, if_neg hb]
theorem set_self {w : World} {a : Addr} {v0 : Value} (hc : w.cell? a = some v0) (v : Value) : (w.setCell a v).cell? a = some v := by
  unfold World.cell? at hc
  unfold World.setCell World.cell?
  simp only [Array.getElem?_modify, if_true]
  split at hc
  · rename_i c e f hh
    rw [hh]
    split at hc
    · cases hc
    · rename_i hsx
      simp only [Option.map_some, hsx]
      have := (Array.getElem?_eq_some_iff.1 hc).1
      simp [this]
  · cases hc
theorem set_blk (w : World) (a : Addr) (v : Value) {b : Nat} (hb : a.block ≠ b) : (w.setCell a v).heap[b]? = w.heap[b]? := by
  unfold World.setCell
  simp only [Array.getElem?_modify, if_neg hb]
theorem GI.held1 (h : GI E G w t) {i j k : Nat} (hi : (G.th i).live = true) (hj : (G.th j).live = true) (h1 : (G.th i).mr = some (k, .held)) (h2 : (G.th j).mr = some (k, .held)) : j = i := by
  by_cases e : j = i
  · exact e
  exfalso
  have hk := (h.k.mrK i k _ hi h1).1
  have hc := (h.k.mu k hk).l
  have hx := Bool.toNat_le (G.wd k).l
  have hin := (h.a.liveW i hi).1
  have hjn := (h.a.liveW j hj).1
  have s1 := sum_upd hin G.th { G.th i with mr := none } (fun l => l.at k .held)
  have e1 : (G.th i).at k .held = 1 := by unfold Lo.at; rw [if_pos ⟨hi, h1⟩]
  have e2 : ({ G.th i with mr := none } : Lo).at k .held = 0 := by unfold Lo.at; simp
  have s2 := le_sumTo (f := fun a => (upd G.th i { G.th i with mr := none } a).at k .held) hjn
  have e3 : (upd G.th i { G.th i with mr := none } j).at k .held = 1 := by rw [upd_ne _ _ e]; unfold Lo.at; rw [if_pos ⟨hj, h2⟩]
  rw [e3] at s2
  rw [e1, e2] at s1
  unfold Gh.cnt at hc
  omega
theorem GI.run1 (h : GI E G w t) {i j k : Nat} (hi : (G.th i).live = true) (hj : (G.th j).live = true) (h1 : (G.th i).mr = some (k, .held)) (h2 : (G.th j).run = some k) : j = i :=
  h.held1 hi hj h1 (h.k.run j k hj h2).1
structure LKeep (l l' : Lo) : Prop where
  live : l'.live = l.live
  wk : l'.wk = l.wk
  mr : l'.mr = l.mr
  old : l'.old = l.old
  rel : l'.rel = l.rel
  gr : l'.gr = l.gr
  job : l'.job = l.job
  me : l'.me = l.me
  sc : l'.sc = l.sc
  ch : l'.ch = l.ch
  deaf : l'.deaf = l.deaf
  pas : ∀ k, l.pas k = true → l'.pas k = true
theorem GI.chg (h : GI E G w t) {i : Nat} {l' : Lo} {app' : Addr → Option (Value × Gd)} {dn' : Nat → Bool} (hi : (G.th i).live = true) (s : LKeep (G.th i) l')
    (hs : GIs E { G with th := upd G.th i l', app := app', dn := dn' } w'.heap.size) (hm : GIm E { G with th := upd G.th i l', app := app', dn := dn' } w')
    (hk : GIk E { G with th := upd G.th i l', app := app', dn := dn' }) (more : E.App app' dn' G.cv) (ht : GIt E { G with th := upd G.th i l', app := app', dn := dn' } w'.heap.size t') :
    GI E { G with th := upd G.th i l', app := app', dn := dn' } w' t' ∧ Gh.Φ E.K E.nj { G with th := upd G.th i l', app := app', dn := dn' } ≤ G.Φ E.K E.nj := by
  refine ⟨⟨h.a.tr rfl rfl fun j => fld Lo.live s.live j, hs, hm, hk, h.g.tr rfl rfl rfl rfl rfl rfl fun j => ⟨fld Lo.live s.live j, fld Lo.wk s.wk j, fld Lo.gr s.gr j⟩,
    h.j.tr rfl rfl rfl rfl rfl rfl rfl fun j => ⟨fld Lo.live s.live j, fld Lo.ch s.ch j, fld Lo.job s.job j, fld Lo.mr s.mr j, fld Lo.gr s.gr j, fld Lo.me s.me j, fld Lo.sc s.sc j⟩, more, ht⟩, ?_⟩
  have hin := (h.a.liveW i hi).1
  have hwt : ∀ k, l'.wt k ≤ (G.th i).wt k := fun k => by
    unfold Lo.wt
    rw [s.mr, s.wk]
    have : (if (G.th i).wk = true ∧ l'.pas k = false then 15 else 0) ≤ (if (G.th i).wk = true ∧ (G.th i).pas k = false then 15 else 0) := by
      by_cases e : (G.th i).pas k = true
      · simp [s.pas k e]
      · have : (G.th i).pas k = false := by simpa using e
        rw [this]; split <;> split <;> simp_all
    split
    · split
      · exact Nat.le_refl _
      · exact this
    · exact this
  have e1 := sum_upd hin G.th l' (fun l => l.φ E.K)
  have e2 : l'.φ E.K ≤ (G.th i).φ E.K := by
    have hb : l'.busy = (G.th i).busy := by unfold Lo.busy; rw [s.live, s.wk, s.gr]
    have hla : l'.lasts = (G.th i).lasts := by unfold Lo.lasts; rw [s.live, s.gr]
    have := sumTo_mono (n := E.K) (f := fun k => 64 * l'.wt k) (g := fun k => 64 * (G.th i).wt k) fun k _ => Nat.mul_le_mul_left _ (hwt k)
    unfold Lo.φ
    rw [s.live, if_pos hi, if_pos hi, hb, hla, s.gr]
    omega
  have e3 : ∀ k', (sumTo G.n fun j => (upd G.th i l' j).stale k' (G.wd k')) = sumTo G.n fun j => (G.th j).stale k' (G.wd k') := fun k' => sum_same (φ := fun l => l.stale k' (G.wd k')) (by simp only [Lo.stale, s.mr, s.old, s.live])
  have e4 : (upd G.th i l' 0).staleG G.wn = (G.th 0).staleG G.wn := fld (fun l => l.staleG G.wn) (by simp only [Lo.staleG, s.gr]) 0
  unfold Gh.Φ
  simp only [e3, e4]
  omega
theorem GIt.less (h : GIt E G B t) (hn : G'.n = G.n) (hl : ∀ g, (G'.th g).live = (G.th g).live) (hd : ∀ g, (G'.th g).deaf = (G.th g).deaf)
    (hW : ∀ g a, (G.th g).live = true → G'.kW g a → G.kW g a) (hO : ∀ g b, (G.th g).live = true → (G'.th g).own b → (G.th g).own b) (hR : ∀ g a, (G.th g).live = true → G'.kR g a → G.kR g a) (hA : ∀ g a, (G.th g).live = true → E.kA G' g a → E.kA G g a)
    (tell : Tell E G' t) : GIt E G' B t := by
  refine ⟨h.ti.change (fun g l hw => .inl ?_) (fun g l hw => .inl ?_) (fun g l hw => .inl ?_) (fun g l hw => .inl hw), fun j hj => by rw [hd]; exact h.deaf j (by rw [← hl]; exact hj), fun j hj => h.quiet j (by rw [← hn]; exact hj), tell⟩
  · obtain ⟨h1, h2⟩ := hw
    have h1' : (G.th g).live = true := by rw [← hl]; exact h1
    refine ⟨h1', ?_⟩
    cases l with
    | cell a => exact hW g a h1' h2
    | obj r => exact hO g r h1' h2
    | _ => exact h2.elim
  · obtain ⟨h1, h2⟩ := hw
    have h1' : (G.th g).live = true := by rw [← hl]; exact h1
    refine ⟨h1', ?_⟩
    cases l with
    | cell a => exact hR g a h1' h2
    | _ => exact h2.elim
  · obtain ⟨h1, h2⟩ := hw
    have h1' : (G.th g).live = true := by rw [← hl]; exact h1
    refine ⟨h1', ?_⟩
    cases l with
    | cell a => exact hA g a h1' h2
    | obj r => exact h2
    | _ => exact h2.elim
theorem Tell.tra (h : Tell E G t) (hn : G'.n = G.n) (ha : ∀ ad v k, (G'.app ad = some (v, .pub k) → ∃ v', G.app ad = some (v', .pub k)) ∧ (G'.app ad = some (v, .ctr k) → ∃ v', G.app ad = some (v', .ctr k))) (hdn : G'.dn = G.dn)
    (hth : ∀ j, (G'.th j).live = (G.th j).live ∧ (G'.th j).pas = (G.th j).pas ∧ (G'.th j).rel = (G.th j).rel ∧ (G'.th j).gr = (G.th j).gr) : Tell E G' t := by
  have eo : ∀ g, E.ours G' g ↔ E.ours G g := fun g => by unfold Geo.ours; rw [hn]
  refine ⟨fun i op a h1 h2 h3 => ?_, fun i op h1 h2 h3 => ?_, h.norel, fun g hg => ?_, fun k hk hd => ?_, fun hj g r hg hr => ?_⟩
  · rw [eo]; exact h.known i op a h1 h2 h3
  · rw [eo]; exact h.over i op h1 h2 h3
  · rw [(hth g).2.2.1, (hth g).1, (hth g).2.2.2]; exact h.rel g ((eo g).1 hg)
  · rw [hdn] at hd
    obtain ⟨p, a1, a2, a3, a4⟩ := h.pub k hk hd
    refine ⟨p, a1, a2, fun i op a ad v h1 h2 h3 h4 => ?_, fun i hi hp => a4 i (by rw [← (hth i).1]; exact hi) (by rw [← (hth i).2.1]; exact hp)⟩
    rcases h4 with ⟨h4, h5⟩ | ⟨h4, h5⟩
    · obtain ⟨v', h4⟩ := (ha ad v k).1 h4; exact a3 i op a ad v' h1 h2 h3 (.inl ⟨h4, h5⟩)
    · obtain ⟨v', h4⟩ := (ha ad v k).2 h4; exact a3 i op a ad v' h1 h2 h3 (.inr ⟨h4, h5⟩)
  · rw [(hth g).2.2.1] at hr; exact h.join (by rw [← (hth 0).2.2.2]; exact hj) g r ((eo g).1 hg) hr
def Geo.kn0 (E : Geo) (k : Nat) (kn : Addr → Option Value) : Addr → Option Value := fun a => match E.ini a with
  | some (v, k') => if k' = k then some v else kn a
  | none => kn a
theorem GI.setRun (h : GI E G w t) {i k : Nat} (hi : (G.th i).live = true) (hmr : (G.th i).mr = some (k, .held)) (hd : G.dn k = false) (hrun : (G.th i).run = none) :
    GI E { G with th := upd G.th i { G.th i with run := some k, kn := E.kn0 k (G.th i).kn } } w t ∧ Gh.Φ E.K E.nj { G with th := upd G.th i { G.th i with run := some k, kn := E.kn0 k (G.th i).kn } } ≤ G.Φ E.K E.nj := by
  have hkK := (h.k.mrK i k _ hi hmr).1
  have hno : ∀ j, (G.th j).live = true → (G.th j).run ≠ some k := fun j hj hr => by
    have := h.run1 hi hj hmr hr
    subst this; rw [hrun] at hr; cases hr
  have hlv : ∀ j, (upd G.th i { G.th i with run := some k, kn := E.kn0 k (G.th i).kn } j).live = (G.th j).live := fun j => fld Lo.live (by rfl) j
  have hown : ∀ j, (upd G.th i { G.th i with run := some k, kn := E.kn0 k (G.th i).kn } j).own = (G.th j).own := fun j => fld Lo.own (by rfl) j
  have hpas : ∀ j, (upd G.th i { G.th i with run := some k, kn := E.kn0 k (G.th i).kn } j).pas = (G.th j).pas := fun j => fld Lo.pas (by rfl) j
  have hmrs : ∀ j, (upd G.th i { G.th i with run := some k, kn := E.kn0 k (G.th i).kn } j).mr = (G.th j).mr := fun j => fld Lo.mr (by rfl) j
  have hrun' : ∀ j k', (upd G.th i { G.th i with run := some k, kn := E.kn0 k (G.th i).kn } j).run = some k' → (j = i ∧ k' = k) ∨ (j ≠ i ∧ (G.th j).run = some k') := fun j k' hj => by
    by_cases e : j = i
    · subst e; rw [upd_same] at hj; cases hj; exact .inl ⟨rfl, rfl⟩
    · rw [upd_ne _ _ e] at hj; exact .inr ⟨e, hj⟩
  have hprot : ∀ a v, G.app a = some (v, .prot k) → E.ini a = some (v, k) := fun a v hv => by
    obtain ⟨_, _, ⟨j, q1, q2, _⟩ | ⟨_, q⟩⟩ := h.k.prot a v k hv
    · exact absurd q2 (hno j q1)
    · exact q
  have hkn0 : ∀ a v, E.kn0 k (G.th i).kn a = some v → G.app a = some (v, .prot k) ∨ (G.th i).kn a = some v := fun a v hv => by
    unfold Geo.kn0 at hv
    split at hv
    · rename_i v' k' hini
      split at hv
      · rename_i e; subst e
        cases hv
        obtain ⟨v'', hv''⟩ := h.k.ini a v k' hini hd
        have := hprot a v'' hv''
        rw [hini] at this; cases this
        exact .inl hv''
      · exact .inr hv
    · exact .inr hv
  refine h.chg (app' := G.app) (dn' := G.dn) hi ⟨rfl, rfl, rfl, rfl, rfl, rfl, rfl, rfl, rfl, rfl, rfl, fun k hk => hk⟩ ?_ (h.m.tr (fun x => by cases x <;> rfl) rfl rfl) ?_ h.more ?_
  · exact h.s.tr (Nat.le_refl _) (fun a v hv => ⟨v, hv⟩) fun j hj => ⟨by have hj : (upd G.th i _ j).live = true := hj; rw [hlv] at hj; exact hj, hown j⟩
  · refine ⟨fun k' hk => ?_, fun j k' r hj hm => h.k.mrK j k' r (by rw [← hlv]; exact hj) (by rw [← hmrs]; exact hm), fun j k' hj hr => ?_, fun j k' hj hp => h.k.pas j k' (by rw [← hlv]; exact hj) (by rw [← hpas]; exact hp), fun a v k' hv => ?_, h.k.ini, fun j a v hj hv => ?_⟩
    · have : Gh.cnt { G with th := upd G.th i { G.th i with run := some k, kn := E.kn0 k (G.th i).kn } } k' = G.cnt k' := by
        funext r
        exact sum_same (φ := fun l => l.at k' r) (by simp only [Lo.at])
      rw [this]; exact h.k.mu k' hk
    · rw [show (Gh.th _ j).mr = _ from hmrs j]
      rcases hrun' j k' hr with ⟨rfl, rfl⟩ | ⟨_, hr⟩
      · exact ⟨hmr, hd⟩
      · exact h.k.run j k' (by rw [← hlv]; exact hj) hr
    · obtain ⟨p1, p2, p3⟩ := h.k.prot a v k' hv
      refine ⟨p1, p2, ?_⟩
      by_cases e : k' = k
      · subst e
        refine .inl ⟨i, by rw [show (Gh.th _ i).live = _ from hlv i]; exact hi, by rw [show (Gh.th _ i) = _ from upd_same _ _ _], ?_⟩
        rw [show (Gh.th _ i) = _ from upd_same _ _ _]
        simp [Geo.kn0, hprot a v hv]
      · rcases p3 with ⟨j, q1, q2, q3⟩ | ⟨q1, q2⟩
        · have hji : j ≠ i := fun e => by subst e; rw [hrun] at q2; cases q2
          refine .inl ⟨j, ?_⟩
          rw [show (Gh.th _ j) = _ from upd_ne _ _ hji]
          exact ⟨q1, q2, q3⟩
        · refine .inr ⟨fun j hj hr => ?_, q2⟩
          rcases hrun' j k' hr with ⟨_, x⟩ | ⟨_, x⟩
          · exact e x
          · exact q1 j (by rw [← hlv]; exact hj) x
    · have hj' : (G.th j).live = true := by rw [← hlv]; exact hj
      by_cases e : j = i
      · subst e
        have hv : (upd G.th j { G.th j with run := some k, kn := E.kn0 k (G.th j).kn } j).kn a = some v := hv
        show ∃ d, G.app a = some (v, d) ∧ (d = .ro ∨ (∃ k', d = .pub k' ∧ (upd G.th j { G.th j with run := some k, kn := E.kn0 k (G.th j).kn } j).pas k' = true) ∨ ∃ k', d = .prot k' ∧ (upd G.th j { G.th j with run := some k, kn := E.kn0 k (G.th j).kn } j).run = some k')
        rw [upd_same] at hv ⊢
        rcases hkn0 a v hv with x | x
        · exact ⟨_, x, .inr (.inr ⟨k, rfl, rfl⟩)⟩
        · obtain ⟨d, d1, d2⟩ := h.k.kn j a v hj' x
          refine ⟨d, d1, d2.imp id (.imp id fun ⟨k', _, k2⟩ => ?_)⟩
          rw [hrun] at k2; cases k2
      · have hv : (upd G.th i { G.th i with run := some k, kn := E.kn0 k (G.th i).kn } j).kn a = some v := hv
        show ∃ d, G.app a = some (v, d) ∧ (d = .ro ∨ (∃ k', d = .pub k' ∧ (upd G.th i { G.th i with run := some k, kn := E.kn0 k (G.th i).kn } j).pas k' = true) ∨ ∃ k', d = .prot k' ∧ (upd G.th i { G.th i with run := some k, kn := E.kn0 k (G.th i).kn } j).run = some k')
        rw [upd_ne _ _ e] at hv ⊢
        exact h.k.kn j a v hj' hv
  · refine h.t.less rfl hlv (fun j => fld Lo.deaf (by rfl) j) (fun g a hg hw => ?_) (fun g b hg hb => by rw [← hown]; exact hb) (fun g a hg hr => ?_) (fun g a hg ha => ?_) ?_
    · rcases hw with hw | ⟨v, k', hv, hw⟩ | hw
      · exact .inl (by rw [← hown]; exact hw)
      · refine .inr (.inl ⟨v, k', hv, ?_⟩)
        rcases hw with hw | hw
        · rcases hrun' g k' hw with ⟨_, rfl⟩ | ⟨_, x⟩
          · exact .inr hno
          · exact .inl x
        · right
          intro j hj hr
          by_cases e : j = i
          · subst e; rw [hrun] at hr; cases hr
          · refine hw j (by rw [show (Gh.th _ j).live = _ from hlv j]; exact hj) ?_
            rw [show (Gh.th _ j) = _ from upd_ne _ _ e]; exact hr
      · exact .inr (.inr hw)
    · obtain ⟨v, hv | ⟨k', hv, hp⟩⟩ := hr
      · exact ⟨v, .inl hv⟩
      · exact ⟨v, .inr ⟨k', hv, by rw [← hpas]; exact hp⟩⟩
    · rcases ha with ha | ⟨v, k', hv, hp⟩
      · exact .inl ha
      · exact .inr ⟨v, k', hv, by rw [← hpas]; exact hp⟩
    · exact h.t.tell.tra rfl (fun ad v k => ⟨fun x => ⟨v, x⟩, fun x => ⟨v, x⟩⟩) rfl fun j => ⟨hlv j, hpas j, fld Lo.rel (by rfl) j, fld Lo.gr (by rfl) j⟩
end Go.Co

namespace Go.Co
open Go Go.Conc
open Go.ConcM (OsLater)
open Go.ConcN (sumTo upd sumTo_upd upd_ne upd_same sumTo_congr le_sumTo sumTo_le)
variable {E : Geo} {G G' : Gh} {w w' : World} {t t' u : Trace} {B B' : Nat}
def setApp (app : Addr → Option (Value × Gd)) (a : Addr) (x : Value × Gd) : Addr → Option (Value × Gd) := fun b => if b = a then some x else app b
def setKn (kn : Addr → Option Value) (a : Addr) (v : Value) : Addr → Option Value := fun b => if b = a then some v else kn b
theorem setApp_at {app : Addr → Option (Value × Gd)} {a b : Addr} {x : Value × Gd} {v : Value} {d : Gd} (h : setApp app a x b = some (v, d)) : (b = a ∧ x = (v, d)) ∨ (b ≠ a ∧ app b = some (v, d)) := by
  unfold setApp at h
  split at h
  · rename_i e; cases h; exact .inl ⟨e, rfl⟩
  · rename_i e; exact .inr ⟨e, h⟩
theorem GI.writes (h : GI E G w t) {i k : Nat} {a : Addr} {v : Value} (fn : FuncId) (pos : String) (hi : (G.th i).live = true) (hrel : (G.th i).rel = none) (hrun : (G.th i).run = some k) (ha : G.app a = some (v, .prot k)) :
    GIt E G w.heap.size (t ++ MemOp.ofEvents i fn pos #[⟨.cell a, true, false⟩]) := by
  have hb : a.block < w.heap.size := cell_block (h.m.app a _ _ ha).1
  have hst : ∀ op ∈ MemOp.ofEvents i fn pos #[⟨.cell a, true, false⟩], op.act ≠ .mark .disable ∧ op.act ≠ .mark .enable := fun op hop => by
    rw [ofEvents_one] at hop; simp at hop; subst hop; exact ⟨by simp [MemAct.ofEvent], by simp [MemAct.ofEvent]⟩
  refine ⟨h.t.ti.oneRead rfl ⟨.inl ⟨hi, .inr (.inl ⟨v, k, ha, .inl hrun⟩)⟩, fun j hj => ⟨fun hw => ?_, fun _ hw => ?_, fun _ hw => ?_, (fun e => by cases e)⟩⟩ hb, fun j hj => ?_, fun j hj => ?_, ?_⟩
  · obtain ⟨hl, hw⟩ := hw
    rcases hw with hw | ⟨v', k', hv, hw⟩ | ⟨v', j', hv, hw⟩
    · exact h.app_away ha j hl hw
    · rw [ha] at hv; cases hv
      rcases hw with hw | hw
      · exact hj (h.run1 hi hl (h.k.run i k hi hrun).1 hw)
      · exact hw i hi hrun
    · rw [ha] at hv; cases hv
  · obtain ⟨_, v', hv | ⟨k', hv, _⟩⟩ := hw <;> rw [ha] at hv <;> cases hv
  · obtain ⟨_, ⟨x, hx, e⟩ | ⟨v', k', hv, _⟩⟩ := hw
    · exact (h.m.app a _ _ ha).2.2 x hx e
    · rw [ha] at hv; cases hv
  · rw [Go.ConcN.Deaf_still _ _ _ hst]; exact h.t.deaf j hj
  · rw [Go.ConcN.Deaf_still _ _ _ hst]; exact h.t.quiet j hj
  · refine h.t.tell.app g_ofEvents (h.ours hi) (fun op hop => ?_) (fun op hop b hb hw => ?_) (fun op hop b hb hk ad v' k' el hv => ?_) (fun _ => .inl hrel)
    · rw [ofEvents_one] at hop; simp at hop; subst hop; simp [MemAct.ofEvent]
    · rw [ofEvents_one] at hop; simp at hop; subst hop
      simp [MemAct.ofEvent, MemAct.touch?] at hb; subst hb
      refine ⟨fun k' hk' e => ?_, fun ad v' k' e hv => ?_⟩
      · simp only [Loc.cell.injEq] at e
        exact (h.m.app a _ _ ha).2.2 (.done k') hk' e
      · simp only [Loc.cell.injEq] at e; subst e; rw [ha] at hv; cases hv
    · rw [ofEvents_one] at hop; simp at hop; subst hop
      simp [MemAct.ofEvent, MemAct.touch?] at hb; subst hb
      simp only [Loc.cell.injEq] at el
      subst el; rw [ha] at hv; cases hv
theorem GI.protStore (h : GI E G w t) {i k : Nat} {a : Addr} {v : Value} (v' : Value) (fn : FuncId) (pos : String) (hi : (G.th i).live = true) (hrel : (G.th i).rel = none) (hrun : (G.th i).run = some k) (ha : G.app a = some (v, .prot k))
    (more : E.App (setApp G.app a (v', .prot k)) G.dn G.cv) :
    ∃ G', Did E i G G' w (w.setCell a v') (t ++ MemOp.ofEvents i fn pos #[⟨.cell a, true, false⟩]) { G.th i with kn := setKn (G.th i).kn a v' } ∧ Calm E G G' ∧ G'.app = setApp G.app a (v', .prot k) ∧ G'.dn = G.dn := by
  have hmr := (h.k.run i k hi hrun).1
  obtain ⟨hca, hfa, hsa⟩ := h.m.app a _ _ ha
  have hlv : ∀ j, (upd G.th i { G.th i with kn := setKn (G.th i).kn a v' } j).live = (G.th j).live := fun j => fld Lo.live (by rfl) j
  have hown : ∀ j, (upd G.th i { G.th i with kn := setKn (G.th i).kn a v' } j).own = (G.th j).own := fun j => fld Lo.own (by rfl) j
  have hpas : ∀ j, (upd G.th i { G.th i with kn := setKn (G.th i).kn a v' } j).pas = (G.th j).pas := fun j => fld Lo.pas (by rfl) j
  have hmrs : ∀ j, (upd G.th i { G.th i with kn := setKn (G.th i).kn a v' } j).mr = (G.th j).mr := fun j => fld Lo.mr (by rfl) j
  have hruns : ∀ j, (upd G.th i { G.th i with kn := setKn (G.th i).kn a v' } j).run = (G.th j).run := fun j => fld Lo.run (by rfl) j
  have hold : ∀ b v1 d, setApp G.app a (v', .prot k) b = some (v1, d) → ∃ v2, G.app b = some (v2, d) := fun b v1 d hb => by
    rcases setApp_at hb with ⟨rfl, e⟩ | ⟨_, e⟩
    · cases e; exact ⟨v, ha⟩
    · exact ⟨v1, e⟩
  have hc := h.chg (i := i) (l' := { G.th i with kn := setKn (G.th i).kn a v' }) (app' := setApp G.app a (v', .prot k)) (dn' := G.dn) (w' := w.setCell a v') (t' := t ++ MemOp.ofEvents i fn pos #[⟨.cell a, true, false⟩]) hi
    ⟨rfl, rfl, rfl, rfl, rfl, rfl, rfl, rfl, rfl, rfl, rfl, fun k hk => hk⟩ ?_ ?_ ?_ more ?_
  · refine ⟨_, ⟨hc.1, upd_same _ _ _, fun j hj => upd_ne _ _ hj, rfl, fun j hj hji => ⟨by rw [setCell_size]; exact Nat.le_refl _, fun b hb => set_blk w a v' fun e => ?_⟩, hc.2⟩, Calm.of rfl rfl rfl rfl rfl rfl, rfl, rfl⟩
    exact h.app_away ha j hj (e ▸ hb)
  · rw [setCell_size]
    refine h.s.tr (Nat.le_refl _) (fun b x hx => ?_) fun j hj => ⟨?_, hown j⟩
    · obtain ⟨v2, hv2⟩ := hold b x.1 x.2 hx; exact ⟨_, hv2⟩
    · have hj : (upd G.th i { G.th i with kn := setKn (G.th i).kn a v' } j).live = true := hj
      rw [hlv] at hj; exact hj
  · refine ⟨fun x hx => ?_, fun b v1 d hb => ?_, h.m.inj, fun hC => ?_, h.m.tape, h.m.output, h.m.os⟩
    · rw [show (Gh.val _ x) = G.val x by cases x <;> rfl, set_frz, set_other hca v' (fun e => hsa x hx e.symm)]
      exact h.m.sync x hx
    · rw [set_frz]
      rcases setApp_at hb with ⟨rfl, e⟩ | ⟨hne, e⟩
      · cases e; exact ⟨set_self hca v', hfa, hsa⟩
      · rw [set_other hca v' hne]; exact h.m.app b v1 d e
    · obtain ⟨⟨s, r, c1⟩, c2, c3⟩ := h.m.chan hC
      refine ⟨⟨s, r, ?_⟩, c2, fun b x hx => ?_⟩
      · rw [set_blk w a v' (c3 a _ ha)]; exact c1
      · obtain ⟨v2, hv2⟩ := hold b x.1 x.2 hx; exact c3 b _ hv2
  · refine ⟨fun k' hk => ?_, fun j k' r hj hm => h.k.mrK j k' r (by rw [← hlv]; exact hj) (by rw [← hmrs]; exact hm), fun j k' hj hr => ?_, fun j k' hj hp => h.k.pas j k' (by rw [← hlv]; exact hj) (by rw [← hpas]; exact hp), fun b v1 k' hb => ?_, fun b v1 k' hb hd' => ?_, fun j b v1 hj hv1 => ?_⟩
    · have : Gh.cnt { G with th := upd G.th i { G.th i with kn := setKn (G.th i).kn a v' }, app := setApp G.app a (v', .prot k), dn := G.dn } k' = G.cnt k' := by
        funext r
        exact sum_same (φ := fun l => l.at k' r) (by simp only [Lo.at])
      rw [this]; exact h.k.mu k' hk
    · rw [show (Gh.th _ j).mr = _ from hmrs j]
      exact h.k.run j k' (by rw [← hlv]; exact hj) (by rw [← hruns]; exact hr)
    · rcases setApp_at hb with ⟨rfl, e⟩ | ⟨hne, e⟩
      · cases e
        obtain ⟨p1, p2, _⟩ := h.k.prot b v k ha
        refine ⟨p1, p2, .inl ⟨i, by rw [show (Gh.th _ i).live = _ from hlv i]; exact hi, by rw [show (Gh.th _ i).run = _ from hruns i]; exact hrun, ?_⟩⟩
        show (upd G.th i { G.th i with kn := setKn (G.th i).kn b v' } i).kn b = some v'
        rw [upd_same]; simp [setKn]
      · obtain ⟨p1, p2, p3⟩ := h.k.prot b v1 k' e
        refine ⟨p1, p2, p3.imp (fun ⟨j, q1, q2, q3⟩ => ⟨j, by rw [show (Gh.th _ j).live = _ from hlv j]; exact q1, by rw [show (Gh.th _ j).run = _ from hruns j]; exact q2, ?_⟩) fun ⟨q1, q2⟩ => ⟨fun j hj => by rw [show (Gh.th _ j).run = _ from hruns j]; exact q1 j (by rw [← hlv]; exact hj), q2⟩⟩
        show (upd G.th i { G.th i with kn := setKn (G.th i).kn a v' } j).kn b = some v1
        by_cases e2 : j = i
        · subst e2; rw [upd_same]; simp only [setKn, if_neg hne]; exact q3
        · rw [upd_ne _ _ e2]; exact q3
    · obtain ⟨v2, hv2⟩ := h.k.ini b v1 k' hb hd'
      by_cases e : b = a
      · subst e; rw [ha] at hv2; cases hv2; exact ⟨v', by simp [setApp]⟩
      · exact ⟨v2, by simp only [setApp, if_neg e]; exact hv2⟩
    · have hj' : (G.th j).live = true := by rw [← hlv]; exact hj
      have hv1 : (upd G.th i { G.th i with kn := setKn (G.th i).kn a v' } j).kn b = some v1 := hv1
      show ∃ d, setApp G.app a (v', .prot k) b = some (v1, d) ∧ (d = .ro ∨ (∃ k', d = .pub k' ∧ (upd G.th i { G.th i with kn := setKn (G.th i).kn a v' } j).pas k' = true) ∨ ∃ k', d = .prot k' ∧ (upd G.th i { G.th i with kn := setKn (G.th i).kn a v' } j).run = some k')
      rw [hpas, hruns]
      by_cases e : j = i
      · subst e
        rw [upd_same] at hv1
        by_cases e2 : b = a
        · subst e2
          simp only [setKn, if_true, Option.some.injEq] at hv1
          subst hv1
          exact ⟨.prot k, by simp [setApp], .inr (.inr ⟨k, rfl, hrun⟩)⟩
        · simp only [setKn, if_neg e2] at hv1
          obtain ⟨d, d1, d2⟩ := h.k.kn j b v1 hj' hv1
          exact ⟨d, by simp only [setApp, if_neg e2]; exact d1, d2⟩
      · rw [upd_ne _ _ e] at hv1
        obtain ⟨d, d1, d2⟩ := h.k.kn j b v1 hj' hv1
        refine ⟨d, ?_, d2⟩
        by_cases e2 : b = a
        · subst e2
          rw [ha] at d1; cases d1
          rcases d2 with x | ⟨_, x, _⟩ | ⟨k', x, y⟩
          · cases x
          · cases x
          · cases x; exact absurd (h.run1 hi hj' hmr y) e
        · simp only [setApp, if_neg e2]; exact d1
  · rw [setCell_size]
    have ht := h.writes fn pos hi hrel hrun ha
    refine ht.less rfl hlv (fun j => fld Lo.deaf (by rfl) j) (fun g b hg hw => ?_) (fun g b hg hb => by rw [← hown]; exact hb) (fun g b hg hr => ?_) (fun g b hg hA => ?_) ?_
    · rcases hw with hw | ⟨v1, k', hv, hw⟩ | ⟨v1, j', hv, hw⟩
      · exact .inl (by rw [← hown]; exact hw)
      · obtain ⟨v2, hv2⟩ := hold _ _ _ hv
        refine .inr (.inl ⟨v2, k', hv2, hw.imp (fun x => by rw [← hruns]; exact x) fun x j hj => by rw [← hruns]; exact x j (by rw [show (Gh.th _ j).live = _ from hlv j]; exact hj)⟩)
      · obtain ⟨v2, hv2⟩ := hold _ _ _ hv
        exact .inr (.inr ⟨v2, j', hv2, hw⟩)
    · obtain ⟨v1, hv | ⟨k', hv, hp⟩⟩ := hr
      · obtain ⟨v2, hv2⟩ := hold _ _ _ hv; exact ⟨v2, .inl hv2⟩
      · obtain ⟨v2, hv2⟩ := hold _ _ _ hv; exact ⟨v2, .inr ⟨k', hv2, by rw [← hpas]; exact hp⟩⟩
    · rcases hA with hA | ⟨v1, k', hv, hp⟩
      · exact .inl hA
      · obtain ⟨v2, hv2⟩ := hold _ _ _ hv; exact .inr ⟨v2, k', hv2, by rw [← hpas]; exact hp⟩
    · exact ht.tell.tra rfl (fun ad v1 k' => ⟨fun x => hold _ _ _ x, fun x => hold _ _ _ x⟩) rfl fun j => ⟨hlv j, hpas j, fld Lo.rel (by rfl) j, fld Lo.gr (by rfl) j⟩
end Go.Co

namespace Go.Co
open Go Go.Conc
open Go.ConcM (OsLater)
open Go.ConcN (sumTo upd sumTo_upd upd_ne upd_same sumTo_congr le_sumTo sumTo_le)
variable {E : Geo} {G G' : Gh} {w w' : World} {t t' u : Trace} {B B' : Nat}
def pubKn (app : Addr → Option (Value × Gd)) (k : Nat) (kn : Addr → Option Value) : Addr → Option Value := fun a => match app a with
  | some (v, .pub k') => if k' = k then some v else kn a
  | some (_, .ctr _) => none
  | _ => kn a
def Lo.pub (l : Lo) (k : Nat) (PB : Nat → Prop) (app : Addr → Option (Value × Gd)) : Lo :=
  { l with run := none, pas := upd l.pas k true, own := fun b => l.own b ∧ ¬ PB b, kn := pubKn app k l.kn }
structure PubTo (G : Gh) (w : World) (i k : Nat) (PB : Nat → Prop) (app : Addr → Option (Value × Gd)) : Prop where
  mine : ∀ b, PB b → (G.th i).own b
  old : ∀ a v d, app a = some (v, d) → ((d ≠ .prot k ∧ d ≠ .pub k ∧ d ≠ .ctr k) ∧ G.app a = some (v, d)) ∨ ((d = .pub k ∨ d = .ctr k) ∧ (G.app a = some (v, .prot k) ∨ (PB a.block ∧ w.cell? a = some v ∧ w.frozen? a = false)))
  keep : ∀ a v d, G.app a = some (v, d) → (d ≠ .prot k ∧ app a = some (v, d)) ∨ (d = .prot k ∧ (app a = some (v, .pub k) ∨ app a = some (v, .ctr k)))
theorem GI.publish (h : GI E G w t) {i k : Nat} {PB : Nat → Prop} {app' : Addr → Option (Value × Gd)} (fn : FuncId) (pos : String) (hi : (G.th i).live = true) (hdf : (G.th i).deaf = 0) (hrel : (G.th i).rel = none) (hrun : (G.th i).run = some k)
    (hp : PubTo G w i k PB app') (more : E.App app' (upd G.dn k true) G.cv) :
    ∃ G', Did E i G G' w (w.setCell (E.sc (.done k)) (.int .u32 1)) (t ++ MemOp.ofEvents i fn pos #[⟨.cell (E.sc (.done k)), true, true⟩]) ((G.th i).pub k PB app') ∧ Calm E G G' ∧ G'.app = app' ∧ G'.dn = upd G.dn k true := by
  obtain ⟨hmr, hdk⟩ := h.k.run i k hi hrun
  obtain ⟨hkK, hi0⟩ := h.k.mrK i k _ hi hmr
  obtain ⟨hcd, hfd⟩ := h.m.sync (.done k) hkK
  have hlv : ∀ j, (upd G.th i ((G.th i).pub k PB app') j).live = (G.th j).live := fun j => fld Lo.live (by rfl) j
  have hmrs : ∀ j, (upd G.th i ((G.th i).pub k PB app') j).mr = (G.th j).mr := fun j => fld Lo.mr (by rfl) j
  have hgr : ∀ j, (upd G.th i ((G.th i).pub k PB app') j).gr = (G.th j).gr := fun j => fld Lo.gr (by rfl) j
  have hrl : ∀ j, (upd G.th i ((G.th i).pub k PB app') j).rel = (G.th j).rel := fun j => fld Lo.rel (by rfl) j
  have hown : ∀ j b, (upd G.th i ((G.th i).pub k PB app') j).own b → (G.th j).own b ∧ (j = i → ¬ PB b) := fun j b hb => by
    by_cases e : j = i
    · subst e; rw [upd_same] at hb; exact ⟨hb.1, fun _ => hb.2⟩
    · rw [upd_ne _ _ e] at hb; exact ⟨hb, fun x => absurd x e⟩
  have hrun' : ∀ j k', (upd G.th i ((G.th i).pub k PB app') j).run = some k' → j ≠ i ∧ (G.th j).run = some k' := fun j k' hj => by
    by_cases e : j = i
    · subst e; rw [upd_same] at hj; cases hj
    · rw [upd_ne _ _ e] at hj; exact ⟨e, hj⟩
  have hrunb : ∀ j k', k' ≠ k → (G.th j).run = some k' → (upd G.th i ((G.th i).pub k PB app') j).run = some k' := fun j k' hk' hj => by
    by_cases e : j = i
    · subst e; rw [hrun] at hj; cases hj; exact absurd rfl hk'
    · rw [upd_ne _ _ e]; exact hj
  have hpas : ∀ j k', (upd G.th i ((G.th i).pub k PB app') j).pas k' = true → (G.th j).pas k' = true ∨ (j = i ∧ k' = k) := fun j k' hj => by
    by_cases e : j = i
    · subst e; rw [upd_same] at hj
      by_cases e2 : k' = k
      · exact .inr ⟨rfl, e2⟩
      · left
        have hj : upd (G.th j).pas k true k' = true := hj
        rw [upd_ne _ _ e2] at hj; exact hj
    · rw [upd_ne _ _ e] at hj; exact .inl hj
  have hpasb : ∀ j k', (G.th j).pas k' = true → (upd G.th i ((G.th i).pub k PB app') j).pas k' = true := fun j k' hj => by
    by_cases e : j = i
    · subst e; rw [upd_same]
      show upd (G.th j).pas k true k' = true
      by_cases e2 : k' = k
      · subst e2; exact upd_same ..
      · rw [upd_ne _ _ e2]; exact hj
    · rw [upd_ne _ _ e]; exact hj
  have hnp : ∀ j, (G.th j).live = true → (G.th j).pas k = true → False := fun j hj hpk => by
    have := (h.k.pas j k hj hpk).2; rw [hdk] at this; cases this
  have hdn : ∀ k', k' ≠ k → upd G.dn k true k' = G.dn k' := fun k' e => upd_ne _ _ e
  have hWi : ∀ a v, app' a = some (v, .pub k) ∨ app' a = some (v, .ctr k) → (E.dis G).W i (.cell a) := fun a v ha => by
    have key : ∀ d, (d = .pub k ∨ d = .ctr k) → app' a = some (v, d) → (E.dis G).W i (.cell a) := fun d hd ha => by
      rcases hp.old a v d ha with ⟨⟨_, e1, e2⟩, e⟩ | ⟨_, e | ⟨e, _⟩⟩
      · rcases hd with rfl | rfl
        · exact absurd rfl e1
        · exact absurd rfl e2
      · exact ⟨hi, .inr (.inl ⟨v, k, e, .inl hrun⟩)⟩
      · exact ⟨hi, .inl (hp.mine _ e)⟩
    rcases ha with ha | ha
    · exact key _ (.inl rfl) ha
    · exact key _ (.inr rfl) ha
  have hsc : ∀ a v d, app' a = some (v, d) → ∀ x, x.ok E.K → a ≠ E.sc x := fun a v d ha x hx e => by
    rcases hp.old a v d ha with ⟨_, e1⟩ | ⟨_, e1 | ⟨e1, _⟩⟩
    · exact (h.m.app a v d e1).2.2 x hx e
    · exact (h.m.app a v _ e1).2.2 x hx e
    · exact (h.s.nsh i _ hi (hp.mine _ e1)).1 x hx (by rw [e])
  -- the trace, with the rights as they were
  have hone : (t ++ MemOp.ofEvents i fn pos #[⟨.cell (E.sc (.done k)), true, true⟩]) = t ++ #[{ g := i, fn, pos, act := .ofEvent ⟨.cell (E.sc (.done k)), true, true⟩ }] := by rw [ofEvents_one]
  have hst : ∀ op ∈ MemOp.ofEvents i fn pos #[⟨.cell (E.sc (.done k)), true, true⟩], op.act ≠ .mark .disable ∧ op.act ≠ .mark .enable := fun op hop => by
    rw [ofEvents_one] at hop; simp at hop; subst hop; exact ⟨by simp [MemAct.ofEvent], by simp [MemAct.ofEvent]⟩
  have hti : TI (E.dis G) w.heap.size (t ++ MemOp.ofEvents i fn pos #[⟨.cell (E.sc (.done k)), true, true⟩]) :=
    h.t.ti.oneRead rfl ⟨.inr (.inr (.inl ⟨rfl, hi, .inl ⟨.done k, hkK, rfl⟩⟩)), fun j _ => ⟨(h.sc_away (x := .done k) hkK j).1, fun _ => (h.sc_away (x := .done k) hkK j).2, fun e => (by cases e), fun e => (by cases e)⟩⟩ (cell_block hcd)
  have hti' : TI (E.dis { G with th := upd G.th i ((G.th i).pub k PB app'), app := app', dn := upd G.dn k true }) w.heap.size (t ++ MemOp.ofEvents i fn pos #[⟨.cell (E.sc (.done k)), true, true⟩]) := by
    refine hti.change (fun g l hw => .inl ?_) (fun g l hw => ?_) (fun g l hw => ?_) (fun g l hw => .inl hw)
    · obtain ⟨h1, h2⟩ := hw
      have h1 : (G.th g).live = true := by rw [← hlv]; exact h1
      refine ⟨h1, ?_⟩
      cases l with
      | cell a =>
        rcases h2 with h2 | ⟨v, k', hv, h2⟩ | ⟨v, j', hv, h2⟩
        · exact .inl (hown g _ h2).1
        · rcases hp.old a v _ hv with ⟨⟨e1, _⟩, e⟩ | ⟨e | e, _⟩
          · have hk' : k' ≠ k := fun x => e1 (by rw [x])
            refine .inr (.inl ⟨v, k', e, ?_⟩)
            rcases h2 with h2 | h2
            · exact .inl (hrun' g k' h2).2
            · exact .inr fun j hj hr => h2 j (by rw [show (Gh.th _ j).live = _ from hlv j]; exact hj) (hrunb j k' hk' hr)
          · cases e
          · cases e
        · rcases hp.old a v _ hv with ⟨_, e⟩ | ⟨e | e, _⟩
          · exact .inr (.inr ⟨v, j', e, h2⟩)
          · cases e
          · cases e
      | obj r => exact (hown g _ h2).1
      | _ => exact h2.elim
    · obtain ⟨h1, h2⟩ := hw
      have h1 : (G.th g).live = true := by rw [← hlv]; exact h1
      cases l with
      | cell a =>
        obtain ⟨v, hv | ⟨k', hv, hpp⟩⟩ := h2
        · rcases hp.old a v _ hv with ⟨_, e⟩ | ⟨e | e, _⟩
          · exact .inl ⟨h1, v, .inl e⟩
          · cases e
          · cases e
        · rcases hpas g k' hpp with x | ⟨rfl, rfl⟩
          · rcases hp.old a v _ hv with ⟨_, e⟩ | ⟨e | e, _⟩
            · exact .inl ⟨h1, v, .inr ⟨k', e, x⟩⟩
            · cases e; exact (hnp g h1 x).elim
            · cases e
          · exact .inr fun j b hb hbl _ => hti.W g _ j b (hWi a v (.inl hv)) hb hbl
      | _ => exact h2.elim
    · obtain ⟨h1, h2⟩ := hw
      have h1 : (G.th g).live = true := by rw [← hlv]; exact h1
      cases l with
      | cell a =>
        rcases h2 with h2 | ⟨v, k', hv, hpp⟩
        · exact .inl ⟨h1, .inl h2⟩
        · rcases hpas g k' hpp with x | ⟨rfl, rfl⟩
          · rcases hp.old a v _ hv with ⟨_, e⟩ | ⟨e | e, _⟩
            · exact .inl ⟨h1, .inr ⟨v, k', e, x⟩⟩
            · cases e
            · cases e; exact (hnp g h1 x).elim
          · exact .inr fun j b hb hbl _ => hti.W g _ j b (hWi a v (.inr hv)) hb hbl
      | obj r => exact .inl ⟨h1, h2⟩
      | _ => exact h2.elim
  have hlast : (t ++ MemOp.ofEvents i fn pos #[⟨.cell (E.sc (.done k)), true, true⟩])[t.size]? = some { g := i, fn, pos, act := .ofEvent ⟨.cell (E.sc (.done k)), true, true⟩ } := by rw [hone, Array.getElem?_append_right (Nat.le_refl _)]; simp
  have hnew : ∀ j op, (t ++ MemOp.ofEvents i fn pos #[⟨.cell (E.sc (.done k)), true, true⟩])[j]? = some op → (j < t.size ∧ t[j]? = some op) ∨ (j = t.size ∧ op = { g := i, fn, pos, act := .ofEvent ⟨.cell (E.sc (.done k)), true, true⟩ }) := fun j op hj => by
    rcases split_at hj with x | ⟨x, y⟩
    · exact .inl x
    · rw [ofEvents_one] at y; simp at y; subst y
      have hjs : j < (t ++ MemOp.ofEvents i fn pos #[⟨.cell (E.sc (.done k)), true, true⟩]).size := (Array.getElem?_eq_some_iff.1 hj).1
      rw [hone] at hjs; simp at hjs
      exact .inr ⟨by omega, rfl⟩
  have T := h.t.tell
  have hio : E.ours G i := (h.ours hi).resolve_left hi0
  have htell : Tell E { G with th := upd G.th i ((G.th i).pub k PB app'), app := app', dn := upd G.dn k true } (t ++ MemOp.ofEvents i fn pos #[⟨.cell (E.sc (.done k)), true, true⟩]) := by
    refine ⟨fun j op a h1 h2 h3 => ?_, fun j op h1 h2 h3 => ?_, fun j ra hj => ?_, fun g hgo => ?_, fun k' hk' hd' => ?_, fun hj g r hgo hrr => ?_⟩
    · rcases hnew j op h1 with ⟨_, h1⟩ | ⟨rfl, rfl⟩
      · exact (T.known j op a h1 h2 h3).imp id (.imp (·.app _) id)
      · exact .inl hio
    · rcases hnew j op h1 with ⟨hl, h1⟩ | ⟨rfl, rfl⟩
      · exact (T.over j op h1 h2 ((counts_app hl).1 h3)).imp id (·.app _)
      · exact .inl hio
    · obtain ⟨op, ho, hoa⟩ := Option.map_eq_some_iff.1 hj
      rcases hnew j op ho with ⟨hl, ho⟩ | ⟨rfl, rfl⟩
      · exact T.norel j ra (by rw [act?_of ho, hoa])
      · simp [MemAct.ofEvent] at hoa
    · rw [show (Gh.th _ g).rel = _ from hrl g, show (Gh.th _ g).live = _ from hlv g, show (Gh.th _ g).gr = _ from hgr g]
      rcases T.rel g hgo with a | ⟨r, a1, a2, a3, a4, a5⟩
      · exact .inl a
      · have hrl : r < t.size := lt_of_act? a2
        refine .inr ⟨r, a1, by rw [act?_old hrl]; exact a2, ?_, (heard_old hrl).2 a4, fun j op a hj h1 h2 h3 => ?_⟩
        · unfold Trace.g? at a3 ⊢; rw [getElem?_append_old hrl]; exact a3
        · rcases hnew j op h1 with ⟨hl, h1'⟩ | ⟨rfl, rfl⟩
          · obtain ⟨b1, b2, b3⟩ := a5 j op a hj h1' h2 h3
            exact ⟨b1, b2, fun e => b3 ((heard_old hl).1 e)⟩
          · simp only at h2; subst h2; rw [hrel] at a1; cases a1
    · by_cases e : k' = k
      · subst e
        refine ⟨t.size, ?_, ?_, fun j op a ad v h1 h2 h3 h4 => ?_, fun j hj hpp => ?_⟩
        · rw [hone]; exact LastWrite.new t _ rfl
        · exact heard_new hlast (by rw [h.t.deaf i hi]; exact hdf)
        · have hapd : app' ad = some (v, .pub k') ∨ app' ad = some (v, .ctr k') := h4.imp (·.1) (·.1)
          rcases hnew j op h1 with ⟨hl, h1'⟩ | ⟨rfl, rfl⟩
          · have hkn : Knows t i j := h.t.ti.W i (.cell ad) j a (hWi ad v hapd) (by rw [touchAt_of h1']; exact h2) h3
            exact .inr (hkn.hb_new (Nat.le_refl _) hlast rfl)
          · exact .inl rfl
        · rcases hpas j k' hpp with x | ⟨rfl, _⟩
          · exact (hnp j (by rw [← hlv]; exact hj) x).elim
          · exact knows_own hlast
      · have hd' : G.dn k' = true := by rw [← hdn k' e]; exact hd'
        obtain ⟨p, a1, a2, a3, a4⟩ := T.pub k' hk' hd'
        refine ⟨p, a1.app fun op hop sync x => ?_, (heard_old (lt_of_act? a1.1)).2 a2, fun j op a ad v h1 h2 h3 h4 => ?_, fun j hj hpp => ?_⟩
        · rw [ofEvents_one] at hop; simp at hop; subst hop
          simp only [MemAct.ofEvent, MemAct.access.injEq, Event.mk.injEq, Loc.cell.injEq] at x
          exact e (by have := h.m.inj (.done k) (.done k') hkK hk' x.1; cases this; rfl)
        · rcases hnew j op h1 with ⟨hl, h1'⟩ | ⟨rfl, rfl⟩
          · refine (a3 j op a ad v h1' h2 h3 ?_).app _
            rcases h4 with ⟨x, y⟩ | ⟨x, y⟩
            · rcases hp.old ad v _ x with ⟨_, x⟩ | ⟨x | x, _⟩
              · exact .inl ⟨x, y⟩
              · cases x; exact absurd rfl e
              · cases x
            · rcases hp.old ad v _ x with ⟨_, x⟩ | ⟨x | x, _⟩
              · exact .inr ⟨x, y⟩
              · cases x
              · cases x; exact absurd rfl e
          · exfalso
            simp [MemAct.ofEvent, MemAct.touch?] at h2; subst h2
            simp only [Loc.cell.injEq] at h3; subst h3
            rcases h4 with ⟨x, _⟩ | ⟨x, _⟩
            · exact hsc _ _ _ x (.done k) hkK rfl
            · exact hsc _ _ _ x (.done k) hkK rfl
        · rcases hpas j k' hpp with x | ⟨_, x⟩
          · exact (a4 j (by rw [← hlv]; exact hj) x).app _
          · exact absurd x e
    · exact (T.join (by rw [← hgr]; exact hj) g r hgo (by rw [← hrl]; exact hrr)).app _
  have hc := h.chg (i := i) (l' := (G.th i).pub k PB app') (app' := app') (dn' := upd G.dn k true) (w' := w.setCell (E.sc (.done k)) (.int .u32 1)) (t' := t ++ MemOp.ofEvents i fn pos #[⟨.cell (E.sc (.done k)), true, true⟩]) hi
    ⟨rfl, rfl, rfl, rfl, rfl, rfl, rfl, rfl, rfl, rfl, rfl, fun k' hk' => ?_⟩ ?_ ?_ ?_ more ?_
  · exact ⟨_, ⟨hc.1, upd_same _ _ _, fun j hj => upd_ne _ _ hj, rfl, fun j hj hji => h.view_set (x := .done k) hkK _ j hj, hc.2⟩, Calm.of rfl rfl rfl rfl rfl rfl, rfl, rfl⟩
  · have := hpasb i k' hk'
    rw [upd_same] at this; exact this
  · rw [setCell_size]
    refine ⟨fun a b c ha hb hab hac hbc => ?_, fun a b ha hb => ?_, fun a b ha hb => ?_, h.s.shun, h.s.size, fun a v e => by
      rcases hp.old a v.1 v.2 e with ⟨_, e1⟩ | ⟨_, e1 | ⟨e1, _⟩⟩
      · exact h.s.nshA a _ e1
      · exact h.s.nshA a _ e1
      · exact (h.s.nsh i _ hi (hp.mine _ e1)).2.2.2⟩
    · exact h.s.apart a b c (by rw [← hlv]; exact ha) (by rw [← hlv]; exact hb) hab (hown a c hac).1 (hown b c hbc).1
    · exact h.s.old a b (by rw [← hlv]; exact ha) (hown a b hb).1
    · have ha' : (G.th a).live = true := by rw [← hlv]; exact ha
      obtain ⟨n1, n2, n3, n4⟩ := h.s.nsh a b ha' (hown a b hb).1
      refine ⟨n1, fun c x hx e => ?_, n3, n4⟩
      rcases hp.old c x.1 x.2 hx with ⟨_, e1⟩ | ⟨_, e1 | ⟨e1, _⟩⟩
      · exact n2 c _ e1 e
      · exact n2 c _ e1 e
      · by_cases e2 : a = i
        · subst e2; exact (hown a b hb).2 rfl (e ▸ e1)
        · exact h.s.apart a i b ha' hi e2 (hown a b hb).1 (e ▸ hp.mine _ e1)
  · refine ⟨fun x hx => ?_, fun b v d hb => ?_, h.m.inj, fun hC => ?_, h.m.tape, h.m.output, h.m.os⟩
    · rw [set_frz]
      by_cases e : x = .done k
      · subst e
        refine ⟨?_, hfd⟩
        rw [set_self hcd]
        show _ = some (Value.int .u32 (upd G.dn k true k).toNat)
        rw [upd_same]; rfl
      · rw [set_other hcd _ fun q => e (h.m.inj x (.done k) hx hkK q)]
        rw [show Gh.val _ x = G.val x by
          cases x with
          | done k' => show Value.int .u32 (upd G.dn k true k').toNat = _; rw [hdn k' fun q => e (by rw [q])]; rfl
          | _ => rfl]
        exact h.m.sync x hx
    · refine ⟨?_, ?_, hsc b v d hb⟩
      · rw [set_other hcd _ (hsc b v d hb (.done k) hkK)]
        rcases hp.old b v d hb with ⟨_, e1⟩ | ⟨_, e1 | ⟨_, e1, _⟩⟩
        · exact (h.m.app b v d e1).1
        · exact (h.m.app b v _ e1).1
        · exact e1
      · rw [set_frz]
        rcases hp.old b v d hb with ⟨_, e1⟩ | ⟨_, e1 | ⟨_, _, e1⟩⟩
        · exact (h.m.app b v d e1).2.1
        · exact (h.m.app b v _ e1).2.1
        · exact e1
    · obtain ⟨⟨s, r, c1⟩, c2, c3⟩ := h.m.chan hC
      refine ⟨⟨s, r, ?_⟩, c2, fun b x hx => ?_⟩
      · rw [set_blk w _ _ (c2 (.done k) hkK)]; exact c1
      · rcases hp.old b x.1 x.2 hx with ⟨_, e1⟩ | ⟨_, e1 | ⟨e1, _⟩⟩
        · exact c3 b _ e1
        · exact c3 b _ e1
        · exact fun q => (h.s.nsh i _ hi (hp.mine _ e1)).2.2.1 hC q
  · refine ⟨fun k' hk => ?_, fun j k' r hj hm => h.k.mrK j k' r (by rw [← hlv]; exact hj) (by rw [← hmrs]; exact hm), fun j k' hj hr => ?_, fun j k' hj hpp => ?_, fun b v k' hb => ?_, fun b v k' hb hd' => ?_, fun j b v hj hv => ?_⟩
    · have : Gh.cnt { G with th := upd G.th i ((G.th i).pub k PB app'), app := app', dn := upd G.dn k true } k' = G.cnt k' := by
        funext r
        exact sum_same (φ := fun l => l.at k' r) (by rfl)
      rw [this]; exact h.k.mu k' hk
    · obtain ⟨hji, hr⟩ := hrun' j k' hr
      have hj' : (G.th j).live = true := by rw [← hlv]; exact hj
      rw [show (Gh.th _ j).mr = _ from hmrs j]
      have := h.k.run j k' hj' hr
      refine ⟨this.1, ?_⟩
      show upd G.dn k true k' = false
      rw [hdn k' fun e => hji (h.run1 hi hj' hmr (e ▸ hr))]; exact this.2
    · rcases hpas j k' hpp with x | ⟨_, rfl⟩
      · obtain ⟨p1, p2⟩ := h.k.pas j k' (by rw [← hlv]; exact hj) x
        refine ⟨p1, ?_⟩
        show upd G.dn k true k' = true
        by_cases e : k' = k
        · subst e; exact upd_same ..
        · rw [hdn k' e]; exact p2
      · exact ⟨hkK, upd_same ..⟩
    · rcases hp.old b v _ hb with ⟨⟨e1, _⟩, e⟩ | ⟨e | e, _⟩
      · have hk' : k' ≠ k := fun x => e1 (by rw [x])
        obtain ⟨p1, p2, p3⟩ := h.k.prot b v k' e
        refine ⟨p1, by show upd G.dn k true k' = false; rw [hdn k' hk']; exact p2, p3.imp (fun ⟨j, q1, q2, q3⟩ => ?_) fun ⟨q1, q2⟩ => ⟨fun j hj hr => q1 j (by rw [← hlv]; exact hj) (hrun' j k' hr).2, q2⟩⟩
        have hji : j ≠ i := fun x => by subst x; rw [hrun] at q2; cases q2; exact hk' rfl
        refine ⟨j, by rw [show (Gh.th _ j).live = _ from hlv j]; exact q1, hrunb j k' hk' q2, ?_⟩
        show (upd G.th i ((G.th i).pub k PB app') j).kn b = some v
        rw [upd_ne _ _ hji]; exact q3
      · cases e
      · cases e
    · by_cases e : k' = k
      · subst e
        have : upd G.dn k' true k' = false := hd'
        rw [upd_same] at this; cases this
      · have hd' : G.dn k' = false := by rw [← hdn k' e]; exact hd'
        obtain ⟨v', hv'⟩ := h.k.ini b v k' hb hd'
        rcases hp.keep b v' _ hv' with ⟨_, x⟩ | ⟨x, _⟩
        · exact ⟨v', x⟩
        · cases x; exact absurd rfl e
    · have hj' : (G.th j).live = true := by rw [← hlv]; exact hj
      have hv : (upd G.th i ((G.th i).pub k PB app') j).kn b = some v := hv
      show ∃ d, app' b = some (v, d) ∧ (d = .ro ∨ (∃ k', d = .pub k' ∧ (upd G.th i ((G.th i).pub k PB app') j).pas k' = true) ∨ ∃ k', d = .prot k' ∧ (upd G.th i ((G.th i).pub k PB app') j).run = some k')
      by_cases e : j = i
      · subst e
        have hpk : (upd G.th j ((G.th j).pub k PB app') j).pas k = true := by rw [upd_same]; exact upd_same ..
        have hold : (G.th j).kn b = some v → (∀ v', app' b ≠ some (v', .ctr k)) → ∃ d, app' b = some (v, d) ∧ (d = .ro ∨ (∃ k', d = .pub k' ∧ (upd G.th j ((G.th j).pub k PB app') j).pas k' = true) ∨ ∃ k', d = .prot k' ∧ (upd G.th j ((G.th j).pub k PB app') j).run = some k') := fun hv hnc => by
          obtain ⟨d, d1, d2⟩ := h.k.kn j b v hj' hv
          rcases hp.keep b v d d1 with ⟨x1, x2⟩ | ⟨rfl, x2 | x2⟩
          · refine ⟨d, x2, d2.imp id (.imp (fun ⟨k', y1, y2⟩ => ⟨k', y1, hpasb j k' y2⟩) fun ⟨k', y1, y2⟩ => ?_)⟩
            rw [hrun] at y2; cases y2; exact absurd y1 x1
          · exact ⟨_, x2, .inr (.inl ⟨k, rfl, hpk⟩)⟩
          · exact absurd x2 (hnc v)
        rw [upd_same] at hv
        have hv : pubKn app' k (G.th j).kn b = some v := hv
        unfold pubKn at hv
        cases hb : app' b with
        | none => rw [hb] at hv; rw [← hb]; exact hold hv fun v2 x => by rw [hb] at x; cases x
        | some p =>
          obtain ⟨v', d⟩ := p
          rw [hb] at hv; rw [← hb]
          cases d with
          | pub k' =>
            simp only at hv
            by_cases e : k' = k
            · rw [if_pos e] at hv; cases hv
              exact ⟨.pub k', hb, .inr (.inl ⟨k', rfl, e ▸ hpk⟩)⟩
            · rw [if_neg e] at hv
              exact hold hv fun v2 x => by rw [hb] at x; cases x
          | ctr k' => cases hv
          | _ => exact hold hv fun v2 x => by rw [hb] at x; cases x
      · rw [upd_ne _ _ e] at hv ⊢
        obtain ⟨d, d1, d2⟩ := h.k.kn j b v hj' hv
        rcases hp.keep b v d d1 with ⟨x1, x2⟩ | ⟨rfl, _⟩
        · exact ⟨d, x2, d2⟩
        · exfalso
          rcases d2 with x | ⟨_, x, _⟩ | ⟨k', x, y⟩
          · cases x
          · cases x
          · cases x; exact e (h.run1 hi hj' hmr y)
  · rw [setCell_size]
    refine ⟨hti', fun j hj => ?_, fun j hj => ?_, htell⟩
    · rw [show (Gh.th _ j).deaf = (G.th j).deaf from fld (i := i) (l := (G.th i).pub k PB app') Lo.deaf (by rfl) j, Go.ConcN.Deaf_still _ _ _ hst]
      exact h.t.deaf j (by rw [← hlv]; exact hj)
    · rw [Go.ConcN.Deaf_still _ _ _ hst]; exact h.t.quiet j hj
end Go.Co

namespace Go.Co
open Go Go.Conc
open Go.ConcM (OsLater)
open Go.ConcN (sumTo upd sumTo_upd upd_ne upd_same sumTo_congr le_sumTo sumTo_le)
variable {E : Geo} {G G' : Gh} {w w' : World} {t t' u : Trace} {B B' : Nat}
def rw2 (a : Addr) : Array Event := #[⟨.cell a, false, true⟩, ⟨.cell a, true, true⟩]
theorem rw2_mem {a : Addr} {e : Event} (h : e ∈ rw2 a) : e = ⟨.cell a, false, true⟩ ∨ e = ⟨.cell a, true, true⟩ := by simpa [rw2] using h
theorem GI.count (h : GI E G w t) {i j r k : Nat} {a : Addr} {v : Value} (v' : Value) (fn : FuncId) (pos : String) (hi : (G.th i).live = true) (hrel : (G.th i).rel = none) (hjob : (G.th i).job = some j) (hrs : E.rs j = some r)
    (ha : G.app a = some (v, .ctr k)) (hpk : (G.th i).pas k = true) (more : E.App (setApp G.app a (v', .ctr k)) G.dn (upd G.cv r (G.cv r + 1))) :
    ∃ G', Did E i G G' w (w.setCell a v') (t ++ MemOp.ofEvents i fn pos (rw2 a)) { G.th i with job := none } ∧ Calm E G G' ∧ G'.app = setApp G.app a (v', .ctr k) ∧ G'.dn = G.dn ∧ G'.cv = upd G.cv r (G.cv r + 1) := by
  obtain ⟨hca, hfa, hsa⟩ := h.m.app a _ _ ha
  have hin := (h.a.liveW i hi).1
  have hlv : ∀ g, (upd G.th i { G.th i with job := none } g).live = (G.th g).live := fun g => fld Lo.live (by rfl) g
  have hown : ∀ g, (upd G.th i { G.th i with job := none } g).own = (G.th g).own := fun g => fld Lo.own (by rfl) g
  have hpas : ∀ g, (upd G.th i { G.th i with job := none } g).pas = (G.th g).pas := fun g => fld Lo.pas (by rfl) g
  have hmrs : ∀ g, (upd G.th i { G.th i with job := none } g).mr = (G.th g).mr := fun g => fld Lo.mr (by rfl) g
  have hruns : ∀ g, (upd G.th i { G.th i with job := none } g).run = (G.th g).run := fun g => fld Lo.run (by rfl) g
  have hgr : ∀ g, (upd G.th i { G.th i with job := none } g).gr = (G.th g).gr := fun g => fld Lo.gr (by rfl) g
  have hrl : ∀ g, (upd G.th i { G.th i with job := none } g).rel = (G.th g).rel := fun g => fld Lo.rel (by rfl) g
  have hkn : ∀ g, (upd G.th i { G.th i with job := none } g).kn = (G.th g).kn := fun g => fld Lo.kn (by rfl) g
  have hch : ∀ g, (upd G.th i { G.th i with job := none } g).ch = (G.th g).ch := fun g => fld Lo.ch (by rfl) g
  have hjb : ∀ g jj, (upd G.th i { G.th i with job := none } g).job = some jj → (G.th g).job = some jj := fun g jj hg => by
    by_cases e : g = i
    · subst e; rw [upd_same] at hg; cases hg
    · rw [upd_ne _ _ e] at hg; exact hg
  have hold : ∀ b v1 d, setApp G.app a (v', .ctr k) b = some (v1, d) → ∃ v2, G.app b = some (v2, d) := fun b v1 d hb => by
    rcases setApp_at hb with ⟨rfl, e⟩ | ⟨_, e⟩
    · cases e; exact ⟨v, ha⟩
    · exact ⟨v1, e⟩
  have hne : ∀ b v1 d, G.app b = some (v1, d) → d ≠ .ctr k → setApp G.app a (v', .ctr k) b = some (v1, d) := fun b v1 d hb hd => by
    unfold setApp
    rw [if_neg fun e => ?_]
    · exact hb
    · subst e; rw [ha] at hb; cases hb; exact hd rfl
  have hst : ∀ op ∈ MemOp.ofEvents i fn pos (rw2 a), op.act ≠ .mark .disable ∧ op.act ≠ .mark .enable := fun op hop => by
    obtain ⟨x, hx, rfl⟩ := mem_evs hop
    rcases rw2_mem hx with rfl | rfl <;> exact ⟨by simp [MemAct.ofEvent], by simp [MemAct.ofEvent]⟩
  have ht : GIt E G w.heap.size (t ++ MemOp.ofEvents i fn pos (rw2 a)) := by
    refine ⟨h.t.ti.step g_ofEvents (fun op hop b hb => ?_) (Nat.le_refl _) fun op hop => ?_, fun g hg => ?_, fun g hg => ?_, ?_⟩
    · have hbl : b.loc = .cell a ∧ b.kind = .atomic := by
        obtain ⟨x, hx, rfl⟩ := mem_evs hop
        rcases rw2_mem hx with rfl | rfl <;> (simp [MemAct.ofEvent, MemAct.touch?] at hb; subst hb; exact ⟨rfl, rfl⟩)
      obtain ⟨hb1, hb2⟩ := hbl
      refine ⟨.inr (.inr (.inl ⟨hb2, hi, ?_⟩)), fun g hg => ⟨fun hw => ?_, fun _ hw => ?_, fun e => (by rw [hb2] at e; cases e), fun e => (by rw [hb2] at e; cases e)⟩⟩
      · rw [hb1]; exact .inr ⟨v, k, ha, hpk⟩
      · rw [hb1] at hw
        obtain ⟨hl, hw⟩ := hw
        rcases hw with hw | ⟨v', k', hv, hw⟩ | ⟨v', j', hv, hw⟩
        · exact h.app_away ha g hl hw
        · rw [ha] at hv; cases hv
        · rw [ha] at hv; cases hv
      · rw [hb1] at hw
        obtain ⟨_, v', hv | ⟨k', hv, _⟩⟩ := hw <;> rw [ha] at hv <;> cases hv
    · obtain ⟨x, hx, rfl⟩ := mem_evs hop
      rcases rw2_mem hx with rfl | rfl <;> exact cell_block hca
    · rw [Go.ConcN.Deaf_still _ _ _ hst]; exact h.t.deaf g hg
    · rw [Go.ConcN.Deaf_still _ _ _ hst]; exact h.t.quiet g hg
    · refine h.t.tell.app g_ofEvents (h.ours hi) (fun op hop => ?_) (fun op hop b hb hw => ?_) (fun op hop b hb hk ad v' k' el hv => ?_) (fun _ => .inl hrel)
      · obtain ⟨x, hx, rfl⟩ := mem_evs hop
        rcases rw2_mem hx with rfl | rfl <;> simp [MemAct.ofEvent]
      · obtain ⟨x, hx, rfl⟩ := mem_evs hop
        have hbl : b.loc = .cell a := by rcases rw2_mem hx with rfl | rfl <;> (simp [MemAct.ofEvent, MemAct.touch?] at hb; subst hb; rfl)
        refine ⟨fun k' hk' e => ?_, fun ad v' k' e hv => ?_⟩
        · rw [hbl] at e; simp only [Loc.cell.injEq] at e
          exact hsa (.done k') hk' e
        · rw [hbl] at e; simp only [Loc.cell.injEq] at e; subst e; rw [ha] at hv; cases hv
      · obtain ⟨x, hx, rfl⟩ := mem_evs hop
        exfalso
        rcases rw2_mem hx with rfl | rfl <;> (simp [MemAct.ofEvent, MemAct.touch?] at hb; subst hb; cases hk)
  refine ⟨{ G with th := upd G.th i { G.th i with job := none }, app := setApp G.app a (v', .ctr k), cv := upd G.cv r (G.cv r + 1) },
    ⟨⟨h.a.tr rfl rfl hlv, ?_, ?_, ?_, h.g.tr rfl rfl rfl rfl rfl rfl fun g => ⟨hlv g, fld Lo.wk (by rfl) g, hgr g⟩, ?_, more, ?_⟩, upd_same _ _ _, fun g hg => upd_ne _ _ hg, rfl, fun g hg hgi => ⟨by rw [setCell_size]; exact Nat.le_refl _, fun b hb => set_blk w a v' fun e => h.app_away ha g hg (e ▸ hb)⟩, ?_⟩,
    Calm.of rfl rfl rfl rfl rfl rfl, rfl, rfl, rfl⟩
  · rw [setCell_size]
    refine h.s.tr (Nat.le_refl _) (fun b x hx => ?_) fun g hg => ⟨?_, hown g⟩
    · obtain ⟨v2, hv2⟩ := hold b x.1 x.2 hx; exact ⟨_, hv2⟩
    · have hg : (upd G.th i { G.th i with job := none } g).live = true := hg
      rw [hlv] at hg; exact hg
  · refine ⟨fun x hx => ?_, fun b v1 d hb => ?_, h.m.inj, fun hC => ?_, h.m.tape, h.m.output, h.m.os⟩
    · rw [show (Gh.val _ x) = G.val x by cases x <;> rfl, set_frz, set_other hca v' (fun e => hsa x hx e.symm)]
      exact h.m.sync x hx
    · rw [set_frz]
      rcases setApp_at hb with ⟨rfl, e⟩ | ⟨hne, e⟩
      · cases e; exact ⟨set_self hca v', hfa, hsa⟩
      · rw [set_other hca v' hne]; exact h.m.app b v1 d e
    · obtain ⟨⟨s, r, c1⟩, c2, c3⟩ := h.m.chan hC
      refine ⟨⟨s, r, ?_⟩, c2, fun b x hx => ?_⟩
      · rw [set_blk w a v' (c3 a _ ha)]; exact c1
      · obtain ⟨v2, hv2⟩ := hold b x.1 x.2 hx; exact c3 b _ hv2
  · refine ⟨fun k' hk => ?_, fun g k' r hg hm => h.k.mrK g k' r (by rw [← hlv]; exact hg) (by rw [← hmrs]; exact hm), fun g k' hg hr => ?_, fun g k' hg hp => h.k.pas g k' (by rw [← hlv]; exact hg) (by rw [← hpas]; exact hp), fun b v1 k' hb => ?_, fun b v1 k' hb hd' => ?_, fun g b v1 hg hv1 => ?_⟩
    · have : Gh.cnt { G with th := upd G.th i { G.th i with job := none }, app := setApp G.app a (v', .ctr k), cv := upd G.cv r (G.cv r + 1) } k' = G.cnt k' := by
        funext r
        exact sum_same (φ := fun l => l.at k' r) (by rfl)
      rw [this]; exact h.k.mu k' hk
    · rw [show (Gh.th _ g).mr = _ from hmrs g]
      exact h.k.run g k' (by rw [← hlv]; exact hg) (by rw [← hruns]; exact hr)
    · rcases setApp_at hb with ⟨rfl, e⟩ | ⟨_, e⟩
      · cases e
      · obtain ⟨p1, p2, p3⟩ := h.k.prot b v1 k' e
        exact ⟨p1, p2, p3.imp (fun ⟨g, q1, q2, q3⟩ => ⟨g, by rw [show (Gh.th _ g).live = _ from hlv g]; exact q1, by rw [show (Gh.th _ g).run = _ from hruns g]; exact q2, by rw [show (Gh.th _ g).kn = _ from hkn g]; exact q3⟩) fun ⟨q1, q2⟩ => ⟨fun g hg => by rw [show (Gh.th _ g).run = _ from hruns g]; exact q1 g (by rw [← hlv]; exact hg), q2⟩⟩
    · obtain ⟨v2, hv2⟩ := h.k.ini b v1 k' hb hd'
      exact ⟨v2, hne _ _ _ hv2 fun e => by cases e⟩
    · obtain ⟨d, d1, d2⟩ := h.k.kn g b v1 (by rw [← hlv]; exact hg) (by rw [← hkn]; exact hv1)
      refine ⟨d, hne _ _ _ d1 fun e => ?_, by rw [show (Gh.th _ g).pas = _ from hpas g, show (Gh.th _ g).run = _ from hruns g]; exact d2⟩
      subst e
      rcases d2 with x | ⟨_, x, _⟩ | ⟨_, x, _⟩ <;> cases x
  · refine ⟨fun hC g hg => ?_, fun g v hg hv => ?_, fun g hg hv => ?_, h.j.cl, h.j.posn, fun r' => ?_, fun g jj hg hjj => ?_, h.j.tks, fun hC hc g hg => ?_, h.j.any, fun hC => ?_, fun g hg hm => ?_, ?_, fun g hg hs => ?_⟩
    · rw [show (Gh.th _ g).ch = _ from hch g]; exact h.j.noC hC g (by rw [← hlv]; exact hg)
    · rw [show (Gh.th _ g).gr = _ from hgr g]; exact h.j.ch0 g v (by rw [← hlv]; exact hg) (by rw [← hch]; exact hv)
    · obtain ⟨c1, c2, c3, c4⟩ := h.j.chR g (by rw [← hlv]; exact hg) (by rw [← hch]; exact hv)
      exact ⟨c1, fun jj hjj => c2 jj (hjb g jj hjj), by rw [show (Gh.th _ g).mr = _ from hmrs g]; exact c3, by rw [show (Gh.th _ g).gr = _ from hgr g]; exact c4⟩
    · have hc := h.j.cnt r'
      have s1 := sum_upd hin G.th { G.th i with job := none } (fun l => l.holds E.rs r')
      have e2 : ({ G.th i with job := none } : Lo).holds E.rs r' = 0 := by unfold Lo.holds; rfl
      show upd G.cv r (G.cv r + 1) r' + (sumTo G.n fun g => (upd G.th i { G.th i with job := none } g).holds E.rs r') = sentTo E.rs r' G.pos
      by_cases e : r' = r
      · subst e
        have e1 : (G.th i).holds E.rs r' = 1 := by unfold Lo.holds; rw [hjob]; simp only; rw [if_pos ⟨hi, hrs⟩]
        rw [upd_same]; omega
      · have e1 : (G.th i).holds E.rs r' = 0 := by
          unfold Lo.holds; rw [hjob]; simp only
          rw [if_neg]
          rintro ⟨_, x⟩; rw [hrs] at x; cases x; exact e rfl
        rw [upd_ne _ _ e]; omega
    · exact h.j.jobs g jj (by rw [← hlv]; exact hg) (hjb g jj hjj)
    · rw [show (Gh.th _ g).live = _ from hlv g, show (Gh.th _ g).gr = _ from hgr g]; exact h.j.stay hC hc g hg
    · rw [show (Gh.th _ 0).gr = _ from hgr 0]; exact h.j.shutW hC
    · rw [show (Gh.th _ g).gr = _ from hgr g]; exact h.j.mrG g (by rw [← hlv]; exact hg) (by rw [← hmrs]; exact hm)
    · rw [show (Gh.th _ 0).me = (G.th 0).me from fld (i := i) (l := { G.th i with job := none }) Lo.me (by rfl) 0]; exact h.j.me
    · exact h.j.sc g (by rw [← hlv]; exact hg) (by rw [← fld (i := i) (l := { G.th i with job := none }) Lo.sc (by rfl) g]; exact hs)
  · rw [setCell_size]
    refine ht.less rfl hlv (fun g => fld Lo.deaf (by rfl) g) (fun g b hg hw => ?_) (fun g b hg hb => by rw [← hown]; exact hb) (fun g b hg hr => ?_) (fun g b hg hA => ?_) ?_
    · rcases hw with hw | ⟨v1, k', hv, hw⟩ | ⟨v1, j', hv, hw⟩
      · exact .inl (by rw [← hown]; exact hw)
      · obtain ⟨v2, hv2⟩ := hold _ _ _ hv
        refine .inr (.inl ⟨v2, k', hv2, hw.imp (fun x => by rw [← hruns]; exact x) fun x j hj => by rw [← hruns]; exact x j (by rw [show (Gh.th _ j).live = _ from hlv j]; exact hj)⟩)
      · obtain ⟨v2, hv2⟩ := hold _ _ _ hv
        exact .inr (.inr ⟨v2, j', hv2, hw⟩)
    · obtain ⟨v1, hv | ⟨k', hv, hp⟩⟩ := hr
      · obtain ⟨v2, hv2⟩ := hold _ _ _ hv; exact ⟨v2, .inl hv2⟩
      · obtain ⟨v2, hv2⟩ := hold _ _ _ hv; exact ⟨v2, .inr ⟨k', hv2, by rw [← hpas]; exact hp⟩⟩
    · rcases hA with hA | ⟨v1, k', hv, hp⟩
      · exact .inl hA
      · obtain ⟨v2, hv2⟩ := hold _ _ _ hv; exact .inr ⟨v2, k', hv2, by rw [← hpas]; exact hp⟩
    · exact ht.tell.tra rfl (fun ad v1 k' => ⟨fun x => hold _ _ _ x, fun x => hold _ _ _ x⟩) rfl fun g => ⟨hlv g, hpas g, hrl g, hgr g⟩
  · have e1 : (sumTo G.n fun g => (upd G.th i { G.th i with job := none } g).φ E.K) = sumTo G.n fun g => (G.th g).φ E.K := sum_same (φ := fun l => l.φ E.K) (by rfl)
    have e3 : ∀ k', (sumTo G.n fun g => (upd G.th i { G.th i with job := none } g).stale k' (G.wd k')) = sumTo G.n fun g => (G.th g).stale k' (G.wd k') := fun k' => sum_same (φ := fun l => l.stale k' (G.wd k')) (by rfl)
    have e4 : (upd G.th i { G.th i with job := none } 0).staleG G.wn = (G.th 0).staleG G.wn := fld (fun l => l.staleG G.wn) (by rfl) 0
    unfold Gh.Φ
    simp only [e1, e3, e4]
    exact Nat.le_refl _
end Go.Co

namespace Go.Co
open Go Go.Conc
open Go.ConcM (OsLater)
open Go.ConcN (sumTo upd sumTo_upd upd_ne upd_same sumTo_congr le_sumTo sumTo_le)
variable {E : Geo} {G G' : Gh} {w w' : World} {t t' u : Trace} {B B' : Nat}
structure WKeep (l l' : Lo) : Prop where
  wk : l'.wk = l.wk
  own : l'.own = l.own
  mr : l'.mr = l.mr
  old : l'.old = l.old
  run : l'.run = l.run
  pas : l'.pas = l.pas
  ch : l'.ch = l.ch
  job : l'.job = l.job
  kn : l'.kn = l.kn
  sc : l'.sc = l.sc
def Gh.wg (G : Gh) (i : Nat) (l' : Lo) (wn ww ws pend : Nat) : Gh := { G with th := upd G.th i l', wn := wn, ww := ww, ws := ws, pend := pend }
theorem lives_le {th : Nat → Lo} {i : Nat} {l' : Lo} (h : (th i).live = true) (j : Nat) : (upd th i l' j).lives ≤ (th j).lives := by
  by_cases e : j = i
  · subst e; rw [upd_same]; unfold Lo.lives; rw [h]; exact Bool.toNat_le _
  · rw [upd_ne _ _ e]; exact Nat.le_refl _
theorem GI.wgm (h : GI E G w t) {i : Nat} {l' : Lo} {wn ww ws pend : Nat} (hi : (G.th i).live = true) (s : WKeep (G.th i) l') (hlive : l'.live = true ∨ i ≠ 0) (hmr : (G.th i).mr = none)
    (hjob : l'.live = true ∨ ∀ j, (G.th i).job = some j → E.rs j = none) (hch : (G.th i).ch = .no) (hstay : (l'.live = true ∧ l'.gr = .out) ∨ (E.hasC = true → G.cl = true))
    (hme : i = 0 → l'.me = ⟨G.left, pend, G.pos, G.cl⟩) (hp0 : i ≠ 0 → pend = G.pend) (hcl : G.cl = true → pend = 0) (hsize : w'.heap.size = w.heap.size)
    (hm : GIm E (G.wg i l' wn ww ws pend) w') (hg : WgI (G.wg i l' wn ww ws pend)) (ht : GIt E (G.wg i l' wn ww ws pend) w.heap.size t') : GI E (G.wg i l' wn ww ws pend) w' t' := by
  have hlv : ∀ j, (upd G.th i l' j).live = true → (G.th j).live = true := fun j hj => by
    by_cases e : j = i
    · subst e; exact hi
    · rw [upd_ne _ _ e] at hj; exact hj
  have hown : ∀ j, (upd G.th i l' j).own = (G.th j).own := fun j => fld Lo.own s.own j
  have hpas : ∀ j, (upd G.th i l' j).pas = (G.th j).pas := fun j => fld Lo.pas s.pas j
  have hmrs : ∀ j, (upd G.th i l' j).mr = (G.th j).mr := fun j => fld Lo.mr s.mr j
  have hruns : ∀ j, (upd G.th i l' j).run = (G.th j).run := fun j => fld Lo.run s.run j
  have hkn : ∀ j, (upd G.th i l' j).kn = (G.th j).kn := fun j => fld Lo.kn s.kn j
  have hchs : ∀ j, (upd G.th i l' j).ch = (G.th j).ch := fun j => fld Lo.ch s.ch j
  have hjbs : ∀ j, (upd G.th i l' j).job = (G.th j).job := fun j => fld Lo.job s.job j
  have hscs : ∀ j, (upd G.th i l' j).sc = (G.th j).sc := fun j => fld Lo.sc s.sc j
  have hruni : (G.th i).run = none := by
    cases e : (G.th i).run with
    | none => rfl
    | some k => have := (h.k.run i k hi e).1; rw [hmr] at this; cases this
  have hin := (h.a.liveW i hi).1
  have hgrj : ∀ j, (upd G.th i l' j).live = true → (upd G.th i l' j).gr ≠ .out → j ≠ i → (G.th j).gr ≠ .out := fun j _ hg e => by rw [upd_ne _ _ e] at hg; exact hg
  refine ⟨⟨h.a.pos0, ?_, fun j hj => h.a.liveW j (hlv j hj), ?_, h.a.alone⟩, ?_, hm, ?_, hg, ?_, h.more, by rw [hsize]; exact ht⟩
  · show (upd G.th i l' 0).live = true
    by_cases e : (0 : Nat) = i
    · subst e; rw [upd_same]; exact hlive.resolve_right fun x => x rfl
    · rw [upd_ne _ _ e]; exact h.a.live0
  · have := sumTo_mono (n := G.n) (f := fun j => (upd G.th i l' j).lives) (g := fun j => (G.th j).lives) fun j _ => lives_le hi j
    have := h.a.few
    show sumTo G.n (fun j => (upd G.th i l' j).lives) + G.left ≤ 48
    omega
  · rw [hsize]
    exact h.s.tr (Nat.le_refl _) (fun a v hv => ⟨v, hv⟩) fun j hj => ⟨hlv j hj, hown j⟩
  · refine ⟨fun k hk => ?_, fun j k r hj hm => h.k.mrK j k r (hlv j hj) (by rw [← hmrs]; exact hm), fun j k hj hr => ?_, fun j k hj hp => h.k.pas j k (hlv j hj) (by rw [← hpas]; exact hp), fun a v k hv => ?_, h.k.ini, fun j a v hj hv => ?_⟩
    · have : Gh.cnt (G.wg i l' wn ww ws pend) k = G.cnt k := by
        funext r
        refine sum_same (φ := fun l => l.at k r) ?_
        simp only [Lo.at, s.mr, hmr]
        simp
      rw [this]; exact h.k.mu k hk
    · have := h.k.run j k (hlv j hj) (by rw [← hruns]; exact hr)
      rw [show (Gh.th _ j).mr = _ from hmrs j]; exact this
    · obtain ⟨p1, p2, p3⟩ := h.k.prot a v k hv
      refine ⟨p1, p2, ?_⟩
      rcases p3 with ⟨j, q1, q2, q3⟩ | ⟨q1, q2⟩
      · have hji : j ≠ i := fun e => by subst e; rw [hruni] at q2; cases q2
        refine .inl ⟨j, ?_⟩
        show (upd G.th i l' j).live = true ∧ (upd G.th i l' j).run = some k ∧ (upd G.th i l' j).kn a = some v
        rw [upd_ne _ _ hji]; exact ⟨q1, q2, q3⟩
      · exact .inr ⟨fun j hj => by rw [show (Gh.th _ j).run = _ from hruns j]; exact q1 j (hlv j hj), q2⟩
    · have := h.k.kn j a v (hlv j hj) (by rw [← hkn]; exact hv)
      rw [show (Gh.th _ j).pas = _ from hpas j, show (Gh.th _ j).run = _ from hruns j]; exact this
  · refine ⟨fun hC j hj => ?_, fun j v hj hv => ?_, fun j hj hv => ?_, fun hc => ⟨(h.j.cl hc).1, (h.j.cl hc).2.1, hcl hc⟩, h.j.posn, fun r => ?_, fun j jj hj hjj => h.j.jobs j jj (hlv j hj) (by rw [← hjbs]; exact hjj), h.j.tks, fun hC hc j hj => ?_, h.j.any, fun hC hgo => ?_, fun j hj hm => ?_, ?_, fun j hj hs => h.j.sc j (hlv j hj) (by rw [← hscs]; exact hs)⟩
    · rw [show (Gh.th _ j).ch = _ from hchs j]; exact h.j.noC hC j (hlv j hj)
    · have hv2 : (G.th j).ch = .send v := by rw [← hchs]; exact hv
      have hji : j ≠ i := fun e => by subst e; rw [hch] at hv2; cases hv2
      have := h.j.ch0 j v (hlv j hj) hv2
      show j = 0 ∧ G.pos < E.nj ∧ v = E.jv G.pos ∧ G.cl = false ∧ G.left = 0 ∧ (upd G.th i l' j).gr = .out
      rw [upd_ne _ _ hji]; exact this
    · have hv2 : (G.th j).ch = .recv := by rw [← hchs]; exact hv
      have hji : j ≠ i := fun e => by subst e; rw [hch] at hv2; cases hv2
      have := h.j.chR j (hlv j hj) hv2
      show j ≠ 0 ∧ (∀ jj, (upd G.th i l' j).job = some jj → E.rs jj = none) ∧ (upd G.th i l' j).mr = none ∧ (upd G.th i l' j).gr = .out
      rw [upd_ne _ _ hji]; exact this
    · have : (sumTo G.n fun j => (upd G.th i l' j).holds E.rs r) = sumTo G.n fun j => (G.th j).holds E.rs r := by
        refine sum_same (φ := fun l => l.holds E.rs r) ?_
        simp only [Lo.holds, s.job]
        cases e : (G.th i).job with
        | none => rfl
        | some j =>
          simp only
          rcases hjob with x | x
          · rw [x, hi]
          · rw [x j e]; simp
      show G.cv r + (sumTo G.n fun j => (upd G.th i l' j).holds E.rs r) = sentTo E.rs r G.pos
      rw [this]; exact h.j.cnt r
    · show (upd G.th i l' j).live = true ∧ (upd G.th i l' j).gr = .out
      by_cases e : j = i
      · subst e
        rw [upd_same]
        rcases hstay with x | x
        · exact x
        · have hc : G.cl = false := hc
          rw [x hC] at hc; cases hc
      · rw [upd_ne _ _ e]; exact h.j.stay hC hc j hj
    · have hgo : (upd G.th i l' 0).gr ≠ .out := hgo
      by_cases e : (0 : Nat) = i
      · subst e
        rw [upd_same] at hgo
        rcases hstay with x | x
        · exact absurd x.2 hgo
        · exact x hC
      · rw [upd_ne _ _ e] at hgo; exact h.j.shutW hC hgo
    · have hm2 : (G.th j).mr ≠ none := by rw [← hmrs]; exact hm
      have hji : j ≠ i := fun e => by subst e; exact hm2 hmr
      show (upd G.th i l' j).gr = .out
      have := hlv j hj
      rw [upd_ne _ _ hji]; exact h.j.mrG j this hm2
    · show (upd G.th i l' 0).me = ⟨G.left, pend, G.pos, G.cl⟩
      by_cases e : (0 : Nat) = i
      · subst e; rw [upd_same]; exact hme rfl
      · rw [upd_ne _ _ e, hp0 fun x => e x.symm]; exact h.j.me
def Lo.grw (l : Lo) : Nat := match l.gr with | .out => 4 | .chk _ => 3 | .waits => 2 | .thru => 1 | _ => 0
theorem Gh.phi_wg (h : GIa E G) {i : Nat} {l' : Lo} {wn ww ws pend : Nat} (hi : (G.th i).live = true) (s : WKeep (G.th i) l') (hmr : (G.th i).mr = none) :
    (G.wg i l' wn ww ws pend).Φ E.K E.nj + (G.th i).φ E.K + (G.th 0).staleG G.wn = G.Φ E.K E.nj + l'.φ E.K + (upd G.th i l' 0).staleG wn := by
  have hin := (h.liveW i hi).1
  have e1 := sum_upd hin G.th l' (fun l => l.φ E.K)
  have e3 : ∀ k', (sumTo G.n fun j => (upd G.th i l' j).stale k' (G.wd k')) = sumTo G.n fun j => (G.th j).stale k' (G.wd k') := fun k' => sum_same (φ := fun l => l.stale k' (G.wd k')) (by simp only [Lo.stale, s.mr, hmr])
  unfold Gh.Φ Gh.wg
  simp only [e3]
  omega
theorem φ_eq (K : Nat) (l : Lo) : l.φ K = if l.live = true then 1 + 2 * l.busy + l.lasts + l.grw + sumTo K fun k => 64 * l.wt k else 0 := rfl
theorem φ_live {K : Nat} {l l' : Lo} (s : WKeep l l') (hl : l.live = true) (hl' : l'.live = true) : l'.φ K + 2 * l.busy + l.lasts + l.grw = l.φ K + 2 * l'.busy + l'.lasts + l'.grw := by
  have : ∀ k, l'.wt k = l.wt k := fun k => by unfold Lo.wt; rw [s.mr, s.wk, s.pas]
  rw [φ_eq, φ_eq, if_pos hl, if_pos hl']
  simp only [this]
  omega
theorem φ_dead {K : Nat} {l : Lo} (h : l.live = false) : l.φ K = 0 := by unfold Lo.φ; simp [h]
theorem φ_pos {K : Nat} {l : Lo} (h : l.live = true) : 1 + 2 * l.busy + l.lasts + l.grw ≤ l.φ K := by rw [φ_eq, if_pos h]; omega
theorem GI.evs1 (h : GI E G w t) {i : Nat} {es : Array Event} (fn : FuncId) (pos : String) (hi : (G.th i).live = true) (he : ∀ e ∈ es, SEv E e)
    (hq : (G.th i).rel = none ∨ ∀ j e, es[j]? = some e → (MemAct.ofEvent e).touch? = none ∨ ((e.loc = .cell (E.sc .wst) ∨ e.loc = .cell (E.sc .wsm)) ∧ 0 < deafBehind (G.th i).deaf (es.extract 0 j))) :
    GIt E { G with th := upd G.th i { G.th i with deaf := deafBehind (G.th i).deaf es } } w.heap.size (t ++ MemOp.ofEvents i fn pos es) := by
  refine h.evs fn pos hi he ⟨rfl, rfl, rfl, rfl, fun j => ⟨fld Lo.live (by rfl) j, fld Lo.own (by rfl) j, fld Lo.run (by rfl) j, fld Lo.pas (by rfl) j, fld Lo.rel (by rfl) j, ?_, ?_⟩⟩ (fun j => ?_) hq
  · rw [show (Gh.th _ j).gr = (G.th j).gr from fld (i := i) (l := { G.th i with deaf := deafBehind (G.th i).deaf es }) Lo.gr (by rfl) j]
  · rw [show (Gh.th _ j).gr = (G.th j).gr from fld (i := i) (l := { G.th i with deaf := deafBehind (G.th i).deaf es }) Lo.gr (by rfl) j]
  · show (upd G.th i { G.th i with deaf := deafBehind (G.th i).deaf es } j).deaf = _
    by_cases e : j = i
    · subst e; rw [upd_same, if_pos rfl]
    · rw [upd_ne _ _ e, if_neg e]
theorem GI.wgt' (h : GI E G w t) {i d : Nat} {l' : Lo} {wn ww ws pend : Nat} (hi : (G.th i).live = true) (hmr : (G.th i).mr = none) (h1 : GIt E { G with th := upd G.th i { G.th i with deaf := d } } B t') (s : WKeep (G.th i) l') (hd : l'.deaf = d)
    (tell : Tell E (G.wg i l' wn ww ws pend) t') : GIt E (G.wg i l' wn ww ws pend) B t' := by
  have hruni : (G.th i).run = none := by
    cases e : (G.th i).run with
    | none => rfl
    | some k => have := (h.k.run i k hi e).1; rw [hmr] at this; cases this
  have hlv : ∀ j, (upd G.th i l' j).live = true → (G.th j).live = true := fun j hj => by
    by_cases e : j = i
    · subst e; exact hi
    · rw [upd_ne _ _ e] at hj; exact hj
  have hlv1 : ∀ j, (upd G.th i { G.th i with deaf := d } j).live = (G.th j).live := fun j => fld Lo.live (by rfl) j
  have hown : ∀ j, (upd G.th i l' j).own = (upd G.th i { G.th i with deaf := d } j).own := fun j => (fld Lo.own s.own j).trans (fld Lo.own (by rfl) j).symm
  have hpas : ∀ j, (upd G.th i l' j).pas = (upd G.th i { G.th i with deaf := d } j).pas := fun j => (fld Lo.pas s.pas j).trans (fld Lo.pas (by rfl) j).symm
  have hruns : ∀ j, (upd G.th i l' j).run = (G.th j).run := fun j => fld Lo.run s.run j
  have hruns1 : ∀ j, (upd G.th i { G.th i with deaf := d } j).run = (G.th j).run := fun j => fld Lo.run (by rfl) j
  refine ⟨h1.ti.change (fun g l hw => .inl ?_) (fun g l hw => .inl ?_) (fun g l hw => .inl ?_) (fun g l hw => .inl hw), fun j hj => ?_, h1.quiet, tell⟩
  · obtain ⟨a1, a2⟩ := hw
    refine ⟨by rw [show (Gh.th _ g).live = _ from hlv1 g]; exact hlv g a1, ?_⟩
    cases l with
    | cell a =>
      rcases a2 with a2 | ⟨v, k, hv, a2⟩ | a2
      · refine .inl ?_
        show (upd G.th i { G.th i with deaf := d } g).own a.block
        rw [← hown]; exact a2
      · refine .inr (.inl ⟨v, k, hv, ?_⟩)
        rcases a2 with a2 | a2
        · left; show (upd G.th i { G.th i with deaf := d } g).run = some k
          rw [hruns1, ← hruns]; exact a2
        · right
          intro j hj hr
          have hr2 : (G.th j).run = some k := by rw [← hruns1]; exact hr
          have hji : j ≠ i := fun e => by subst e; rw [hruni] at hr2; cases hr2
          refine a2 j ?_ (by rw [show (Gh.th _ j).run = _ from hruns j]; exact hr2)
          show (upd G.th i l' j).live = true
          rw [upd_ne _ _ hji]
          have hj : (upd G.th i { G.th i with deaf := d } j).live = true := hj
          rw [hlv1] at hj; exact hj
      · exact .inr (.inr a2)
    | obj r =>
      show (upd G.th i { G.th i with deaf := d } g).own r
      rw [← hown]; exact a2
    | _ => exact a2.elim
  · obtain ⟨a1, a2⟩ := hw
    refine ⟨by rw [show (Gh.th _ g).live = _ from hlv1 g]; exact hlv g a1, ?_⟩
    cases l with
    | cell a =>
      obtain ⟨v, hv | ⟨k, hv, hp⟩⟩ := a2
      · exact ⟨v, .inl hv⟩
      · refine ⟨v, .inr ⟨k, hv, ?_⟩⟩
        show (upd G.th i { G.th i with deaf := d } g).pas k = true
        rw [← hpas]; exact hp
    | _ => exact a2.elim
  · obtain ⟨a1, a2⟩ := hw
    refine ⟨by rw [show (Gh.th _ g).live = _ from hlv1 g]; exact hlv g a1, ?_⟩
    cases l with
    | cell a =>
      rcases a2 with a2 | ⟨v, k, hv, hp⟩
      · exact .inl a2
      · refine .inr ⟨v, k, hv, ?_⟩
        show (upd G.th i { G.th i with deaf := d } g).pas k = true
        rw [← hpas]; exact hp
    | obj r => exact a2
    | _ => exact a2.elim
  · have := h1.deaf j (by show (upd G.th i { G.th i with deaf := d } j).live = true; rw [hlv1]; exact hlv j hj)
    rw [this]
    show (upd G.th i { G.th i with deaf := d } j).deaf = (upd G.th i l' j).deaf
    by_cases e : j = i
    · subst e; rw [upd_same, upd_same, hd]
    · rw [upd_ne _ _ e, upd_ne _ _ e]
theorem Tell.wg {i d : Nat} {l' : Lo} {wn ww ws pend : Nat} (h : Tell E { G with th := upd G.th i { G.th i with deaf := d } } t) (hi : (G.th i).live = true) (hpas : l'.pas = (G.th i).pas) (hrel : l'.rel = (G.th i).rel)
    (hout : i = 0 ∨ (G.th i).rel ≠ none ∨ (l'.live = true ∧ l'.gr = .out)) (hj : l'.gr = .joined → (G.th i).gr = .joined) (h00 : 0 < E.n0) : Tell E (G.wg i l' wn ww ws pend) t := by
  have hrl : ∀ j, (upd G.th i l' j).rel = (G.th j).rel := fun j => fld Lo.rel hrel j
  have hps : ∀ j, (upd G.th i l' j).pas = (G.th j).pas := fun j => fld Lo.pas hpas j
  have hrl1 : ∀ j, (upd G.th i { G.th i with deaf := d } j).rel = (G.th j).rel := fun j => fld Lo.rel (by rfl) j
  have hps1 : ∀ j, (upd G.th i { G.th i with deaf := d } j).pas = (G.th j).pas := fun j => fld Lo.pas (by rfl) j
  have hlv1 : ∀ j, (upd G.th i { G.th i with deaf := d } j).live = (G.th j).live := fun j => fld Lo.live (by rfl) j
  have hgr1 : ∀ j, (upd G.th i { G.th i with deaf := d } j).gr = (G.th j).gr := fun j => fld Lo.gr (by rfl) j
  refine ⟨h.known, h.over, h.norel, fun g hg => ?_, fun k hk hd => ?_, fun hjj g r hg hr => ?_⟩
  · show ((upd G.th i l' g).rel = none ∧ (upd G.th i l' g).live = true ∧ (upd G.th i l' g).gr = .out) ∨ ∃ r, (upd G.th i l' g).rel = some r ∧ _
    have := h.rel g hg
    have this : ((upd G.th i { G.th i with deaf := d } g).rel = none ∧ (upd G.th i { G.th i with deaf := d } g).live = true ∧ (upd G.th i { G.th i with deaf := d } g).gr = .out) ∨ ∃ r, (upd G.th i { G.th i with deaf := d } g).rel = some r ∧ _ := this
    rw [hrl1, hlv1, hgr1] at this
    rw [hrl]
    refine this.imp (fun ⟨a1, a2, a3⟩ => ⟨a1, ?_⟩) id
    by_cases e : g = i
    · subst e
      rw [upd_same]
      rcases hout with x | x | x
      · subst x; exact absurd hg.1 (by omega)
      · exact absurd a1 x
      · exact x
    · rw [upd_ne _ _ e]; exact ⟨a2, a3⟩
  · obtain ⟨p, a1, a2, a3, a4⟩ := h.pub k hk hd
    refine ⟨p, a1, a2, a3, fun j hj hp => a4 j ?_ ?_⟩
    · show (upd G.th i { G.th i with deaf := d } j).live = true
      rw [hlv1]
      by_cases e : j = i
      · subst e; exact hi
      · have hj : (upd G.th i l' j).live = true := hj
        rw [upd_ne _ _ e] at hj; exact hj
    · show (upd G.th i { G.th i with deaf := d } j).pas k = true
      rw [hps1, ← hps]; exact hp
  · refine h.join ?_ g r hg ?_
    · show (upd G.th i { G.th i with deaf := d } 0).gr = .joined
      rw [hgr1]
      have hjj : (upd G.th i l' 0).gr = .joined := hjj
      by_cases e : (0 : Nat) = i
      · subst e; rw [upd_same] at hjj; exact hj hjj
      · rw [upd_ne _ _ e] at hjj; exact hjj
    · show (upd G.th i { G.th i with deaf := d } g).rel = some r
      rw [hrl1, ← hrl]; exact hr
end Go.Co

namespace Go.Co
open Go Go.Conc
open Go.ConcM (OsLater)
open Go.ConcN (sumTo upd sumTo_upd upd_ne upd_same sumTo_congr le_sumTo sumTo_le)
variable {E : Geo} {G G' : Gh} {w w' : World} {t t' u : Trace} {B B' : Nat}
def WgCell (E : Geo) (G : Gh) (w w' : World) (wn ww ws : Nat) : Prop :=
  (w' = w ∧ wn = G.wn ∧ ww = G.ww ∧ ws = G.ws) ∨ (w' = w.setCell (E.sc .wst) (.int .u64 ((wn * 4294967296 + ww : Nat) : Int)) ∧ ws = G.ws) ∨ (w' = w.setCell (E.sc .wsm) (.int .u32 (ws : Int)) ∧ wn = G.wn ∧ ww = G.ww)
theorem WgCell.size {wn ww ws : Nat} (h : WgCell E G w w' wn ww ws) : w'.heap.size = w.heap.size := by
  rcases h with ⟨rfl, _⟩ | ⟨rfl, _⟩ | ⟨rfl, _⟩
  · rfl
  · exact setCell_size ..
  · exact setCell_size ..
theorem WgCell.view (hW : 0 < E.K) {wn ww ws : Nat} (hw : WgCell E G w w' wn ww ws) (h : GI E G w t) (j : Nat) (hj : (G.th j).live = true) : View (G.th j).own w w' := by
  rcases hw with ⟨rfl, _⟩ | ⟨rfl, _⟩ | ⟨rfl, _⟩
  · exact View.refl _ _
  · exact h.view_set (x := .wst) hW _ j hj
  · exact h.view_set (x := .wsm) hW _ j hj
theorem WgCell.mem (hW : 0 < E.K) {i : Nat} {l' : Lo} {wn ww ws pend : Nat} (hw : WgCell E G w w' wn ww ws) (h : GIm E G w) : GIm E (G.wg i l' wn ww ws pend) w' := by
  have hval : ∀ y, y ≠ .wst → y ≠ .wsm → (G.wg i l' wn ww ws pend).val y = G.val y := by
    intro y h1 h2
    cases y with
    | wst => exact absurd rfl h1
    | wsm => exact absurd rfl h2
    | _ => rfl
  rcases hw with ⟨rfl, rfl, rfl, rfl⟩ | ⟨rfl, rfl⟩ | ⟨rfl, rfl, rfl⟩
  · exact h.tr (fun y => by cases y <;> rfl) rfl rfl
  · refine h.set (x := .wst) hW _ (fun y _ => ?_) rfl rfl
    by_cases e1 : y = .wst
    · subst e1; rw [if_pos rfl]; rfl
    · rw [if_neg e1]
      by_cases e2 : y = .wsm
      · subst e2; rfl
      · exact hval y e1 e2
  · refine h.set (x := .wsm) hW _ (fun y _ => ?_) rfl rfl
    by_cases e1 : y = .wsm
    · subst e1; rw [if_pos rfl]; rfl
    · rw [if_neg e1]
      by_cases e2 : y = .wst
      · subst e2; rfl
      · exact hval y e2 e1
theorem GI.wgr (h : GI E G w t) (hW : 0 < E.K) {i : Nat} {es : Array Event} {l' : Lo} {wn ww ws pend : Nat} (fn : FuncId) (pos : String) (hi : (G.th i).live = true) (s : WKeep (G.th i) l') (hlive : l'.live = true ∨ i ≠ 0) (hmr : (G.th i).mr = none)
    (hjob : l'.live = true ∨ ∀ j, (G.th i).job = some j → E.rs j = none) (hch : (G.th i).ch = .no) (hstay : (l'.live = true ∧ l'.gr = .out) ∨ (E.hasC = true → G.cl = true))
    (hme : i = 0 → l'.me = ⟨G.left, pend, G.pos, G.cl⟩) (hp0 : i ≠ 0 → pend = G.pend) (hcl : G.cl = true → pend = 0)
    (hw : WgCell E G w w' wn ww ws) (he : ∀ e ∈ es, SEv E e)
    (hq : (G.th i).rel = none ∨ ∀ j e, es[j]? = some e → (MemAct.ofEvent e).touch? = none ∨ ((e.loc = .cell (E.sc .wst) ∨ e.loc = .cell (E.sc .wsm)) ∧ 0 < deafBehind (G.th i).deaf (es.extract 0 j)))
    (hd : l'.deaf = deafBehind (G.th i).deaf es) (hrel : l'.rel = (G.th i).rel) (hout : i = 0 ∨ (G.th i).rel ≠ none ∨ (l'.live = true ∧ l'.gr = .out)) (hj : l'.gr = .joined → (G.th i).gr = .joined)
    (hg : WgI (G.wg i l' wn ww ws pend)) (hφ : l'.φ E.K + (upd G.th i l' 0).staleG wn ≤ (G.th i).φ E.K + (G.th 0).staleG G.wn) :
    Did E i G (G.wg i l' wn ww ws pend) w w' (t ++ MemOp.ofEvents i fn pos es) l' := by
  have h1 := h.evs1 fn pos hi he hq
  have := Gh.phi_wg (E := E) (l' := l') (wn := wn) (ww := ww) (ws := ws) (pend := pend) h.a hi s hmr
  exact ⟨h.wgm hi s hlive hmr hjob hch hstay hme hp0 hcl hw.size (hw.mem hW h.m) hg (h.wgt' hi hmr h1 s hd (h1.tell.wg hi s.pas hrel hout hj h.a.pos0.1)), upd_same _ _ _, fun j hj => upd_ne _ _ hj, rfl, fun j hj _ => hw.view hW h j hj, by omega⟩
structure Sums (G : Gh) (i : Nat) (l' : Lo) : Prop where
  b : (sumTo G.n fun j => (upd G.th i l' j).busy) + (G.th i).busy = (sumTo G.n fun j => (G.th j).busy) + l'.busy
  l : (sumTo G.n fun j => (upd G.th i l' j).lasts) + (G.th i).lasts = (sumTo G.n fun j => (G.th j).lasts) + l'.lasts
  s : (sumTo G.n fun j => (upd G.th i l' j).lastsS) + (G.th i).lastsS = (sumTo G.n fun j => (G.th j).lastsS) + l'.lastsS
theorem GIa.sums (h : GIa E G) {i : Nat} (l' : Lo) (hi : (G.th i).live = true) : Sums G i l' :=
  have hin := (h.liveW i hi).1
  ⟨sum_upd hin G.th l' Lo.busy, sum_upd hin G.th l' Lo.lasts, sum_upd hin G.th l' Lo.lastsS⟩
theorem busy_le (l : Lo) : l.busy ≤ l.lives := by
  unfold Lo.busy Lo.lives; split
  · rename_i h; rw [h.1]; exact Nat.le_refl _
  · exact Nat.zero_le _
theorem GIa.busy_le (h : GIa E G) : (sumTo G.n fun j => (G.th j).busy) + G.left ≤ 48 := by
  have := sumTo_mono (n := G.n) (f := fun j => (G.th j).busy) (g := fun j => (G.th j).lives) fun j _ => Co.busy_le _
  have := h.few
  omega
theorem WgI.lasts_ww (h : WgI G) : G.ww ≤ 1 ∧ (sumTo G.n fun j => (G.th j).lastsS) + G.ws ≤ 1 := by
  have := h.m
  split at this <;> omega
theorem WgI.idle (h : WgI G) (hw : (G.th 0).gr ≠ .waits) : G.ww = 0 ∧ G.ws = 0 ∧ (sumTo G.n fun j => (G.th j).lastsS) = 0 ∧ (sumTo G.n fun j => (G.th j).lasts) = 0 := by
  have := h.m
  have := h.a
  rw [if_neg hw] at *
  omega
theorem mem_rw2 {x : SC} (hx : x.ok E.K) (hd : ∀ k, x ≠ .done k) : ∀ e ∈ rw2 (E.sc x), SEv E e := by
  intro e he
  rcases rw2_mem he with rfl | rfl
  · exact .inl ⟨x, false, hx, rfl, fun e => by cases e⟩
  · exact .inl ⟨x, true, hx, rfl, fun _ => hd⟩
theorem mem_ld {x : SC} (hx : x.ok E.K) : ∀ e ∈ (#[⟨.cell (E.sc x), false, true⟩] : Array Event), SEv E e := by
  intro e he; simp at he; subst he; exact .inl ⟨x, false, hx, rfl, fun e => by cases e⟩
theorem wk0 (h : GI E G w t) : (G.th 0).wk = false ∧ (G.th 0).mr = none := by
  refine ⟨((h.g.role 0 h.a.live0).1 rfl).1, ?_⟩
  cases e : (G.th 0).mr with
  | none => rfl
  | some p => exact absurd rfl (h.k.mrK 0 p.1 p.2 h.a.live0 (by rw [e])).2
theorem GI.wgAdd (h : GI E G w t) (hW : 0 < E.K) (fn : FuncId) (pos : String) {lf ps : Nat} {c : Bool} (hme : (G.th 0).me = ⟨lf + 1, 0, ps, c⟩) (hgr : (G.th 0).gr = .out) (hch : (G.th 0).ch = .no) (hrel : (G.th 0).rel = none) :
    (G.ww = 0 ∧ G.wn + 1 ≤ 48 ∧ w.cell? (E.sc .wst) = some (.int .u64 ((G.wn * 4294967296 : Nat) : Int)) ∧ w.frozen? (E.sc .wst) = false) ∧
    ∃ G', Did E 0 G G' w (w.setCell (E.sc .wst) (.int .u64 (((G.wn + 1) * 4294967296 : Nat) : Int))) (t ++ MemOp.ofEvents 0 fn pos (rw2 (E.sc .wst))) { G.th 0 with me := ⟨lf + 1, 1, ps, c⟩ } ∧ Calm E G G' := by
  have hm := h.j.me
  rw [hme] at hm
  simp only [Me.mk.injEq] at hm
  obtain ⟨m1, m2, m3, m4⟩ := hm
  have hnw : (G.th 0).gr ≠ .waits := by rw [hgr]; simp
  obtain ⟨i1, i2, i3, i4⟩ := h.g.idle hnw
  have hb := h.a.busy_le
  have hn := h.g.n
  have hc0 : G.cl = false := by
    cases e : G.cl with
    | false => rfl
    | true => have := (h.j.cl e).2.1; omega
  have hl : ({ G.th 0 with me := ⟨lf + 1, 1, ps, c⟩ } : Lo).live = true := h.a.live0
  have hsum := h.a.sums { G.th 0 with me := ⟨lf + 1, 1, ps, c⟩ } h.a.live0
  have hdb : deafBehind (G.th 0).deaf (rw2 (E.sc .wst)) = (G.th 0).deaf := rfl
  have e0 : (upd G.th 0 { G.th 0 with me := ⟨lf + 1, 1, ps, c⟩ } 0).gr = .out := by rw [upd_same]; exact hgr
  refine ⟨⟨i1, by omega, ?_, (h.m.sync .wst hW).2⟩, _, h.wgr hW (wn := G.wn + 1) (ww := 0) (ws := 0) (pend := 1) fn pos h.a.live0 ⟨rfl, rfl, rfl, rfl, rfl, rfl, rfl, rfl, rfl, rfl⟩ (.inl hl) (wk0 h).2 (.inl hl) hch (.inl ⟨hl, hgr⟩)
    (fun _ => by simp only [Me.mk.injEq]; exact ⟨m1, trivial, m3, m4⟩) (fun e => absurd rfl e) (fun e => by rw [hc0] at e; cases e) (.inr (.inl ⟨congrArg (fun n : Nat => w.setCell (E.sc .wst) (.int .u64 (n : Int))) (Nat.add_zero _).symm, i2.symm⟩)) (mem_rw2 (x := .wst) hW fun k e => by cases e) (.inl hrel) rfl rfl (.inl rfl) (fun e => e) ?_ ?_, Calm.of rfl rfl ?_ rfl rfl rfl⟩
  · have := (h.m.sync .wst hW).1
    rw [this]
    show some (Value.int .u64 ((G.wn * 4294967296 + G.ww : Nat) : Int)) = _
    rw [i1]; simp
  · refine ⟨?_, ?_, ?_, fun x => ?_, fun x => ?_, fun x => ?_, fun x => ?_, ?_, fun j hj => ?_, fun x => ?_⟩
    · show G.wn + 1 = 1 + sumTo G.n fun j => (upd G.th 0 { G.th 0 with me := ⟨lf + 1, 1, ps, c⟩ } j).busy
      have := hsum.b
      have : ({ G.th 0 with me := ⟨lf + 1, 1, ps, c⟩ } : Lo).busy = (G.th 0).busy := rfl
      omega
    · show (if (upd G.th 0 { G.th 0 with me := ⟨lf + 1, 1, ps, c⟩ } 0).gr = .waits then 1 else 0) = 0 + (sumTo G.n fun j => (upd G.th 0 { G.th 0 with me := ⟨lf + 1, 1, ps, c⟩ } j).lastsS) + 0
      rw [e0]
      have := hsum.s
      have : ({ G.th 0 with me := ⟨lf + 1, 1, ps, c⟩ } : Lo).lastsS = (G.th 0).lastsS := rfl
      rw [if_neg (by decide)]; omega
    · show (sumTo G.n fun j => (upd G.th 0 { G.th 0 with me := ⟨lf + 1, 1, ps, c⟩ } j).lasts) ≤ 0
      have := hsum.l
      have : ({ G.th 0 with me := ⟨lf + 1, 1, ps, c⟩ } : Lo).lasts = (G.th 0).lasts := rfl
      omega
    · exfalso
      have x : 0 < (sumTo G.n fun j => (upd G.th 0 { G.th 0 with me := ⟨lf + 1, 1, ps, c⟩ } j).lasts) := x
      have := hsum.l
      have : ({ G.th 0 with me := ⟨lf + 1, 1, ps, c⟩ } : Lo).lasts = (G.th 0).lasts := rfl
      omega
    · exfalso
      have x : 0 < (sumTo G.n fun j => (upd G.th 0 { G.th 0 with me := ⟨lf + 1, 1, ps, c⟩ } j).lastsS) + 0 := x
      have := hsum.s
      have : ({ G.th 0 with me := ⟨lf + 1, 1, ps, c⟩ } : Lo).lastsS = (G.th 0).lastsS := rfl
      omega
    · cases x
    · exfalso
      have x : (upd G.th 0 { G.th 0 with me := ⟨lf + 1, 1, ps, c⟩ } 0).gr = .thru ∨ (upd G.th 0 { G.th 0 with me := ⟨lf + 1, 1, ps, c⟩ } 0).gr = .joined := x
      rw [e0] at x; rcases x with x | x <;> cases x
    · show G.wn + 1 ≤ 48
      omega
    · have := h.g.role j (by rw [← fld (i := 0) (l := { G.th 0 with me := ⟨lf + 1, 1, ps, c⟩ }) Lo.live (by rfl) j]; exact hj)
      rw [show (Gh.th _ j).wk = (G.th j).wk from fld (i := 0) (l := { G.th 0 with me := ⟨lf + 1, 1, ps, c⟩ }) Lo.wk (by rfl) j, show (Gh.th _ j).gr = (G.th j).gr from fld (i := 0) (l := { G.th 0 with me := ⟨lf + 1, 1, ps, c⟩ }) Lo.gr (by rfl) j]
      exact this
    · exfalso
      have x : (∃ m, (upd G.th 0 { G.th 0 with me := ⟨lf + 1, 1, ps, c⟩ } 0).gr = .chk m) ∨ (upd G.th 0 { G.th 0 with me := ⟨lf + 1, 1, ps, c⟩ } 0).gr = .waits := x
      rw [e0] at x; rcases x with ⟨_, x⟩ | x <;> cases x
  · rw [upd_same]
    have a1 : ({ G.th 0 with me := ⟨lf + 1, 1, ps, c⟩ } : Lo).φ E.K = (G.th 0).φ E.K := rfl
    have a2 : ({ G.th 0 with me := ⟨lf + 1, 1, ps, c⟩ } : Lo).staleG (G.wn + 1) = 0 := by unfold Lo.staleG; simp only [hgr]
    omega
  · exact i2.symm
end Go.Co

namespace Go.Co
open Go Go.Conc
open Go.ConcM (OsLater)
open Go.ConcN (sumTo upd sumTo_upd upd_ne upd_same sumTo_congr le_sumTo sumTo_le)
variable {E : Geo} {G G' : Gh} {w w' : World} {t t' u : Trace} {B B' : Nat}
theorem GI.wgi (h : GI E G w t) {i : Nat} {l' : Lo} {wn ww ws pend : Nat} (hi : (G.th i).live = true) (g0 : Gr) (hg0 : (upd G.th i l' 0).gr = g0)
    (hrole : l'.live = true → (i = 0 → l'.wk = false ∧ (l'.gr = .out ∨ (∃ m, l'.gr = .chk m) ∨ l'.gr = .waits ∨ l'.gr = .thru ∨ l'.gr = .joined)) ∧ (i ≠ 0 → l'.wk = true ∧ (l'.gr = .out ∨ l'.gr = .said ∨ l'.gr = .last ∨ l'.gr = .lastS)))
    (k : ∀ b l s, b + (G.th i).busy = (sumTo G.n fun j => (G.th j).busy) + l'.busy → l + (G.th i).lasts = (sumTo G.n fun j => (G.th j).lasts) + l'.lasts → s + (G.th i).lastsS = (sumTo G.n fun j => (G.th j).lastsS) + l'.lastsS →
      (wn = pend + b ∧ (if g0 = .waits then 1 else 0) = ww + s + ws ∧ l ≤ ww ∧ (0 < l → wn = 0) ∧ (0 < s + ws → wn = 0) ∧ (ww = 1 → wn = 0 → 0 < l) ∧ wn ≤ 48) ∧ (g0 = .thru ∨ g0 = .joined → wn = 0 ∧ pend = 0 ∧ G.left = 0) ∧ (((∃ m, g0 = .chk m) ∨ g0 = .waits) → pend = 0 ∧ G.left = 0)) :
    WgI (G.wg i l' wn ww ws pend) := by
  have hs := h.a.sums l' hi
  obtain ⟨⟨k1, k2, k3, k4, k5, k6, k7⟩, k8, k9⟩ := k _ _ _ hs.b hs.l hs.s
  refine ⟨k1, ?_, k3, k4, k5, k6, ?_, k7, fun j hj => ?_, ?_⟩
  · show (if (upd G.th i l' 0).gr = .waits then 1 else 0) = _
    rw [hg0]; exact k2
  · show (upd G.th i l' 0).gr = .thru ∨ (upd G.th i l' 0).gr = .joined → _
    rw [hg0]; exact k8
  · show (j = 0 → (upd G.th i l' j).wk = false ∧ ((upd G.th i l' j).gr = .out ∨ (∃ m, (upd G.th i l' j).gr = .chk m) ∨ (upd G.th i l' j).gr = .waits ∨ (upd G.th i l' j).gr = .thru ∨ (upd G.th i l' j).gr = .joined)) ∧
      (j ≠ 0 → (upd G.th i l' j).wk = true ∧ ((upd G.th i l' j).gr = .out ∨ (upd G.th i l' j).gr = .said ∨ (upd G.th i l' j).gr = .last ∨ (upd G.th i l' j).gr = .lastS))
    have hj : (upd G.th i l' j).live = true := hj
    by_cases e : j = i
    · subst e; rw [upd_same] at hj ⊢; exact hrole hj
    · rw [upd_ne _ _ e] at hj ⊢; exact h.g.role j hj
  · show ((∃ m, (upd G.th i l' 0).gr = .chk m) ∨ (upd G.th i l' 0).gr = .waits) → _
    rw [hg0]; exact k9
theorem lo_main {l : Lo} (hw : l.wk = false) (hg : l.gr ≠ .last) (hg' : l.gr ≠ .lastS) : l.busy = 0 ∧ l.lasts = 0 ∧ l.lastsS = 0 := by
  unfold Lo.busy Lo.lasts Lo.lastsS; rw [hw]; simp [hg, hg']
theorem lo_work {l : Lo} (hl : l.live = true) (hw : l.wk = true) : l.busy = (if l.gr = .out ∨ l.gr = .said then 1 else 0) ∧ l.lasts = (if l.gr = .last then 1 else 0) ∧ l.lastsS = if l.gr = .lastS then 1 else 0 := by
  unfold Lo.busy Lo.lasts Lo.lastsS; simp [hl, hw]
theorem lo_dead {l : Lo} (hl : l.live = false) : l.busy = 0 ∧ l.lasts = 0 ∧ l.lastsS = 0 := by
  unfold Lo.busy Lo.lasts Lo.lastsS; simp [hl]
theorem φ_main {K : Nat} {l l' : Lo} (s : WKeep l l') (h : l.live = true) (h' : l'.live = true) (hw : l.wk = false) (hg : l.gr ≠ .last) (hg' : l'.gr ≠ .last) : l'.φ K + l.grw = l.φ K + l'.grw := by
  have := φ_live (K := K) s h h'
  have e1 : l.busy = 0 := by unfold Lo.busy; simp [hw]
  have e2 : l'.busy = 0 := by unfold Lo.busy; simp [s.wk, hw]
  have e3 : l.lasts = 0 := by unfold Lo.lasts; simp [hg]
  have e4 : l'.lasts = 0 := by unfold Lo.lasts; simp [hg']
  omega
def Lo.at0 (l : Lo) (g : Gr) : Lo := { l with gr := g }
theorem keep0 (l : Lo) (g : Gr) : WKeep l (l.at0 g) := ⟨rfl, rfl, rfl, rfl, rfl, rfl, rfl, rfl, rfl, rfl⟩
theorem Calm.ofg {i : Nat} {l' : Lo} (h1 : G'.th = upd G.th i l') (h2 : G'.sm = G.sm) (h4 : G'.cl = G.cl) (h5 : l'.mr = (G.th i).mr) (h6 : (G.th 0).gr = .waits → G.ws = 0 → (upd G.th i l' 0).gr = .waits ∧ G'.ws = 0) : Calm E G G' := by
  refine ⟨fun j hj => ?_, h4⟩
  unfold Gh.PK at hj ⊢
  rw [h1, h2, fld (i := i) (l := l') Lo.mr h5 j]
  exact hj.imp id fun ⟨a, b, c⟩ => ⟨a, h6 b c⟩
theorem GI.wgLoad (h : GI E G w t) (hW : 0 < E.K) (fn : FuncId) (pos : String) {ps : Nat} {c : Bool} (hme : (G.th 0).me = ⟨0, 0, ps, c⟩) (hgr : (G.th 0).gr = .out) (hch : (G.th 0).ch = .no) (hrel : (G.th 0).rel = none) (hC : E.hasC = true → c = true) :
    (w.cell? (E.sc .wst) = some (.int .u64 ((G.wn * 4294967296 : Nat) : Int)) ∧ w.frozen? (E.sc .wst) = false ∧ G.wn ≤ 48) ∧
    ∀ g : Gr, ((g = .thru ∧ G.wn = 0) ∨ (g = .chk G.wn ∧ 0 < G.wn)) → ∃ G', Did E 0 G G' w w (t ++ MemOp.ofEvents 0 fn pos #[⟨.cell (E.sc .wst), false, true⟩]) ((G.th 0).at0 g) ∧ Calm E G G' := by
  have hm := h.j.me
  rw [hme] at hm
  simp only [Me.mk.injEq] at hm
  obtain ⟨m1, m2, m3, m4⟩ := hm
  have hnw : (G.th 0).gr ≠ .waits := by rw [hgr]; simp
  obtain ⟨i1, i2, i3, i4⟩ := h.g.idle hnw
  have hn := h.g.n
  obtain ⟨hwk, hmr⟩ := wk0 h
  have hsm := h.g.small
  refine ⟨⟨?_, (h.m.sync .wst hW).2, hsm⟩, fun g hg => ?_⟩
  · have := (h.m.sync .wst hW).1
    rw [this]
    show some (Value.int .u64 ((G.wn * 4294967296 + G.ww : Nat) : Int)) = _
    rw [i1, Nat.add_zero]
  · have hl : ((G.th 0).at0 g).live = true := h.a.live0
    obtain ⟨s1, s2, s3⟩ := lo_main (l := G.th 0) hwk (by rw [hgr]; simp) (by rw [hgr]; simp)
    have hgl : g ≠ .last ∧ g ≠ .lastS ∧ g ≠ .waits ∧ g ≠ .joined := by rcases hg with ⟨rfl, _⟩ | ⟨rfl, _⟩ <;> simp
    obtain ⟨s4, s5, s6⟩ := lo_main (l := (G.th 0).at0 g) hwk hgl.1 hgl.2.1
    refine ⟨_, h.wgr hW (wn := G.wn) (ww := G.ww) (ws := G.ws) (pend := G.pend) fn pos h.a.live0 (keep0 _ _) (.inl hl) hmr (.inl hl) hch (.inr fun x => by rw [← m4]; exact hC x)
      (fun _ => hme.trans (by rw [← m1, ← m2, ← m3, ← m4])) (fun e => absurd rfl e) (fun _ => m2.symm) (.inl ⟨rfl, rfl, rfl, rfl⟩) (mem_ld (x := .wst) hW) (.inl hrel) rfl rfl (.inl rfl) (fun e => absurd e hgl.2.2.2) ?_ ?_, Calm.ofg rfl rfl rfl rfl fun e => absurd e hnw⟩
    · refine h.wgi h.a.live0 g (by rw [upd_same]; rfl) (fun _ => ⟨fun _ => ⟨hwk, ?_⟩, fun e => absurd rfl e⟩) fun b l s hb hl hs => ⟨?_, ?_, fun _ => ⟨m2.symm, m1.symm⟩⟩
      · rcases hg with ⟨rfl, _⟩ | ⟨rfl, _⟩
        · exact .inr (.inr (.inr (.inl rfl)))
        · exact .inr (.inl ⟨_, rfl⟩)
      · rw [if_neg hgl.2.2.1]
        refine ⟨by omega, by omega, by omega, fun _ => by omega, fun _ => by omega, fun _ _ => by omega, by omega⟩
      · intro x
        rcases hg with ⟨rfl, y⟩ | ⟨rfl, y⟩
        · exact ⟨y, m2.symm, m1.symm⟩
        · rcases x with x | x <;> cases x
    · have := φ_main (K := E.K) (keep0 (G.th 0) g) h.a.live0 hl hwk (by rw [hgr]; simp) hgl.1
      rw [upd_same]
      have e1 : (G.th 0).grw = 4 := by unfold Lo.grw; rw [hgr]
      have e2 : ((G.th 0).at0 g).grw ≤ 3 := by
        rcases hg with ⟨rfl, _⟩ | ⟨rfl, _⟩ <;> simp [Lo.grw, Lo.at0]
      have e3 : ((G.th 0).at0 g).staleG G.wn = 0 := by
        rcases hg with ⟨rfl, _⟩ | ⟨rfl, _⟩ <;> simp [Lo.staleG, Lo.at0]
      omega
theorem GI.wgHit (h : GI E G w t) (hW : 0 < E.K) (fn : FuncId) (pos : String) {ps n : Nat} {c : Bool} (hme : (G.th 0).me = ⟨0, 0, ps, c⟩) (hgr : (G.th 0).gr = .chk n) (hn0 : 0 < n) (hnn : G.wn = n) (hch : (G.th 0).ch = .no) (hrel : (G.th 0).rel = none) (hC : E.hasC = true → c = true) :
    ∃ G', Did E 0 G G' w (w.setCell (E.sc .wst) (.int .u64 ((n * 4294967296 + 1 : Nat) : Int))) (t ++ MemOp.ofEvents 0 fn pos (rw2 (E.sc .wst))) ((G.th 0).at0 .waits) ∧ Calm E G G' := by
  have hm := h.j.me
  rw [hme] at hm
  simp only [Me.mk.injEq] at hm
  obtain ⟨m1, m2, m3, m4⟩ := hm
  have hnw : (G.th 0).gr ≠ .waits := by rw [hgr]; simp
  obtain ⟨i1, i2, i3, i4⟩ := h.g.idle hnw
  have hn := h.g.n
  obtain ⟨hwk, hmr⟩ := wk0 h
  have hsm := h.g.small
  have hl : ((G.th 0).at0 .waits).live = true := h.a.live0
  obtain ⟨s1, s2, s3⟩ := lo_main (l := G.th 0) hwk (by rw [hgr]; simp) (by rw [hgr]; simp)
  obtain ⟨s4, s5, s6⟩ := lo_main (l := (G.th 0).at0 .waits) hwk (fun e => by cases e) (fun e => by cases e)
  refine ⟨_, h.wgr hW (wn := G.wn) (ww := 1) (ws := G.ws) (pend := G.pend) fn pos h.a.live0 (keep0 _ _) (.inl hl) hmr (.inl hl) hch (.inr fun x => by rw [← m4]; exact hC x)
    (fun _ => hme.trans (by rw [← m1, ← m2, ← m3, ← m4])) (fun e => absurd rfl e) (fun _ => m2.symm) (.inr (.inl ⟨by rw [hnn], rfl⟩)) (mem_rw2 (x := .wst) hW fun k e => by cases e) (.inl hrel) rfl rfl (.inl rfl) (fun e => by cases e) ?_ ?_, Calm.ofg rfl rfl rfl rfl fun e => absurd e hnw⟩
  · refine h.wgi h.a.live0 .waits (by rw [upd_same]; rfl) (fun _ => ⟨fun _ => ⟨hwk, .inr (.inr (.inl rfl))⟩, fun e => absurd rfl e⟩) fun b l s hb hl hs => ⟨?_, ?_, fun _ => ⟨m2.symm, m1.symm⟩⟩
    · rw [if_pos rfl]
      refine ⟨by omega, by omega, by omega, fun _ => by omega, fun _ => by omega, fun _ _ => by omega, by omega⟩
    · intro x
      rcases x with x | x <;> cases x
  · have := φ_main (K := E.K) (keep0 (G.th 0) .waits) h.a.live0 hl hwk (by rw [hgr]; simp) (fun e => by cases e)
    rw [upd_same]
    have e1 : (G.th 0).grw = 3 := by unfold Lo.grw; rw [hgr]
    have e2 : ((G.th 0).at0 .waits).grw = 2 := rfl
    have e3 : ((G.th 0).at0 .waits).staleG G.wn = 0 := rfl
    omega
theorem GI.wgMiss (h : GI E G w t) (hW : 0 < E.K) (fn : FuncId) (pos : String) {ps n : Nat} {c : Bool} (hme : (G.th 0).me = ⟨0, 0, ps, c⟩) (hgr : (G.th 0).gr = .chk n) (hnn : G.wn ≠ n) (hch : (G.th 0).ch = .no) (hrel : (G.th 0).rel = none) (hC : E.hasC = true → c = true) :
    ∃ G', Did E 0 G G' w w (t ++ MemOp.ofEvents 0 fn pos #[⟨.cell (E.sc .wst), false, true⟩]) ((G.th 0).at0 .out) ∧ Calm E G G' ∧ G'.Φ E.K E.nj < G.Φ E.K E.nj := by
  have hm := h.j.me
  rw [hme] at hm
  simp only [Me.mk.injEq] at hm
  obtain ⟨m1, m2, m3, m4⟩ := hm
  have hnw : (G.th 0).gr ≠ .waits := by rw [hgr]; simp
  obtain ⟨i1, i2, i3, i4⟩ := h.g.idle hnw
  have hn := h.g.n
  obtain ⟨hwk, hmr⟩ := wk0 h
  have hsm := h.g.small
  have hl : ((G.th 0).at0 .out).live = true := h.a.live0
  obtain ⟨s1, s2, s3⟩ := lo_main (l := G.th 0) hwk (by rw [hgr]; simp) (by rw [hgr]; simp)
  obtain ⟨s4, s5, s6⟩ := lo_main (l := (G.th 0).at0 .out) hwk (fun e => by cases e) (fun e => by cases e)
  have hφ : ((G.th 0).at0 .out).φ E.K + (upd G.th 0 ((G.th 0).at0 .out) 0).staleG G.wn < (G.th 0).φ E.K + (G.th 0).staleG G.wn := by
    have := φ_main (K := E.K) (keep0 (G.th 0) .out) h.a.live0 hl hwk (by rw [hgr]; simp) (fun e => by cases e)
    rw [upd_same]
    have e1 : (G.th 0).grw = 3 := by unfold Lo.grw; rw [hgr]
    have e2 : ((G.th 0).at0 .out).grw = 4 := rfl
    have e3 : ((G.th 0).at0 .out).staleG G.wn = 0 := rfl
    have e4 : (G.th 0).staleG G.wn = 2 := by unfold Lo.staleG; rw [hgr]; simp only; rw [if_neg (fun e => hnn e.symm)]
    omega
  refine ⟨_, h.wgr hW (wn := G.wn) (ww := G.ww) (ws := G.ws) (pend := G.pend) fn pos h.a.live0 (keep0 _ _) (.inl hl) hmr (.inl hl) hch (.inr fun x => by rw [← m4]; exact hC x)
    (fun _ => hme.trans (by rw [← m1, ← m2, ← m3, ← m4])) (fun e => absurd rfl e) (fun _ => m2.symm) (.inl ⟨rfl, rfl, rfl, rfl⟩) (mem_ld (x := .wst) hW) (.inl hrel) rfl rfl (.inl rfl) (fun e => by cases e) ?_ (Nat.le_of_lt hφ), Calm.ofg rfl rfl rfl rfl fun e => absurd e hnw, ?_⟩
  · refine h.wgi h.a.live0 .out (by rw [upd_same]; rfl) (fun _ => ⟨fun _ => ⟨hwk, .inl rfl⟩, fun e => absurd rfl e⟩) fun b l s hb hl hs => ⟨?_, ?_, fun _ => ⟨m2.symm, m1.symm⟩⟩
    · rw [if_neg (by decide)]
      refine ⟨by omega, by omega, by omega, fun _ => by omega, fun _ => by omega, fun _ _ => by omega, by omega⟩
    · intro x
      rcases x with x | x <;> cases x
  · have := Gh.phi_wg (E := E) (l' := (G.th 0).at0 .out) (wn := G.wn) (ww := G.ww) (ws := G.ws) (pend := G.pend) h.a h.a.live0 (keep0 _ _) hmr
    omega
theorem mem_mark {m : Mark} (hm : (MemAct.mark m).touch? = none) (hr : ∀ a, m ≠ .release a) (hl : ∀ B, E.w0.heap.size ≤ B → (∀ x, x.ok E.K → (E.sc x).block < B) → (MemAct.mark m).low B) : SEv E ⟨.mark m, false, true⟩ := .inr ⟨m, false, true, rfl, hm, hr, hl⟩
theorem sev_off : SEv E ⟨.mark .disable, false, true⟩ := mem_mark rfl (fun a e => by cases e) fun _ _ _ => trivial
theorem sev_on : SEv E ⟨.mark .enable, false, true⟩ := mem_mark rfl (fun a e => by cases e) fun _ _ _ => trivial
theorem mem_sem {x : SC} (hx : x.ok E.K) (hd : ∀ k, x ≠ .done k) : ∀ e ∈ semEvents (E.sc x), SEv E e := by
  intro e he
  simp [semEvents] at he
  rcases he with rfl | rfl | rfl | rfl
  · exact sev_off
  · exact .inl ⟨x, false, hx, rfl, fun e => by cases e⟩
  · exact .inl ⟨x, true, hx, rfl, fun _ => hd⟩
  · exact sev_on
theorem sem_deaf (d : Nat) (a : Addr) : deafBehind d (semEvents a) = d := by
  simp [deafBehind, semEvents]
theorem GI.wgWake (h : GI E G w t) (hW : 0 < E.K) (fn : FuncId) (pos : String) {ps : Nat} {c : Bool} (hme : (G.th 0).me = ⟨0, 0, ps, c⟩) (hgr : (G.th 0).gr = .waits) (hch : (G.th 0).ch = .no) (hrel : (G.th 0).rel = none) (hC : E.hasC = true → c = true) :
    (w.cell? (E.sc .wsm) = some (.int .u32 (G.ws : Int)) ∧ w.frozen? (E.sc .wsm) = false) ∧ (G.ws = 0 → G.PK E 0) ∧
    (G.ws ≠ 0 → G.ws = 1 ∧ ∃ G', Did E 0 G G' w (w.setCell (E.sc .wsm) (.int .u32 0)) (t ++ MemOp.ofEvents 0 fn pos (semEvents (E.sc .wsm))) ((G.th 0).at0 .thru) ∧ G'.cl = G.cl ∧ ∀ j, j ≠ 0 → G.PK E j → G'.PK E j) := by
  have hm := h.j.me
  rw [hme] at hm
  simp only [Me.mk.injEq] at hm
  obtain ⟨m1, m2, m3, m4⟩ := hm
  have hn := h.g.n
  obtain ⟨hwk, hmr⟩ := wk0 h
  have hsm := h.g.small
  have hM := h.g.m
  rw [hgr, if_pos rfl] at hM
  refine ⟨h.m.sync .wsm hW, fun e => .inr ⟨rfl, hgr, e⟩, fun hne => ⟨by omega, ?_⟩⟩
  have hl : ((G.th 0).at0 .thru).live = true := h.a.live0
  obtain ⟨s1, s2, s3⟩ := lo_main (l := G.th 0) hwk (by rw [hgr]; simp) (by rw [hgr]; simp)
  obtain ⟨s4, s5, s6⟩ := lo_main (l := (G.th 0).at0 .thru) hwk (fun e => by cases e) (fun e => by cases e)
  have hz := h.g.zs (by omega)
  have ha := h.g.a
  refine ⟨_, h.wgr hW (wn := G.wn) (ww := G.ww) (ws := 0) (pend := G.pend) fn pos h.a.live0 (keep0 _ _) (.inl hl) hmr (.inl hl) hch (.inr fun x => by rw [← m4]; exact hC x)
    (fun _ => hme.trans (by rw [← m1, ← m2, ← m3, ← m4])) (fun e => absurd rfl e) (fun _ => m2.symm) (.inr (.inr ⟨rfl, rfl, rfl⟩)) (mem_sem (x := .wsm) hW fun k e => by cases e) (.inl hrel) (sem_deaf _ _).symm rfl (.inl rfl) (fun e => by cases e) ?_ ?_, rfl, fun j hj => ?_⟩
  · refine h.wgi h.a.live0 .thru (by rw [upd_same]; rfl) (fun _ => ⟨fun _ => ⟨hwk, .inr (.inr (.inr (.inl rfl)))⟩, fun e => absurd rfl e⟩) fun b l s hb hl hs => ⟨?_, fun _ => ⟨hz, m2.symm, m1.symm⟩, fun _ => ⟨m2.symm, m1.symm⟩⟩
    rw [if_neg (by decide)]
    refine ⟨by omega, by omega, by omega, fun _ => by omega, fun _ => by omega, fun _ _ => by omega, by omega⟩
  · have := φ_main (K := E.K) (keep0 (G.th 0) .thru) h.a.live0 hl hwk (by rw [hgr]; simp) (fun e => by cases e)
    rw [upd_same]
    have e1 : (G.th 0).grw = 2 := by unfold Lo.grw; rw [hgr]
    have e2 : ((G.th 0).at0 .thru).grw = 1 := rfl
    have e3 : ((G.th 0).at0 .thru).staleG G.wn = 0 := rfl
    omega
  · rintro (⟨k, hk, hs⟩ | ⟨e, _⟩)
    · refine .inl ⟨k, ?_, hs⟩
      show (upd G.th 0 ((G.th 0).at0 .thru) j).mr = _
      rw [upd_ne _ _ hj]; exact hk
    · exact absurd e hj
theorem GI.wgBack (h : GI E G w t) (hW : 0 < E.K) (hgr : (G.th 0).gr = .thru) : w.cell? (E.sc .wst) = some (.int .u64 0) ∧ w.frozen? (E.sc .wst) = false ∧ G.wn = 0 := by
  have h1 := h.m.sync .wst hW
  obtain ⟨z, _, _⟩ := h.g.thru (.inl hgr)
  obtain ⟨i1, _⟩ := h.g.idle (by rw [hgr]; simp)
  refine ⟨?_, h1.2, z⟩
  rw [h1.1]
  show some (Value.int .u64 ((G.wn * 4294967296 + G.ww : Nat) : Int)) = _
  rw [i1, z]; rfl
end Go.Co

namespace Go.Co
open Go Go.Conc
open Go.ConcM (OsLater)
open Go.ConcN (sumTo upd sumTo_upd upd_ne upd_same sumTo_congr le_sumTo sumTo_le)
variable {E : Geo} {G G' : Gh} {w w' : World} {t t' u : Trace} {B B' : Nat}
theorem GI.noMr (h : GI E G w t) {i : Nat} (hi : (G.th i).live = true) (hg : (G.th i).gr ≠ .out) : (G.th i).mr = none := by
  cases e : (G.th i).mr with
  | none => rfl
  | some p => exact absurd (h.j.mrG i hi (by rw [e]; simp)) hg
theorem GI.worker (h : GI E G w t) {i : Nat} (hi : (G.th i).live = true) (hi0 : i ≠ 0) : (G.th i).wk = true ∧ E.ours G i ∧ (E.hasC = true → (G.th i).sc = true → G.cl = true) :=
  ⟨((h.g.role i hi).2 hi0).1, (h.ours hi).resolve_left hi0, fun _ hs => h.j.sc i hi hs⟩
theorem lo_g {l : Lo} (hl : l.live = true) (hw : l.wk = true) : (l.gr = .out → l.busy = 1 ∧ l.lasts = 0 ∧ l.lastsS = 0) ∧ (l.gr = .said → l.busy = 1 ∧ l.lasts = 0 ∧ l.lastsS = 0) ∧ (l.gr = .last → l.busy = 0 ∧ l.lasts = 1 ∧ l.lastsS = 0) ∧ (l.gr = .lastS → l.busy = 0 ∧ l.lasts = 0 ∧ l.lastsS = 1) := by
  obtain ⟨a, b, c⟩ := lo_work hl hw
  rw [a, b, c]
  refine ⟨fun e => ?_, fun e => ?_, fun e => ?_, fun e => ?_⟩ <;> rw [e] <;> simp
def Lo.say (l : Lo) (r : Nat) : Lo := { l with gr := .said, rel := some r }
def Lo.bye (l : Lo) : Lo := { l with live := false }
theorem keep_say (l : Lo) (r : Nat) : WKeep l (l.say r) := ⟨rfl, rfl, rfl, rfl, rfl, rfl, rfl, rfl, rfl, rfl⟩
theorem keep_bye (l : Lo) : WKeep l l.bye := ⟨rfl, rfl, rfl, rfl, rfl, rfl, rfl, rfl, rfl, rfl⟩
theorem upd0_ne {th : Nat → Lo} {i : Nat} {l : Lo} (h : i ≠ 0) : upd th i l 0 = th 0 := upd_ne _ _ fun e => h e.symm
theorem one_le_sum {n i : Nat} {f : Nat → Nat} (h : i < n) (hf : 1 ≤ f i) : 1 ≤ sumTo n f := Nat.le_trans hf (le_sumTo h)
theorem GI.wgSay (h : GI E G w t) (hW : 0 < E.K) {i : Nat} (fn : FuncId) (pos : String) (hi : (G.th i).live = true) (hi0 : i ≠ 0) (hgr : (G.th i).gr = .out) (hmr : (G.th i).mr = none) (hch : (G.th i).ch = .no) (hrel : (G.th i).rel = none) (hdf : (G.th i).deaf = 0)
    (hsc : E.hasC = true → (G.th i).sc = true) :
    ∃ G', Did E i G G' w w (t ++ MemOp.ofEvents i fn pos #[⟨.mark (.releaseMerge (E.sc .wst)), false, true⟩]) ((G.th i).say t.size) ∧ Calm E G G' := by
  obtain ⟨hwk, hio, hcl⟩ := h.worker hi hi0
  have hin := (h.a.liveW i hi).1
  have he : ∀ e ∈ (#[⟨.mark (.releaseMerge (E.sc .wst)), false, true⟩] : Array Event), SEv E e := by
    intro e he; simp at he; subst he
    exact mem_mark rfl (fun a e => by cases e) fun B hB hx => hx .wst hW
  have h1 := h.evs1 fn pos hi he (.inl hrel)
  have hbz : (G.th i).busy = 1 := by rw [(lo_work hi hwk).1, if_pos (.inl hgr)]
  have hwn : 0 < G.wn := by have := one_le_sum (f := fun j => (G.th j).busy) hin (by simp only [hbz]; exact Nat.le_refl _); have := h.g.n; omega
  have hl : ((G.th i).say t.size).live = true := hi
  obtain ⟨b1, b2, b3⟩ := (lo_g hi hwk).1 hgr
  obtain ⟨c1, c2, c3⟩ := (lo_g (l := (G.th i).say t.size) hi hwk).2.1 rfl
  have s := keep_say (G.th i) t.size
  have hφ := Gh.phi_wg (E := E) (l' := ((G.th i).say t.size)) (wn := G.wn) (ww := G.ww) (ws := G.ws) (pend := G.pend) h.a hi s hmr
  have hφ2 := φ_live (K := E.K) s hi hl
  have e1 : (G.th i).grw = 4 := by unfold Lo.grw; rw [hgr]
  have e2 : ((G.th i).say t.size).grw = 0 := rfl
  rw [upd0_ne hi0] at hφ
  have hlast : (t ++ MemOp.ofEvents i fn pos #[⟨.mark (.releaseMerge (E.sc .wst)), false, true⟩])[t.size]? = some { g := i, fn, pos, act := .mark (.releaseMerge (E.sc .wst)) } := by rw [ofEvents_one, Array.getElem?_append_right (Nat.le_refl _)]; simp [MemAct.ofEvent]
  refine ⟨G.wg i ((G.th i).say t.size) G.wn G.ww G.ws G.pend, ⟨h.wgm hi s (.inl hl) hmr (.inl hl) hch (.inr fun x => hcl x (hsc x)) (fun e => absurd e hi0) (fun _ => rfl) (fun c => (h.j.cl c).2.2) rfl (h.m.tr (fun y => by cases y <;> rfl) rfl rfl) ?_ (h.wgt' hi hmr h1 s rfl ?_),
    upd_same _ _ _, fun j hj => upd_ne _ _ hj, rfl, fun j _ _ => View.refl _ _, by omega⟩, Calm.ofg rfl rfl rfl rfl fun x y => ⟨by rw [upd0_ne hi0]; exact x, y⟩⟩
  · refine h.wgi hi (G.th 0).gr (by rw [upd0_ne hi0]) (fun _ => ⟨fun e => absurd e hi0, fun _ => ⟨hwk, .inr (.inl rfl)⟩⟩) fun b l s hb hl hs => ?_
    have hb : b = sumTo G.n fun j => (G.th j).busy := by omega
    have hl : l = sumTo G.n fun j => (G.th j).lasts := by omega
    have hs : s = sumTo G.n fun j => (G.th j).lastsS := by omega
    subst hb hl hs
    exact ⟨⟨h.g.n, h.g.m, h.g.a, h.g.z, h.g.zs, h.g.w, h.g.small⟩, h.g.thru, h.g.wait0⟩
  · have T := h1.tell
    have hrl1 : ∀ j, (upd G.th i { G.th i with deaf := deafBehind (G.th i).deaf #[⟨.mark (.releaseMerge (E.sc .wst)), false, true⟩] } j).rel = (G.th j).rel := fun j => fld Lo.rel (by rfl) j
    have hlv1 : ∀ j, (upd G.th i { G.th i with deaf := deafBehind (G.th i).deaf #[⟨.mark (.releaseMerge (E.sc .wst)), false, true⟩] } j).live = (G.th j).live := fun j => fld Lo.live (by rfl) j
    have hlv : ∀ j, (upd G.th i ((G.th i).say t.size) j).live = (G.th j).live := fun j => fld Lo.live (by rfl) j
    have hps1 : ∀ j, (upd G.th i { G.th i with deaf := deafBehind (G.th i).deaf #[⟨.mark (.releaseMerge (E.sc .wst)), false, true⟩] } j).pas = (G.th j).pas := fun j => fld Lo.pas (by rfl) j
    have hps : ∀ j, (upd G.th i ((G.th i).say t.size) j).pas = (G.th j).pas := fun j => fld Lo.pas (by rfl) j
    have hgr1 : ∀ j, (upd G.th i { G.th i with deaf := deafBehind (G.th i).deaf #[⟨.mark (.releaseMerge (E.sc .wst)), false, true⟩] } j).gr = (G.th j).gr := fun j => fld Lo.gr (by rfl) j
    refine ⟨T.known, T.over, T.norel, fun g hg => ?_, fun k hk hd => ?_, fun hjj g r hg hr => ?_⟩
    · by_cases e : g = i
      · subst e
        refine .inr ⟨t.size, by show (upd G.th g ((G.th g).say t.size) g).rel = _; rw [upd_same]; rfl, by rw [act?_of hlast], by unfold Trace.g?; rw [hlast]; rfl, heard_new hlast (by rw [h.t.deaf g hi]; exact hdf), fun j op a hj h1 h2 h3 => ?_⟩
        have := (Array.getElem?_eq_some_iff.1 h1).1
        rw [ofEvents_one] at this
        simp at this; omega
      · have := T.rel g hg
        have this : ((upd G.th i { G.th i with deaf := deafBehind (G.th i).deaf #[⟨.mark (.releaseMerge (E.sc .wst)), false, true⟩] } g).rel = none ∧ (upd G.th i { G.th i with deaf := deafBehind (G.th i).deaf #[⟨.mark (.releaseMerge (E.sc .wst)), false, true⟩] } g).live = true ∧ (upd G.th i { G.th i with deaf := deafBehind (G.th i).deaf #[⟨.mark (.releaseMerge (E.sc .wst)), false, true⟩] } g).gr = .out) ∨ ∃ r, (upd G.th i { G.th i with deaf := deafBehind (G.th i).deaf #[⟨.mark (.releaseMerge (E.sc .wst)), false, true⟩] } g).rel = some r ∧ _ := this
        show ((upd G.th i ((G.th i).say t.size) g).rel = none ∧ (upd G.th i ((G.th i).say t.size) g).live = true ∧ (upd G.th i ((G.th i).say t.size) g).gr = .out) ∨ ∃ r, (upd G.th i ((G.th i).say t.size) g).rel = some r ∧ _
        rw [upd_ne _ _ e] at this ⊢
        exact this
    · obtain ⟨p, a1, a2, a3, a4⟩ := T.pub k hk hd
      refine ⟨p, a1, a2, a3, fun j hj hp => a4 j ?_ ?_⟩
      · show (upd G.th i _ j).live = true
        rw [hlv1, ← hlv]; exact hj
      · show (upd G.th i _ j).pas k = true
        rw [hps1, ← hps]; exact hp
    · exfalso
      have hjj : (upd G.th i ((G.th i).say t.size) 0).gr = .joined := hjj
      rw [upd0_ne hi0] at hjj
      have := (h.g.thru (.inr hjj)).1
      omega
theorem GI.wgDone (h : GI E G w t) (hW : 0 < E.K) {i : Nat} (fn : FuncId) (pos : String) (hi : (G.th i).live = true) (hi0 : i ≠ 0) (hgr : (G.th i).gr = .said) (hch : (G.th i).ch = .no) (hrel : (G.th i).rel ≠ none) (hdf : 0 < (G.th i).deaf)
    (hsc : E.hasC = true → (G.th i).sc = true) (hjob : ∀ j, (G.th i).job = some j → E.rs j = none) :
    (w.cell? (E.sc .wst) = some (.int .u64 ((G.wn * 4294967296 + G.ww : Nat) : Int)) ∧ w.frozen? (E.sc .wst) = false ∧ 1 ≤ G.wn ∧ G.wn ≤ 48 ∧ G.ww ≤ 1) ∧
    (¬ (G.wn = 1 ∧ G.ww = 1) → ∃ G', Did E i G G' w (w.setCell (E.sc .wst) (.int .u64 (((G.wn - 1) * 4294967296 + G.ww : Nat) : Int))) (t ++ MemOp.ofEvents i fn pos (rw2 (E.sc .wst))) (G.th i).bye ∧ Calm E G G' ∧ G'.Φ E.K E.nj < G.Φ E.K E.nj) ∧
    (G.wn = 1 ∧ G.ww = 1 → ∃ G', Did E i G G' w (w.setCell (E.sc .wst) (.int .u64 (((G.wn - 1) * 4294967296 + G.ww : Nat) : Int))) (t ++ MemOp.ofEvents i fn pos (rw2 (E.sc .wst))) ((G.th i).at0 .last) ∧ Calm E G G') := by
  obtain ⟨hwk, hio, hcl⟩ := h.worker hi hi0
  have hin := (h.a.liveW i hi).1
  have hmr := h.noMr hi (by rw [hgr]; simp)
  obtain ⟨b1, b2, b3⟩ := (lo_g hi hwk).2.1 hgr
  have hB := one_le_sum (f := fun j => (G.th j).busy) hin (by simp only [b1]; exact Nat.le_refl _)
  have hN := h.g.n
  have hM := h.g.m
  have hA := h.g.a
  have hww := h.g.lasts_ww
  have hl0 : (sumTo G.n fun j => (G.th j).lasts) = 0 := by
    rcases Nat.eq_zero_or_pos (sumTo G.n fun j => (G.th j).lasts) with x | x
    · exact x
    · have := h.g.z x; omega
  have hs0 : (sumTo G.n fun j => (G.th j).lastsS) + G.ws = 0 := by
    rcases Nat.eq_zero_or_pos ((sumTo G.n fun j => (G.th j).lastsS) + G.ws) with x | x
    · exact x
    · have := h.g.zs x; omega
  have hsm := h.g.small
  have hq : ∀ j e, (rw2 (E.sc .wst))[j]? = some e → (MemAct.ofEvent e).touch? = none ∨ ((e.loc = .cell (E.sc .wst) ∨ e.loc = .cell (E.sc .wsm)) ∧ 0 < deafBehind (G.th i).deaf ((rw2 (E.sc .wst)).extract 0 j)) := fun j e hj => by
    right
    have hd : ∀ j, deafBehind (G.th i).deaf ((rw2 (E.sc .wst)).extract 0 j) = (G.th i).deaf := fun j => by
      match j with
      | 0 => rfl
      | 1 => rfl
      | j + 2 => 
        have : (rw2 (E.sc .wst)).extract 0 (j + 2) = rw2 (E.sc .wst) := by
          apply Array.toList_inj.1; simp [rw2]
        rw [this]; rfl
    rw [hd]
    refine ⟨.inl ?_, hdf⟩
    rcases rw2_mem (Array.mem_of_getElem? hj) with rfl | rfl <;> rfl
  have hmain : (G.th 0).gr ≠ .thru ∧ (G.th 0).gr ≠ .joined := ⟨fun x => by have := (h.g.thru (.inl x)).1; omega, fun x => by have := (h.g.thru (.inr x)).1; omega⟩
  have hst : (G.th 0).staleG (G.wn - 1) ≤ (G.th 0).staleG G.wn + 2 := by
    unfold Lo.staleG; split
    · split <;> omega
    · omega
  refine ⟨⟨(h.m.sync .wst hW).1, (h.m.sync .wst hW).2, by omega, hsm, hww.1⟩, fun hn => ?_, fun hn => ?_⟩
  · have s := keep_bye (G.th i)
    obtain ⟨c1, c2, c3⟩ := lo_dead (l := (G.th i).bye) rfl
    have p1 := φ_pos (K := E.K) hi
    have p2 := φ_dead (K := E.K) (l := (G.th i).bye) rfl
    have hlt : (G.th i).bye.φ E.K + (upd G.th i (G.th i).bye 0).staleG (G.wn - 1) < (G.th i).φ E.K + (G.th 0).staleG G.wn := by
      rw [upd0_ne hi0, p2]; omega
    refine ⟨_, h.wgr hW (l' := (G.th i).bye) (wn := G.wn - 1) (ww := G.ww) (ws := G.ws) (pend := G.pend) fn pos hi s (.inr hi0) hmr (.inr hjob) hch (.inr fun x => hcl x (hsc x)) (fun e => absurd e hi0) (fun _ => rfl) (fun c => (h.j.cl c).2.2)
      (.inr (.inl ⟨rfl, rfl⟩)) (mem_rw2 (x := .wst) hW fun k e => by cases e) (.inr hq) rfl rfl (.inr (.inl hrel)) (fun (e : (G.th i).gr = .joined) => by rw [hgr] at e; cases e) ?_ (Nat.le_of_lt hlt), Calm.ofg rfl rfl rfl rfl fun x y => ⟨by rw [upd0_ne hi0]; exact x, y⟩, ?_⟩
    · refine h.wgi hi (G.th 0).gr (by rw [upd0_ne hi0]) (fun e => by cases e) fun b l s hb hl hs => ⟨⟨by omega, by omega, by omega, fun _ => by omega, fun _ => by omega, fun _ _ => by omega, by omega⟩, fun x => ?_, h.g.wait0⟩
      rcases x with x | x
      · exact absurd x hmain.1
      · exact absurd x hmain.2
    · have := Gh.phi_wg (E := E) (l' := (G.th i).bye) (wn := G.wn - 1) (ww := G.ww) (ws := G.ws) (pend := G.pend) h.a hi s hmr
      omega
  · have s := keep0 (G.th i) .last
    obtain ⟨c1, c2, c3⟩ := (lo_g (l := (G.th i).at0 .last) hi hwk).2.2.1 rfl
    have p1 := φ_live (K := E.K) s hi hi
    have e1 : (G.th i).grw = 0 := by unfold Lo.grw; rw [hgr]
    have e2 : ((G.th i).at0 .last).grw = 0 := rfl
    have hwait : (G.th 0).gr = .waits := by
      by_cases x : (G.th 0).gr = .waits
      · exact x
      · rw [if_neg x] at hM; omega
    have hst0 : ∀ n, (G.th 0).staleG n = 0 := fun n => by unfold Lo.staleG; rw [hwait]
    refine ⟨_, h.wgr hW (l' := ((G.th i).at0 .last)) (wn := G.wn - 1) (ww := G.ww) (ws := G.ws) (pend := G.pend) fn pos hi s (.inl hi) hmr (.inl hi) hch (.inr fun x => hcl x (hsc x)) (fun e => absurd e hi0) (fun _ => rfl) (fun c => (h.j.cl c).2.2)
      (.inr (.inl ⟨rfl, rfl⟩)) (mem_rw2 (x := .wst) hW fun k e => by cases e) (.inr hq) rfl rfl (.inr (.inl hrel)) (fun e => by cases e) ?_ ?_, Calm.ofg rfl rfl rfl rfl fun x y => ⟨by rw [upd0_ne hi0]; exact x, y⟩⟩
    · refine h.wgi hi (G.th 0).gr (by rw [upd0_ne hi0]) (fun _ => ⟨fun e => absurd e hi0, fun _ => ⟨hwk, .inr (.inr (.inl rfl))⟩⟩) fun b l s hb hl hs => ⟨⟨by omega, by omega, by omega, fun _ => by omega, fun _ => by omega, fun _ _ => by omega, by omega⟩, fun x => ?_, h.g.wait0⟩
      rcases x with x | x
      · exact absurd x hmain.1
      · exact absurd x hmain.2
    · rw [upd0_ne hi0, hst0, hst0]; omega
theorem GI.wgLastAt (h : GI E G w t) (hW : 0 < E.K) {i : Nat} (hi : (G.th i).live = true) (hi0 : i ≠ 0) (hgr : (G.th i).gr = .last) : G.wn = 0 ∧ G.ww = 1 ∧ w.cell? (E.sc .wst) = some (.int .u64 1) ∧ w.frozen? (E.sc .wst) = false := by
  obtain ⟨hwk, _, _⟩ := h.worker hi hi0
  have hin := (h.a.liveW i hi).1
  obtain ⟨b1, b2, b3⟩ := (lo_g hi hwk).2.2.1 hgr
  have hL := one_le_sum (f := fun j => (G.th j).lasts) hin (by simp only [b2]; exact Nat.le_refl _)
  have hz := h.g.z (by omega)
  have ha := h.g.a
  have hww := h.g.lasts_ww.1
  have e1 : G.ww = 1 := by omega
  refine ⟨hz, e1, ?_, (h.m.sync .wst hW).2⟩
  rw [(h.m.sync .wst hW).1]
  show some (Value.int .u64 ((G.wn * 4294967296 + G.ww : Nat) : Int)) = _
  rw [hz, e1]; rfl
theorem GI.wgZero (h : GI E G w t) (hW : 0 < E.K) {i : Nat} (fn : FuncId) (pos : String) (hi : (G.th i).live = true) (hi0 : i ≠ 0) (hgr : (G.th i).gr = .last) (hch : (G.th i).ch = .no) (hrel : (G.th i).rel ≠ none) (hdf : 0 < (G.th i).deaf) (hsc : E.hasC = true → (G.th i).sc = true) :
    ∃ G', Did E i G G' w (w.setCell (E.sc .wst) (.int .u64 0)) (t ++ MemOp.ofEvents i fn pos #[⟨.cell (E.sc .wst), true, true⟩]) ((G.th i).at0 .lastS) ∧ Calm E G G' := by
  obtain ⟨hwk, hio, hcl⟩ := h.worker hi hi0
  have hin := (h.a.liveW i hi).1
  have hmr := h.noMr hi (by rw [hgr]; simp)
  obtain ⟨b1, b2, b3⟩ := (lo_g hi hwk).2.2.1 hgr
  obtain ⟨hz, hw1, _, _⟩ := h.wgLastAt hW hi hi0 hgr
  have hL := one_le_sum (f := fun j => (G.th j).lasts) hin (by simp only [b2]; exact Nat.le_refl _)
  have hN := h.g.n
  have hM := h.g.m
  have hA := h.g.a
  have hwait : (G.th 0).gr = .waits := by
    by_cases x : (G.th 0).gr = .waits
    · exact x
    · rw [if_neg x] at hM; omega
  rw [if_pos hwait] at hM
  have hst0 : ∀ n, (G.th 0).staleG n = 0 := fun n => by unfold Lo.staleG; rw [hwait]
  have s := keep0 (G.th i) .lastS
  obtain ⟨c1, c2, c3⟩ := (lo_g (l := (G.th i).at0 .lastS) hi hwk).2.2.2 rfl
  have p1 := φ_live (K := E.K) s hi hi
  have e1 : (G.th i).grw = 0 := by unfold Lo.grw; rw [hgr]
  have e2 : ((G.th i).at0 .lastS).grw = 0 := rfl
  refine ⟨_, h.wgr hW (l' := (G.th i).at0 .lastS) (wn := 0) (ww := 0) (ws := G.ws) (pend := G.pend) fn pos hi s (.inl hi) hmr (.inl hi) hch (.inr fun x => hcl x (hsc x)) (fun e => absurd e hi0) (fun _ => rfl) (fun c => (h.j.cl c).2.2)
    (.inr (.inl ⟨rfl, rfl⟩)) ?_ (.inr fun j e hj => ?_) rfl rfl (.inr (.inl hrel)) (fun e => by cases e) ?_ ?_, Calm.ofg rfl rfl rfl rfl fun x y => ⟨by rw [upd0_ne hi0]; exact x, y⟩⟩
  · intro e he; simp at he; subst he; exact .inl ⟨.wst, true, hW, rfl, fun _ k e => by cases e⟩
  · right
    match j with
    | 0 => simp at hj; subst hj; exact ⟨.inl rfl, hdf⟩
    | j + 1 => simp at hj
  · refine h.wgi hi (G.th 0).gr (by rw [upd0_ne hi0]) (fun _ => ⟨fun e => absurd e hi0, fun _ => ⟨hwk, .inr (.inr (.inr rfl))⟩⟩) fun b l s hb hl hs => ⟨?_, fun x => ?_, h.g.wait0⟩
    · rw [if_pos hwait]
      exact ⟨by omega, by omega, by omega, fun _ => by omega, fun _ => by omega, fun _ _ => by omega, by omega⟩
    · rw [hwait] at x; rcases x with x | x <;> cases x
  · rw [upd0_ne hi0, hst0, hst0]; omega
theorem GI.wgFree (h : GI E G w t) (hW : 0 < E.K) {i : Nat} (fn : FuncId) (pos : String) (hi : (G.th i).live = true) (hi0 : i ≠ 0) (hgr : (G.th i).gr = .lastS) (hch : (G.th i).ch = .no) (hrel : (G.th i).rel ≠ none) (_hdf : 0 < (G.th i).deaf) (hsc : E.hasC = true → (G.th i).sc = true)
    (hjob : ∀ j, (G.th i).job = some j → E.rs j = none) :
    (w.cell? (E.sc .wsm) = some (.int .u32 0) ∧ w.frozen? (E.sc .wsm) = false) ∧
    ∃ G', Did E i G G' w (w.setCell (E.sc .wsm) (.int .u32 1)) (t ++ MemOp.ofEvents i fn pos (semEvents (E.sc .wsm))) (G.th i).bye ∧ G'.Φ E.K E.nj < G.Φ E.K E.nj := by
  obtain ⟨hwk, hio, hcl⟩ := h.worker hi hi0
  have hin := (h.a.liveW i hi).1
  have hmr := h.noMr hi (by rw [hgr]; simp)
  obtain ⟨b1, b2, b3⟩ := (lo_g hi hwk).2.2.2 hgr
  have hL := one_le_sum (f := fun j => (G.th j).lastsS) hin (by simp only [b3]; exact Nat.le_refl _)
  have hN := h.g.n
  have hM := h.g.m
  have hA := h.g.a
  have hz := h.g.zs (by omega)
  have hwait : (G.th 0).gr = .waits := by
    by_cases x : (G.th 0).gr = .waits
    · exact x
    · rw [if_neg x] at hM; omega
  rw [if_pos hwait] at hM
  have hws : G.ws = 0 := by omega
  have hst0 : ∀ n, (G.th 0).staleG n = 0 := fun n => by unfold Lo.staleG; rw [hwait]
  have s := keep_bye (G.th i)
  obtain ⟨c1, c2, c3⟩ := lo_dead (l := (G.th i).bye) rfl
  have p1 := φ_pos (K := E.K) hi
  have p2 := φ_dead (K := E.K) (l := (G.th i).bye) rfl
  have hlt : (G.th i).bye.φ E.K + (upd G.th i (G.th i).bye 0).staleG G.wn < (G.th i).φ E.K + (G.th 0).staleG G.wn := by
    rw [upd0_ne hi0, p2]; omega
  refine ⟨⟨?_, (h.m.sync .wsm hW).2⟩, _, h.wgr hW (l' := (G.th i).bye) (wn := G.wn) (ww := G.ww) (ws := 1) (pend := G.pend) fn pos hi s (.inr hi0) hmr (.inr hjob) hch (.inr fun x => hcl x (hsc x)) (fun e => absurd e hi0) (fun _ => rfl) (fun c => (h.j.cl c).2.2)
    (.inr (.inr ⟨rfl, rfl, rfl⟩)) (mem_sem (x := .wsm) hW fun k e => by cases e) (.inr fun j e hj => ?_) (sem_deaf _ _).symm rfl (.inr (.inl hrel)) (fun (e : (G.th i).gr = .joined) => by rw [hgr] at e; cases e) ?_ (Nat.le_of_lt hlt), ?_⟩
  · rw [(h.m.sync .wsm hW).1]
    show some (Value.int .u32 (G.ws : Int)) = _
    rw [hws]; rfl
  · match j with
    | 0 => simp [semEvents] at hj; subst hj; exact .inl rfl
    | 1 => simp [semEvents] at hj; subst hj; exact .inr ⟨.inr rfl, by simp [semEvents, deafBehind]⟩
    | 2 => simp [semEvents] at hj; subst hj; exact .inr ⟨.inr rfl, by simp [semEvents, deafBehind]⟩
    | 3 => simp [semEvents] at hj; subst hj; exact .inl rfl
    | j + 4 => simp [semEvents] at hj
  · refine h.wgi hi (G.th 0).gr (by rw [upd0_ne hi0]) (fun e => by cases e) fun b l s hb hl hs => ⟨?_, fun x => ?_, h.g.wait0⟩
    · rw [if_pos hwait]
      exact ⟨by omega, by omega, by omega, fun _ => by omega, fun _ => by omega, fun _ _ => by omega, by omega⟩
    · rw [hwait] at x; rcases x with x | x <;> cases x
  · have := Gh.phi_wg (E := E) (l' := (G.th i).bye) (wn := G.wn) (ww := G.ww) (ws := 1) (pend := G.pend) h.a hi s hmr
    omega
end Go.Co

namespace Go.Co
open Go Go.Conc
open Go.ConcM (OsLater)
open Go.ConcN (sumTo upd sumTo_upd upd_ne upd_same sumTo_congr le_sumTo sumTo_le)
variable {E : Geo} {G G' : Gh} {w w' : World} {t t' u : Trace} {B B' : Nat}
theorem GI.wgJoin (h : GI E G w t) (hW : 0 < E.K) (fn : FuncId) (pos : String) (hgr : (G.th 0).gr = .thru) (hch : (G.th 0).ch = .no) (hrel : (G.th 0).rel = none) (hdf : (G.th 0).deaf = 0) :
    ∃ G', Did E 0 G G' w w (t ++ MemOp.ofEvents 0 fn pos #[⟨.mark (.acquire (E.sc .wst)), false, true⟩]) ((G.th 0).at0 .joined) ∧ Calm E G G' := by
  obtain ⟨hwk, hmr⟩ := wk0 h
  obtain ⟨z1, z2, z3⟩ := h.g.thru (.inl hgr)
  have hl : ((G.th 0).at0 .joined).live = true := h.a.live0
  have he : ∀ e ∈ (#[⟨.mark (.acquire (E.sc .wst)), false, true⟩] : Array Event), SEv E e := by
    intro e he; simp at he; subst he
    exact mem_mark rfl (fun a e => by cases e) fun B hB hx => hx .wst hW
  have h1 := h.evs1 fn pos h.a.live0 he (.inl hrel)
  obtain ⟨s1, s2, s3⟩ := lo_main (l := G.th 0) hwk (by rw [hgr]; simp) (by rw [hgr]; simp)
  obtain ⟨s4, s5, s6⟩ := lo_main (l := (G.th 0).at0 .joined) hwk (fun e => by cases e) (fun e => by cases e)
  have s := keep0 (G.th 0) .joined
  have hφ := Gh.phi_wg (E := E) (l' := (G.th 0).at0 .joined) (wn := G.wn) (ww := G.ww) (ws := G.ws) (pend := G.pend) h.a h.a.live0 s hmr
  have hφ2 := φ_main (K := E.K) s h.a.live0 hl hwk (by rw [hgr]; simp) (fun e => by cases e)
  have e1 : (G.th 0).grw = 1 := by unfold Lo.grw; rw [hgr]
  have e2 : ((G.th 0).at0 .joined).grw = 0 := rfl
  have e3 : ((G.th 0).at0 .joined).staleG G.wn = 0 := rfl
  rw [upd_same, e3] at hφ
  have hnw : (G.th 0).gr ≠ .waits := by rw [hgr]; simp
  have hM := h.g.m
  rw [if_neg hnw] at hM
  have hlast : (t ++ MemOp.ofEvents 0 fn pos #[⟨.mark (.acquire (E.sc .wst)), false, true⟩])[t.size]? = some { g := 0, fn, pos, act := .mark (.acquire (E.sc .wst)) } := by rw [ofEvents_one, Array.getElem?_append_right (Nat.le_refl _)]; simp [MemAct.ofEvent]
  have hcl : E.hasC = true → G.cl = true := fun hC => h.j.shutW hC (by rw [hgr]; simp)
  refine ⟨G.wg 0 ((G.th 0).at0 .joined) G.wn G.ww G.ws G.pend, ⟨h.wgm h.a.live0 s (.inl hl) hmr (.inl hl) hch (.inr hcl) (fun _ => h.j.me) (fun _ => rfl) (fun c => (h.j.cl c).2.2) rfl (h.m.tr (fun y => by cases y <;> rfl) rfl rfl) ?_ (h.wgt' h.a.live0 hmr h1 s rfl ?_),
    upd_same G.th 0 ((G.th 0).at0 .joined), fun j hj => upd_ne G.th _ hj, rfl, fun j _ _ => View.refl _ _, by omega⟩, Calm.ofg rfl rfl rfl rfl fun x => absurd x hnw⟩
  · refine h.wgi h.a.live0 .joined (by rw [upd_same]; rfl) (fun _ => ⟨fun _ => ⟨hwk, .inr (.inr (.inr (.inr rfl)))⟩, fun e => absurd rfl e⟩) fun b l s hb hl hs => ?_
    have hb : b = sumTo G.n fun j => (G.th j).busy := by omega
    have hl : l = sumTo G.n fun j => (G.th j).lasts := by omega
    have hs : s = sumTo G.n fun j => (G.th j).lastsS := by omega
    subst hb hl hs
    refine ⟨⟨h.g.n, by rw [if_neg (by decide)]; exact hM, h.g.a, h.g.z, h.g.zs, h.g.w, h.g.small⟩, fun _ => ⟨z1, z2, z3⟩, fun x => ?_⟩
    rcases x with ⟨_, x⟩ | x <;> cases x
  · have T := h1.tell
    have hrl1 : ∀ j, (upd G.th 0 { G.th 0 with deaf := deafBehind (G.th 0).deaf #[⟨.mark (.acquire (E.sc .wst)), false, true⟩] } j).rel = (G.th j).rel := fun j => fld Lo.rel (by rfl) j
    have hrl : ∀ j, (upd G.th 0 ((G.th 0).at0 .joined) j).rel = (G.th j).rel := fun j => fld Lo.rel (by rfl) j
    have hlv1 : ∀ j, (upd G.th 0 { G.th 0 with deaf := deafBehind (G.th 0).deaf #[⟨.mark (.acquire (E.sc .wst)), false, true⟩] } j).live = (G.th j).live := fun j => fld Lo.live (by rfl) j
    have hlv : ∀ j, (upd G.th 0 ((G.th 0).at0 .joined) j).live = (G.th j).live := fun j => fld Lo.live (by rfl) j
    have hps1 : ∀ j, (upd G.th 0 { G.th 0 with deaf := deafBehind (G.th 0).deaf #[⟨.mark (.acquire (E.sc .wst)), false, true⟩] } j).pas = (G.th j).pas := fun j => fld Lo.pas (by rfl) j
    have hps : ∀ j, (upd G.th 0 ((G.th 0).at0 .joined) j).pas = (G.th j).pas := fun j => fld Lo.pas (by rfl) j
    have hrel1 : ∀ g, E.ours G g → ((G.th g).rel = none ∧ (G.th g).live = true ∧ (G.th g).gr = .out) ∨ ∃ r, (G.th g).rel = some r ∧ (t ++ MemOp.ofEvents 0 fn pos #[⟨.mark (.acquire (E.sc .wst)), false, true⟩]).act? r = some (.mark (.releaseMerge (E.sc .wst))) ∧ (t ++ MemOp.ofEvents 0 fn pos #[⟨.mark (.acquire (E.sc .wst)), false, true⟩]).g? r = some g ∧ (t ++ MemOp.ofEvents 0 fn pos #[⟨.mark (.acquire (E.sc .wst)), false, true⟩]).heard r ∧
        ∀ i op a, r < i → (t ++ MemOp.ofEvents 0 fn pos #[⟨.mark (.acquire (E.sc .wst)), false, true⟩])[i]? = some op → op.g = g → op.act.touch? = some a → a.kind = .atomic ∧ (a.loc = .cell (E.sc .wst) ∨ a.loc = .cell (E.sc .wsm)) ∧ ¬ (t ++ MemOp.ofEvents 0 fn pos #[⟨.mark (.acquire (E.sc .wst)), false, true⟩]).heard i := fun g hg => by
      have hg0 : g ≠ 0 := fun e => by subst e; have := hg.1; have := h.a.pos0.1; omega
      have := T.rel g hg
      rw [show (Gh.th { G with th := upd G.th 0 { G.th 0 with deaf := deafBehind (G.th 0).deaf #[⟨.mark (.acquire (E.sc .wst)), false, true⟩] } } g) = G.th g from upd_ne _ _ hg0] at this
      exact this
    refine ⟨T.known, T.over, T.norel, fun g hg => ?_, fun k hk hd => ?_, fun _ g r hg hr => ?_⟩
    · have hg0 : g ≠ 0 := fun e => by subst e; have := hg.1; have := h.a.pos0.1; omega
      rw [show (Gh.th (G.wg 0 ((G.th 0).at0 .joined) G.wn G.ww G.ws G.pend) g) = G.th g from upd_ne _ _ hg0]
      exact hrel1 g hg
    · obtain ⟨p, a1, a2, a3, a4⟩ := T.pub k hk hd
      refine ⟨p, a1, a2, a3, fun j hj hp => a4 j ?_ ?_⟩
      · show (upd G.th 0 _ j).live = true
        rw [hlv1, ← hlv]; exact hj
      · show (upd G.th 0 _ j).pas k = true
        rw [hps1, ← hps]; exact hp
    · have hr : (upd G.th 0 ((G.th 0).at0 .joined) g).rel = some r := hr
      rw [hrl] at hr
      rcases hrel1 g hg with ⟨x, _⟩ | ⟨r', x, a2, a3, a4, _⟩
      · rw [x] at hr; cases hr
      · rw [x] at hr; cases hr
        have hrs : r < t.size := by
          have hlt := lt_of_act? a2
          rcases Nat.lt_or_ge r t.size with y | y
          · exact y
          · exfalso
            rw [ofEvents_one] at hlt; simp at hlt
            have : r = t.size := by omega
            subst this
            rw [act?_of hlast] at a2; cases a2
        refine ⟨t.size, _, hlast, rfl, .inr (.single (.inr ⟨.marked hrs (.inr a2) (act?_of hlast) fun k _ _ hk => (T.norel k _ hk).2 rfl, a4, heard_new hlast (by rw [h.t.deaf 0 h.a.live0]; exact hdf)⟩))⟩
theorem GI.wgMark (h : GI E G w t) (hW : 0 < E.K) (fn : FuncId) (pos : String) {m : Mark} (hm : m = .read (E.sc .wsm) ∨ m = .write (E.sc .wsm)) :
    GI E G w (t ++ MemOp.ofEvents 0 fn pos #[⟨.mark m, false, true⟩]) := by
  have hst : ∀ op ∈ MemOp.ofEvents 0 fn pos #[⟨.mark m, false, true⟩], op.act ≠ .mark .disable ∧ op.act ≠ .mark .enable := fun op hop => by
    rw [ofEvents_one] at hop; simp at hop; subst hop
    rcases hm with rfl | rfl <;> exact ⟨by simp [MemAct.ofEvent], by simp [MemAct.ofEvent]⟩
  have hb := cell_block (h.m.sync .wsm hW).1
  have htch : ∀ b, (MemAct.ofEvent ⟨.mark m, false, true⟩).touch? = some b → b.loc = .cell (E.sc .wsm) ∧ b.kind = .said := fun b hbb => by
    rcases hm with rfl | rfl <;> (simp [MemAct.ofEvent, MemAct.touch?] at hbb; subst hbb; exact ⟨rfl, rfl⟩)
  refine ⟨h.a, h.s, h.m, h.k, h.g, h.j, h.more, ⟨h.t.ti.step g_ofEvents (fun op hop b hbb => ?_) (Nat.le_refl _) fun op hop => ?_, fun g hg => ?_, fun g hg => ?_, ?_⟩⟩
  · obtain ⟨x, hx, rfl⟩ := mem_evs hop
    simp at hx; subst hx
    obtain ⟨b1, b2⟩ := htch b hbb
    refine ⟨.inr (.inr (.inr ⟨b2, by rw [b1]; exact ⟨h.a.live0, .inl ⟨.wsm, hW, rfl⟩⟩, by rw [b1]; exact ⟨rfl, rfl⟩⟩)), fun j hj => ⟨?_, fun _ => ?_, fun e => (by rw [b2] at e; cases e), fun _ hs => hj hs.1⟩⟩
    · rw [b1]; exact (h.sc_away (x := .wsm) hW j).1
    · rw [b1]; exact (h.sc_away (x := .wsm) hW j).2
  · obtain ⟨x, hx, rfl⟩ := mem_evs hop
    simp at hx; subst hx
    rcases hm with rfl | rfl <;> exact hb
  · rw [Go.ConcN.Deaf_still _ _ _ hst]; exact h.t.deaf g hg
  · rw [Go.ConcN.Deaf_still _ _ _ hst]; exact h.t.quiet g hg
  · refine h.t.tell.app g_ofEvents (.inl rfl) (fun op hop => ?_) (fun op hop b hbb hw => ?_) (fun op hop b hbb hk => ?_) (fun ho => ?_)
    · obtain ⟨x, hx, rfl⟩ := mem_evs hop
      simp at hx; subst hx
      rcases hm with rfl | rfl <;> simp [MemAct.ofEvent]
    · obtain ⟨x, hx, rfl⟩ := mem_evs hop
      simp at hx; subst hx
      obtain ⟨b1, b2⟩ := htch b hbb
      refine ⟨fun k hk e => ?_, fun ad v k e hv => ?_⟩
      · rw [b1] at e; simp only [Loc.cell.injEq] at e
        have := h.m.inj .wsm (.done k) hW hk e; cases this
      · rw [b1] at e; simp only [Loc.cell.injEq] at e
        exact (h.m.app ad v _ hv).2.2 .wsm hW e.symm
    · obtain ⟨x, hx, rfl⟩ := mem_evs hop
      simp at hx; subst hx
      obtain ⟨b1, b2⟩ := htch b hbb
      rw [b2] at hk; cases hk
    · exfalso; have := ho.1; have := h.a.pos0.1; omega
theorem GI.close (h : GI E G w t) (fn : FuncId) (pos : String) {ps : Nat} (hC : E.hasC = true) (hme : (G.th 0).me = ⟨0, 0, ps, false⟩) (hps : ps = E.nj) (hch : (G.th 0).ch = .no) (_hrel : (G.th 0).rel = none) :
    ∃ s r, w.heap[E.c]? = some (.chan 0 #[] false s r false) ∧
    ∃ G', Did E 0 G G' w { w with heap := w.heap.setIfInBounds E.c (.chan 0 #[] true s r false) } (t ++ MemOp.ofEvents 0 fn pos #[⟨.obj E.c, false, true⟩, ⟨.obj E.c, true, true⟩]) { G.th 0 with me := ⟨0, 0, ps, true⟩ } ∧ (∀ j, G.PK E j → G'.PK E j) := by
  have hm := h.j.me
  rw [hme] at hm
  simp only [Me.mk.injEq] at hm
  obtain ⟨m1, m2, m3, m4⟩ := hm
  obtain ⟨⟨s, r, hc⟩, hc2, hc3⟩ := h.m.chan hC
  rw [← m4] at hc
  have hcs : E.c < w.heap.size := (Array.getElem?_eq_some_iff.1 hc).1
  have hsz : ({ w with heap := w.heap.setIfInBounds E.c (.chan 0 #[] true s r false) } : World).heap.size = w.heap.size := by simp
  have hne : ∀ b, E.c ≠ b → ({ w with heap := w.heap.setIfInBounds E.c (.chan 0 #[] true s r false) } : World).heap[b]? = w.heap[b]? := fun b hb => Array.getElem?_setIfInBounds_ne hb
  have hlv : ∀ g, (upd G.th 0 { G.th 0 with me := ⟨0, 0, ps, true⟩ } g).live = (G.th g).live := fun g => fld Lo.live (by rfl) g
  have hst : ∀ op ∈ MemOp.ofEvents 0 fn pos #[⟨.obj E.c, false, true⟩, ⟨.obj E.c, true, true⟩], op.act ≠ .mark .disable ∧ op.act ≠ .mark .enable := fun op hop => by
    obtain ⟨x, hx, rfl⟩ := mem_evs hop
    simp at hx; rcases hx with rfl | rfl <;> exact ⟨by simp [MemAct.ofEvent], by simp [MemAct.ofEvent]⟩
  have hno : ∀ j, (G.th j).live = true → ¬ (G.th j).own E.c := fun j hj ho => (h.s.nsh j _ hj ho).2.2.1 hC rfl
  have ht : GIt E G w.heap.size (t ++ MemOp.ofEvents 0 fn pos #[⟨.obj E.c, false, true⟩, ⟨.obj E.c, true, true⟩]) := by
    refine ⟨h.t.ti.step g_ofEvents (fun op hop b hbb => ?_) (Nat.le_refl _) fun op hop => ?_, fun g hg => ?_, fun g hg => ?_, ?_⟩
    · obtain ⟨x, hx, rfl⟩ := mem_evs hop
      simp at hx; rcases hx with rfl | rfl
      · simp [MemAct.ofEvent, MemAct.touch?] at hbb; subst hbb
        refine ⟨.inr (.inr (.inl ⟨rfl, h.a.live0, hC, rfl⟩)), fun j hj => ⟨fun hw => hno j hw.1 hw.2, fun e => (by cases e), fun e => (by cases e), fun e => (by cases e)⟩⟩
      · simp [MemAct.ofEvent, MemAct.touch?] at hbb
    · obtain ⟨x, hx, rfl⟩ := mem_evs hop
      simp at hx; rcases hx with rfl | rfl <;> exact hcs
    · rw [Go.ConcN.Deaf_still _ _ _ hst]; exact h.t.deaf g hg
    · rw [Go.ConcN.Deaf_still _ _ _ hst]; exact h.t.quiet g hg
    · refine h.t.tell.app g_ofEvents (.inl rfl) (fun op hop => ?_) (fun op hop b hbb hw => ?_) (fun op hop b hbb hk => ?_) (fun ho => ?_)
      · obtain ⟨x, hx, rfl⟩ := mem_evs hop
        simp at hx; rcases hx with rfl | rfl <;> simp [MemAct.ofEvent]
      · obtain ⟨x, hx, rfl⟩ := mem_evs hop
        simp at hx; rcases hx with rfl | rfl
        · simp [MemAct.ofEvent, MemAct.touch?] at hbb; subst hbb
          exact ⟨fun k hk e => (by cases e), fun ad v k e => (by cases e)⟩
        · simp [MemAct.ofEvent, MemAct.touch?] at hbb
      · obtain ⟨x, hx, rfl⟩ := mem_evs hop
        simp at hx; rcases hx with rfl | rfl
        · simp [MemAct.ofEvent, MemAct.touch?] at hbb; subst hbb; cases hk
        · simp [MemAct.ofEvent, MemAct.touch?] at hbb
      · exfalso; have := ho.1; have := h.a.pos0.1; omega
  have hs1 : TSame G { G with th := upd G.th 0 { G.th 0 with me := ⟨0, 0, ps, true⟩ }, cl := true } := ⟨rfl, rfl, rfl, rfl, fun j => ⟨hlv j, fld Lo.own (by rfl) j, fld Lo.run (by rfl) j, fld Lo.pas (by rfl) j, fld Lo.rel (by rfl) j, by rw [show (Gh.th { G with th := upd G.th 0 { G.th 0 with me := ⟨0, 0, ps, true⟩ }, cl := true } j).gr = (G.th j).gr from fld Lo.gr (by rfl) j], by rw [show (Gh.th { G with th := upd G.th 0 { G.th 0 with me := ⟨0, 0, ps, true⟩ }, cl := true } j).gr = (G.th j).gr from fld Lo.gr (by rfl) j]⟩⟩
  refine ⟨s, r, hc, { G with th := upd G.th 0 { G.th 0 with me := ⟨0, 0, ps, true⟩ }, cl := true }, ⟨⟨h.a.tr rfl rfl hlv, ?_, ?_, ?_, ?_, ?_, h.more, ?_⟩, upd_same G.th 0 { G.th 0 with me := ⟨0, 0, ps, true⟩ }, fun j hj => upd_ne G.th _ hj, rfl, fun j hj _ => ⟨by rw [hsz]; exact Nat.le_refl _, fun b hb => hne b fun e => hno j hj (e ▸ hb)⟩, ?_⟩, fun j hj => ?_⟩
  · rw [hsz]; exact h.s.tr (Nat.le_refl _) (fun a v hv => ⟨v, hv⟩) fun j hj => ⟨by have hj : (upd G.th 0 _ j).live = true := hj; rw [hlv] at hj; exact hj, fld Lo.own (by rfl) j⟩
  · refine ⟨fun x hx => ?_, fun a v d ha => ?_, h.m.inj, fun _ => ⟨⟨s, r, ?_⟩, hc2, hc3⟩, h.m.tape, h.m.output, h.m.os⟩
    · obtain ⟨a1, a2⟩ := cell_same (w := w) (w' := { w with heap := w.heap.setIfInBounds E.c (.chan 0 #[] true s r false) }) (a := E.sc x) (hne _ fun e => hc2 x hx e.symm)
      rw [a1, a2, show (Gh.val _ x) = G.val x by cases x <;> rfl]; exact h.m.sync x hx
    · obtain ⟨a1, a2⟩ := cell_same (w := w) (w' := { w with heap := w.heap.setIfInBounds E.c (.chan 0 #[] true s r false) }) (a := a) (hne _ fun e => hc3 a _ ha e.symm)
      rw [a1, a2]; exact h.m.app a v d ha
    · show (w.heap.setIfInBounds E.c _)[E.c]? = _
      rw [Array.getElem?_setIfInBounds_self_of_lt hcs]
  · exact h.k.tr rfl rfl rfl rfl rfl fun j => ⟨hlv j, fld Lo.mr (by rfl) j, fld Lo.run (by rfl) j, fld Lo.pas (by rfl) j, fld Lo.kn (by rfl) j⟩
  · exact h.g.tr rfl rfl rfl rfl rfl rfl fun j => ⟨hlv j, fld Lo.wk (by rfl) j, fld Lo.gr (by rfl) j⟩
  · have hchs : ∀ g, (upd G.th 0 { G.th 0 with me := ⟨0, 0, ps, true⟩ } g).ch = (G.th g).ch := fun g => fld Lo.ch (by rfl) g
    have hgrs : ∀ g, (upd G.th 0 { G.th 0 with me := ⟨0, 0, ps, true⟩ } g).gr = (G.th g).gr := fun g => fld Lo.gr (by rfl) g
    have hjbs : ∀ g, (upd G.th 0 { G.th 0 with me := ⟨0, 0, ps, true⟩ } g).job = (G.th g).job := fun g => fld Lo.job (by rfl) g
    have hmrs : ∀ g, (upd G.th 0 { G.th 0 with me := ⟨0, 0, ps, true⟩ } g).mr = (G.th g).mr := fun g => fld Lo.mr (by rfl) g
    refine ⟨fun e => (by rw [hC] at e; cases e), fun j v hj hv => ?_, fun j hj hv => ?_, fun _ => ⟨m3.symm.trans hps, m1.symm, m2.symm⟩, h.j.posn, fun rr => ?_, fun j jj hj hjj => h.j.jobs j jj (by rw [← hlv]; exact hj) (by rw [← hjbs]; exact hjj), h.j.tks, fun _ hc => (by cases hc), h.j.any, fun _ _ => rfl, fun j hj hm => ?_, ?_, fun _ _ _ => rfl⟩
    · exfalso
      have hv : (G.th j).ch = .send v := by rw [← hchs]; exact hv
      have := (h.j.ch0 j v (by rw [← hlv]; exact hj) hv).1
      subst this; rw [hch] at hv; cases hv
    · have := h.j.chR j (by rw [← hlv]; exact hj) (by rw [← hchs]; exact hv)
      rw [show (Gh.th _ j).job = _ from hjbs j, show (Gh.th _ j).mr = _ from hmrs j, show (Gh.th _ j).gr = _ from hgrs j]; exact this
    · have : (sumTo G.n fun g => (upd G.th 0 { G.th 0 with me := ⟨0, 0, ps, true⟩ } g).holds E.rs rr) = sumTo G.n fun g => (G.th g).holds E.rs rr := sum_same (φ := fun l => l.holds E.rs rr) (by rfl)
      show G.cv rr + (sumTo G.n fun g => (upd G.th 0 { G.th 0 with me := ⟨0, 0, ps, true⟩ } g).holds E.rs rr) = sentTo E.rs rr G.pos
      rw [this]; exact h.j.cnt rr
    · rw [show (Gh.th _ j).gr = _ from hgrs j]; exact h.j.mrG j (by rw [← hlv]; exact hj) (by rw [← hmrs]; exact hm)
    · show (upd G.th 0 { G.th 0 with me := ⟨0, 0, ps, true⟩ } 0).me = ⟨G.left, G.pend, G.pos, true⟩
      rw [upd_same, ← m1, ← m2, ← m3]
  · rw [hsz]; exact ht.tr hs1 (fun j => fld Lo.deaf (by rfl) j) (Nat.le_refl _)
  · have e1 : (sumTo G.n fun g => (upd G.th 0 { G.th 0 with me := ⟨0, 0, ps, true⟩ } g).φ E.K) = sumTo G.n fun g => (G.th g).φ E.K := sum_same (φ := fun l => l.φ E.K) (by rfl)
    have e3 : ∀ k', (sumTo G.n fun g => (upd G.th 0 { G.th 0 with me := ⟨0, 0, ps, true⟩ } g).stale k' (G.wd k')) = sumTo G.n fun g => (G.th g).stale k' (G.wd k') := fun k' => sum_same (φ := fun l => l.stale k' (G.wd k')) (by rfl)
    have e4 : (upd G.th 0 { G.th 0 with me := ⟨0, 0, ps, true⟩ } 0).staleG G.wn = (G.th 0).staleG G.wn := fld (fun l => l.staleG G.wn) (by rfl) 0
    unfold Gh.Φ
    simp only [e1, e3, e4, ← m4]
    have a1 : (!true).toNat = 0 := rfl
    have a2 : (!false).toNat = 1 := rfl
    omega
  · unfold Gh.PK at hj ⊢
    rw [show (Gh.th { G with th := upd G.th 0 { G.th 0 with me := ⟨0, 0, ps, true⟩ }, cl := true } j).mr = (G.th j).mr from fld Lo.mr (by rfl) j, show (Gh.th { G with th := upd G.th 0 { G.th 0 with me := ⟨0, 0, ps, true⟩ }, cl := true } 0).gr = (G.th 0).gr from fld Lo.gr (by rfl) 0]
    exact hj
end Go.Co
