/- Weakening, contracts of functions, regions that draw their order, the lift to a row. No condition. -/
import Derived.Test.YtlefpinmgabmfaaGreatSeB
import Derived.OrdersIn
import Derived.OpenShut
namespace Go.SE
open Go Go.RowKit

def S.ren (θ : Nat → Nat) : S → S
  | .ptr h o => .ptr (θ h) o
  | .pts h o => .pts (θ h) o
  | .sl h off len => .sl (θ h) off len
  | .fn f caps => .fn f (caps.map fun p => (θ p.1, p.2))
  | .bm f h o => .bm f (θ h) o
  | .yld h => .yld (θ h)
  | .mp h => .mp (θ h)
  | x => x

def capsSc (n : Nat) : List (Nat × Nat) → Bool
  | [] => true
  | p :: l => bif Nat.blt p.1 n then capsSc n l else false

def S.sc (n : Nat) : S → Bool
  | .ptr h _ => Nat.blt h n
  | .pts h _ => Nat.blt h n
  | .sl h _ _ => Nat.blt h n
  | .fn _ caps => capsSc n caps
  | .bm _ h _ => Nat.blt h n
  | .yld h => Nat.blt h n
  | .mp h => Nat.blt h n
  | _ => true

def renL (θ : Nat → Nat) : List S → List S
  | [] => []
  | x :: l => x.ren θ :: renL θ l

def scL (n : Nat) : List S → Bool
  | [] => true
  | x :: l => bif x.sc n then scL n l else false

def T.ren (θ : Nat → Nat) : T → T
  | .one s => .one (s.ren θ)
  | .agg l => .agg (renL θ l)

def T.sc (n : Nat) : T → Bool
  | .one s => s.sc n
  | .agg l => scL n l

def renTs (θ : Nat → Nat) : List T → List T
  | [] => []
  | x :: l => x.ren θ :: renTs θ l

def scTs (n : Nat) : List T → Bool
  | [] => true
  | x :: l => bif x.sc n then scTs n l else false

def X.ren (θ : Nat → Nat) : X → X
  | .t x => .t (x.ren θ)
  | .tup l => .tup (renTs θ l)
  | .unk => .unk

def X.sc (n : Nat) : X → Bool
  | .t x => x.sc n
  | .tup l => scTs n l
  | .unk => true

def Env.ren (θ : Nat → Nat) : Env → Env
  | [] => []
  | (k, x) :: l => (k, x.ren θ) :: Env.ren θ l

def Env.sc (n : Nat) : Env → Bool
  | [] => true
  | (_, x) :: l => bif x.sc n then Env.sc n l else false

def renO (θ : Nat → Nat) : Option S → Option S
  | none => none
  | some s => some (s.ren θ)

def scO (n : Nat) : Option S → Bool
  | none => true
  | some s => s.sc n

def Reg.ren (θ : Nat → Nat) : Reg → Reg
  | .box cells sz e => .box (renL θ cells) sz e
  | .srow cells sz e => .srow (renL θ cells) sz e
  | .slot mh key val => .slot (θ mh) key (renO θ val)
  | .iter mh a b c => .iter (θ mh) a b c
  | .loop nt env ps a b st pe hd => .loop nt (env.ren θ) ps a b st pe (θ hd)
  | r => r

def Reg.sc (n : Nat) : Reg → Bool
  | .box cells _ _ => scL n cells
  | .srow cells _ _ => scL n cells
  | .slot mh _ val => bif Nat.blt mh n then scO n val else false
  | .iter mh _ _ _ => Nat.blt mh n
  | .loop _ env _ _ _ _ _ hd => bif Nat.blt hd n then env.sc n else false
  | _ => true

theorem blt_lt {a b : Nat} (h : Nat.blt a b = true) : a < b := Nat.le_of_ble_eq_true h

theorem ptrVal_congr {ρ ρ' : Rho} {h o : Nat} (e : ρ' h = ρ h) : ptrVal ρ' h o = ptrVal ρ h o := by unfold ptrVal; rw [e]

theorem capsSc_spec {n : Nat} : ∀ {l : List (Nat × Nat)}, capsSc n l = true → ∀ p ∈ l, p.1 < n
  | [], _ => by simp
  | q :: l, h => by
    simp only [capsSc, cond_eq_ite] at h
    split at h
    · rename_i h1
      intro p hp
      rcases List.mem_cons.1 hp with rfl | hp
      · exact blt_lt h1
      · exact capsSc_spec h p hp
    · cases h

theorem S.rel_congr {ρ ρ' : Rho} {n : Nat} {s : S} {y : Value} (hs : s.sc n = true) (hag : ∀ h, h < n → ρ' h = ρ h) (h : s.Rel ρ y) : s.Rel ρ' y := by
  cases s with
  | ptr k o => simp only [S.Rel] at h ⊢; rw [h, ptrVal_congr (hag k (blt_lt hs))]
  | pts k o => simp only [S.Rel] at h ⊢; rw [h, ptrVal_congr (hag k (blt_lt hs))]
  | sl k off len => simp only [S.Rel] at h ⊢; rw [hag k (blt_lt hs)]; exact h
  | bm f k o => simp only [S.Rel] at h ⊢; rw [h, ptrVal_congr (hag k (blt_lt hs))]
  | yld k => simp only [S.Rel] at h ⊢; rw [hag k (blt_lt hs)]; exact h
  | mp k => simp only [S.Rel] at h ⊢; rw [hag k (blt_lt hs)]; exact h
  | fn f caps =>
    simp only [S.Rel] at h ⊢
    rw [h]
    have : caps.map (fun p => ptrVal ρ p.1 p.2) = caps.map (fun p => ptrVal ρ' p.1 p.2) := List.map_congr_left fun p hp => (ptrVal_congr (hag p.1 (capsSc_spec hs p hp))).symm
    rw [this]
  | v x => exact h
  | b c => exact h
  | n k i => exact h
  | any => exact h

theorem S.rel_ren {ρ : Rho} {θ : Nat → Nat} {s : S} {y : Value} (h : (s.ren θ).Rel ρ y) : s.Rel (fun k => ρ (θ k)) y := by
  cases s with
  | fn f caps => simp only [S.ren, S.Rel, List.map_map] at h ⊢; exact h
  | _ => exact h

theorem L.rel_congr {ρ ρ' : Rho} {n : Nat} (hag : ∀ h, h < n → ρ' h = ρ h) : ∀ {l : List S} {ys : List Value}, scL n l = true → LRel ρ l ys → LRel ρ' l ys
  | [], [], _, _ => trivial
  | x :: l, y :: ys, hs, h => by
    simp only [scL, cond_eq_ite] at hs
    split at hs
    · rename_i h1; exact ⟨S.rel_congr h1 hag h.1, L.rel_congr hag hs h.2⟩
    · cases hs

theorem L.rel_ren {ρ : Rho} {θ : Nat → Nat} : ∀ {l : List S} {ys : List Value}, LRel ρ (renL θ l) ys → LRel (fun k => ρ (θ k)) l ys
  | [], [], _ => trivial
  | x :: l, y :: ys, h => ⟨S.rel_ren h.1, L.rel_ren h.2⟩

theorem T.rel_congr {ρ ρ' : Rho} {n : Nat} {t : T} {y : Value} (hs : t.sc n = true) (hag : ∀ h, h < n → ρ' h = ρ h) (h : t.Rel ρ y) : t.Rel ρ' y := by
  cases t with
  | one s => exact S.rel_congr hs hag h
  | agg l => obtain ⟨ys, rfl, hl⟩ := h; exact ⟨ys, rfl, L.rel_congr hag hs hl⟩

theorem T.rel_ren {ρ : Rho} {θ : Nat → Nat} {t : T} {y : Value} (h : (t.ren θ).Rel ρ y) : t.Rel (fun k => ρ (θ k)) y := by
  cases t with
  | one s => exact S.rel_ren h
  | agg l => obtain ⟨ys, rfl, hl⟩ := h; exact ⟨ys, rfl, L.rel_ren hl⟩

theorem Ts.rel_congr {ρ ρ' : Rho} {n : Nat} (hag : ∀ h, h < n → ρ' h = ρ h) : ∀ {l : List T} {ys : List Value}, scTs n l = true → TsRel ρ l ys → TsRel ρ' l ys
  | [], [], _, _ => trivial
  | x :: l, y :: ys, hs, h => by
    simp only [scTs, cond_eq_ite] at hs
    split at hs
    · rename_i h1; exact ⟨T.rel_congr h1 hag h.1, Ts.rel_congr hag hs h.2⟩
    · cases hs

theorem Ts.rel_ren {ρ : Rho} {θ : Nat → Nat} : ∀ {l : List T} {ys : List Value}, TsRel ρ (renTs θ l) ys → TsRel (fun k => ρ (θ k)) l ys
  | [], [], _ => trivial
  | x :: l, y :: ys, h => ⟨T.rel_ren h.1, Ts.rel_ren h.2⟩

theorem X.rel_congr {ρ ρ' : Rho} {n : Nat} {x : X} {y : Value} (hs : x.sc n = true) (hag : ∀ h, h < n → ρ' h = ρ h) (h : x.Rel ρ y) : x.Rel ρ' y := by
  cases x with
  | t t => exact T.rel_congr hs hag h
  | tup l => obtain ⟨ys, rfl, hl⟩ := h; exact ⟨ys, rfl, Ts.rel_congr hag hs hl⟩
  | unk => trivial

theorem X.rel_ren {ρ : Rho} {θ : Nat → Nat} {x : X} {y : Value} (h : (x.ren θ).Rel ρ y) : x.Rel (fun k => ρ (θ k)) y := by
  cases x with
  | t t => exact T.rel_ren h
  | tup l => obtain ⟨ys, rfl, hl⟩ := h; exact ⟨ys, rfl, Ts.rel_ren hl⟩
  | unk => trivial

theorem Env.sc_get {n : Nat} : ∀ {env : Env} {k : Nat} {x : X}, Env.sc n env = true → env.get k = some x → x.sc n = true
  | [], _, _, _, h => by simp [Env.get] at h
  | (j, y) :: env, k, x, hs, h => by
    simp only [Env.sc, cond_eq_ite] at hs
    split at hs
    · rename_i h1
      simp only [Env.get, cond_eq_ite] at h
      split at h
      · cases h; exact h1
      · exact Env.sc_get hs h
    · cases hs

theorem Env.ren_get {θ : Nat → Nat} : ∀ {env : Env} {k : Nat} {x : X}, env.get k = some x → (env.ren θ).get k = some (x.ren θ)
  | [], _, _, h => by simp [Env.get] at h
  | (j, y) :: env, k, x, h => by
    simp only [Env.get, Env.ren, cond_eq_ite] at h ⊢
    split at h
    · rename_i he; rw [if_pos he]; cases h; rfl
    · rename_i he; rw [if_neg he]; exact Env.ren_get h

theorem tmps_congr {ρ ρ' : Rho} {n : Nat} {env : Env} {tmps : Array Value} (hs : Env.sc n env = true) (hag : ∀ h, h < n → ρ' h = ρ h) (h : TmpsOk ρ env tmps) : TmpsOk ρ' env tmps := fun k x hk => by
  obtain ⟨y, h1, h2⟩ := h k x hk
  exact ⟨y, h1, X.rel_congr (Env.sc_get hs hk) hag h2⟩

theorem tmps_ren {ρ : Rho} {θ : Nat → Nat} {env : Env} {tmps : Array Value} (h : TmpsOk ρ (env.ren θ) tmps) : TmpsOk (fun k => ρ (θ k)) env tmps := fun k x hk => by
  obtain ⟨y, h1, h2⟩ := h k _ (Env.ren_get hk)
  exact ⟨y, h1, X.rel_ren h2⟩

theorem renL_length (θ : Nat → Nat) : ∀ l : List S, (renL θ l).length = l.length
  | [] => rfl
  | _ :: l => by simp [renL, renL_length θ l]

theorem reg_congr {ρ ρ' : Rho} {n : Nat} {w : World} {h : Nat} {r : Reg} (hs : r.sc n = true) (hag : ∀ k, k < n → ρ' k = ρ k) (hh : h < n) (hr : RegOk ρ w h r) : RegOk ρ' w h r := by
  have e := hag h hh
  cases r with
  | box cells sz et =>
    obtain ⟨h1, h2, h3, ys, h4, h5⟩ := hr
    exact ⟨by rw [e]; exact h1, by rw [e]; exact h2, by rw [e]; exact h3, ys, by rw [e]; exact h4, L.rel_congr hag hs h5⟩
  | row xs sz et own => cases own <;> (simp only [RegOk] at hr ⊢; rw [e]; exact hr)
  | obj o => exact ⟨by rw [e]; exact hr.1, by rw [e]; exact hr.2⟩
  | loop nt env ps a b st pe hd =>
    simp only [Reg.sc, cond_eq_ite] at hs
    split at hs
    · rename_i h1
      obtain ⟨g1, r, g2, g3, g4, g5, g6, g7, g8, g9, g10⟩ := hr
      exact ⟨by rw [e]; exact g1, r, by rw [e]; exact g2, g3, g4, g5, g6, g7, by rw [hag hd (blt_lt h1)]; exact g8, g9, tmps_congr hs hag g10⟩
    · cases hs
  | srow cells sz et =>
    obtain ⟨h1, h2, h3, ys, zs, h4, h5, h6, h7⟩ := hr
    exact ⟨by rw [e]; exact h1, by rw [e]; exact h2, by rw [e]; exact h3, ys, zs, by rw [e]; exact h4, by rw [e]; exact h5, h6, L.rel_congr hag hs h7⟩
  | slot mh key val =>
    simp only [Reg.sc, cond_eq_ite] at hs
    split at hs
    · rename_i hb
      obtain ⟨h1, h2, es, c, h3, h4, h5⟩ := hr
      refine ⟨by rw [e]; exact h1, by rw [e, hag mh (blt_lt hb)]; exact h2, es, c, by rw [e]; exact h3, h4, ?_⟩
      cases key with
      | none => trivial
      | some j =>
        cases val with
        | none => exact h5
        | some s => obtain ⟨y, h6, h7⟩ := h5; exact ⟨y, h6, S.rel_congr hs hag h7⟩
    · cases hs
  | iter mh a b c => exact ⟨by rw [e]; exact hr.1, by rw [e, hag mh (blt_lt hs)]; exact hr.2⟩
  | gone => trivial

theorem reg_ren {ρ : Rho} {θ : Nat → Nat} {w : World} {h : Nat} {r : Reg} (hr : RegOk ρ w (θ h) (r.ren θ)) : RegOk (fun k => ρ (θ k)) w h r := by
  cases r with
  | box cells sz et =>
    obtain ⟨h1, h2, h3, ys, h4, h5⟩ := hr
    exact ⟨h1, h2, by rw [renL_length] at h3; exact h3, ys, h4, L.rel_ren h5⟩
  | row xs sz et own => cases own <;> exact hr
  | obj o => exact hr
  | loop nt env ps a b st pe hd =>
    obtain ⟨g1, r, g2, g3, g4, g5, g6, g7, g8, g9, g10⟩ := hr
    exact ⟨g1, r, g2, g3, g4, g5, g6, g7, g8, g9, tmps_ren g10⟩
  | srow cells sz et =>
    obtain ⟨h1, h2, h3, ys, zs, h4, h5, h6, h7⟩ := hr
    exact ⟨h1, h2, h3, ys, zs, h4, h5, h6, L.rel_ren h7⟩
  | slot mh key val =>
    obtain ⟨h1, h2, es, c, h3, h4, h5⟩ := hr
    refine ⟨h1, h2, es, c, h3, h4, ?_⟩
    cases key with
    | none => trivial
    | some j =>
      cases val with
      | none => exact h5
      | some s => obtain ⟨y, h6, h7⟩ := h5; exact ⟨y, h6, S.rel_ren h7⟩
  | iter mh a b c => exact hr
  | gone => trivial

theorem tied_ren (θ θ' : Nat → Nat) (r r' : Reg) : tied (r.ren θ) (r'.ren θ') = tied r r' := by cases r <;> cases r' <;> rfl
theorem Reg.ren_own (θ : Nat → Nat) (r : Reg) : (r.ren θ).own = r.own := by cases r <;> rfl
theorem Reg.ren_live (θ : Nat → Nat) (r : Reg) : (r.ren θ).live = r.live := by cases r <;> rfl

/-! ### what says less -/

def LeS : S → S → Prop
  | .v (.bool c), .b d => c = d
  | .b c, .b d => c = d
  | .v (.bool c), .v (.bool d) => c = d
  | .n k i, .v (.int k' j) => k = k' ∧ i = j
  | .v (.int k i), .v (.int k' j) => k = k' ∧ i = j
  | .n k i, .n k' j => k = k' ∧ i = j
  | .sl h off len, .sl h' off' len' => h = h' ∧ off = off' ∧ len = len'
  | .pts h o, .pts h' o' => h = h' ∧ o = o'
  | .ptr h o, .pts h' o' => h = h' ∧ o = o'
  | x, y => x = y

theorem LeS.rel {ρ : Rho} {x y : S} {v : Value} (h : LeS x y) (hr : x.Rel ρ v) : y.Rel ρ v := by
  unfold LeS at h
  split at h
  · subst h; exact hr.1
  · subst h; exact hr
  · subst h; exact hr
  · obtain ⟨rfl, rfl⟩ := h; exact ⟨hr, rfl⟩
  · obtain ⟨rfl, rfl⟩ := h; exact hr
  · obtain ⟨rfl, rfl⟩ := h; exact hr
  · obtain ⟨rfl, rfl, rfl⟩ := h; exact hr
  · obtain ⟨rfl, rfl⟩ := h; exact hr
  · obtain ⟨rfl, rfl⟩ := h; exact hr
  · subst h; exact hr

def LeL : List S → List S → Prop
  | [], [] => True
  | x :: xs, y :: ys => LeS x y ∧ LeL xs ys
  | _, _ => False

theorem LeL.rel {ρ : Rho} : ∀ {l l' : List S} {v : List Value}, LeL l l' → LRel ρ l v → LRel ρ l' v
  | [], [], [], _, _ => trivial
  | _ :: _, _ :: _, _ :: _, h, hr => ⟨h.1.rel hr.1, LeL.rel h.2 hr.2⟩

theorem LeL.length : ∀ {l l' : List S}, LeL l l' → l.length = l'.length
  | [], [], _ => rfl
  | _ :: _, _ :: _, h => by simp [LeL.length h.2]

def LeT : T → T → Prop
  | .one x, .one y => LeS x y
  | .agg l, .agg l' => LeL l l'
  | _, _ => False

theorem LeT.rel {ρ : Rho} {x y : T} {v : Value} (h : LeT x y) (hr : x.Rel ρ v) : y.Rel ρ v := by
  cases x <;> cases y <;> first | exact h.elim | exact LeS.rel h hr | (obtain ⟨ys, rfl, hl⟩ := hr; exact ⟨ys, rfl, LeL.rel h hl⟩)

def LeTs : List T → List T → Prop
  | [], [] => True
  | x :: xs, y :: ys => LeT x y ∧ LeTs xs ys
  | _, _ => False

theorem LeTs.rel {ρ : Rho} : ∀ {l l' : List T} {v : List Value}, LeTs l l' → TsRel ρ l v → TsRel ρ l' v
  | [], [], [], _, _ => trivial
  | _ :: _, _ :: _, _ :: _, h, hr => ⟨h.1.rel hr.1, LeTs.rel h.2 hr.2⟩

theorem LeS.refl (x : S) : LeS x x := by
  cases x with
  | v a => cases a <;> first | exact rfl | exact ⟨rfl, rfl⟩
  | b c => exact rfl
  | n k i => exact ⟨rfl, rfl⟩
  | sl h o l => exact ⟨rfl, rfl, rfl⟩
  | pts h o => exact ⟨rfl, rfl⟩
  | ptr h o => exact rfl
  | fn f c => exact rfl
  | bm f h o => exact rfl
  | yld h => exact rfl
  | mp h => exact rfl
  | any => exact rfl
theorem LeL.refl : ∀ l, LeL l l
  | [] => trivial
  | x :: l => ⟨LeS.refl x, LeL.refl l⟩
theorem LeT.refl (x : T) : LeT x x := by
  cases x with
  | one s => exact LeS.refl s
  | agg l => exact LeL.refl l
theorem LeTs.refl : ∀ l, LeTs l l
  | [] => trivial
  | x :: l => ⟨LeT.refl x, LeTs.refl l⟩
theorem lets_rfl {l r : List T} (h : l = r) : LeTs l r := by subst h; exact LeTs.refl l

def LeX : X → X → Prop
  | .t x, .t y => LeT x y
  | .tup l, .tup l' => LeTs l l'
  | _, .unk => True
  | _, _ => False

theorem LeX.rel {ρ : Rho} {x y : X} {v : Value} (h : LeX x y) (hr : x.Rel ρ v) : y.Rel ρ v := by
  cases x <;> cases y <;> first | exact h.elim | exact LeT.rel h hr | (obtain ⟨ys, rfl, hl⟩ := hr; exact ⟨ys, rfl, LeTs.rel h hl⟩) | trivial

def LeR : Reg → Reg → Prop
  | .box l sz e, .box l' sz' e' => LeL l l' ∧ sz = sz' ∧ e = e'
  | .row xs sz e own, .row xs' sz' e' own' => xs = xs' ∧ sz = sz' ∧ e = e' ∧ own = own'
  | .srow l sz e, .srow l' sz' e' => LeL l l' ∧ sz = sz' ∧ e = e'
  | _, .gone => True
  | x, y => x = y

theorem LeR.ok {ρ : Rho} {w : World} {h : Nat} {x y : Reg} (hl : LeR x y) (hr : RegOk ρ w h x) : RegOk ρ w h y := by
  unfold LeR at hl
  split at hl
  · obtain ⟨h1, rfl, rfl⟩ := hl
    obtain ⟨g1, g2, g3, ys, g4, g5⟩ := hr
    exact ⟨g1, g2, by rw [← LeL.length h1]; exact g3, ys, g4, h1.rel g5⟩
  · obtain ⟨rfl, rfl, rfl, rfl⟩ := hl; exact hr
  · obtain ⟨h1, rfl, rfl⟩ := hl
    obtain ⟨g1, g2, g3, ys, zs, g4, g5, g6, g7⟩ := hr
    exact ⟨g1, g2, g3, ys, zs, g4, g5, g6, h1.rel g7⟩
  · trivial
  · subst hl; exact hr

theorem LeR.tied {x y x' y' : Reg} (hl : LeR x y) (hl' : LeR x' y') (ho : y.own = true) (ho' : y'.live = true) (h : tied y y' = false) : tied x x' = false := by
  unfold LeR at hl hl'
  split at hl
  · rfl
  · rfl
  · rfl
  · cases ho
  · subst hl
    split at hl'
    · cases x <;> rfl
    · cases x <;> rfl
    · cases x <;> rfl
    · cases ho'
    · subst hl'; exact h

theorem LeR.own {x y : Reg} (hl : LeR x y) (ho : y.own = true) : x.own = true := by
  unfold LeR at hl
  split at hl
  · rfl
  · obtain ⟨_, _, _, rfl⟩ := hl; exact ho
  · rfl
  · cases ho
  · subst hl; exact ho

theorem LeR.live {x y : Reg} (hl : LeR x y) (ho : y.live = true) : x.live = true := by
  unfold LeR at hl
  split at hl
  · rfl
  · obtain ⟨rfl, _, _, rfl⟩ := hl; exact ho
  · rfl
  · cases ho
  · subst hl; exact ho

/-! ### entailment -/

def thet : List (Nat × Nat) → Nat → Nat
  | [], h => h
  | (a, b) :: l, h => bif Nat.beq a h then b else thet l h

def thFrom (p : Nat) : List (Nat × Nat) → Bool
  | [] => true
  | (a, _) :: l => bif Nat.ble p a then thFrom p l else false

def hasX (env : Env) (k : Nat) (x : X) : Prop :=
  match env.get k with
  | some y => LeX y x
  | none => False

def hasR (regs : List (Nat × Reg)) (h : Nat) (r : Reg) : Prop :=
  match regGet regs h with
  | some y => LeR y r
  | none => False

def EntE (θ : Nat → Nat) (n : Nat) (env : Env) : Env → Prop
  | [] => True
  | (k, x) :: l => (x.sc n = true ∧ hasX env k (x.ren θ)) ∧ EntE θ n env l

def EntR (θ : Nat → Nat) (n : Nat) (regs : List (Nat × Reg)) : List (Nat × Reg) → Prop
  | [] => True
  | (h, r) :: l => ((bif Nat.blt h n then r.sc n else false) = true ∧ hasR regs (θ h) (r.ren θ)) ∧ EntR θ n regs l

def notIn (x : Nat) : List Nat → Bool
  | [] => true
  | y :: l => bif Nat.beq x y then false else notIn x l

def keysNodup (θ : Nat → Nat) : List Nat → List (Nat × Reg) → Bool
  | _, [] => true
  | seen, (h, _) :: l => bif notIn (θ h) seen then keysNodup θ (θ h :: seen) l else false

def dsFix (θ : Nat → Nat) (n : Nat) : List Dfr → Bool
  | [] => true
  | h :: l => bif Nat.blt h.hd n && Nat.beq (θ h.hd) h.hd then dsFix θ n l else false

structure Ent (p : Nat) (th : List (Nat × Nat)) (env : Env) (m : M) (env' : Env) (m' : M) : Prop where
  e : EntE (thet th) m'.nh env env'
  r : EntR (thet th) m'.nh m.regs m'.regs
  k : (keysNodup (thet th) [] m'.regs && thFrom p th && Nat.ble p m'.nh && dsFix (thet th) m'.nh m'.ds) = true
  ds : m.ds = m'.ds

theorem EntE.get {θ : Nat → Nat} {n : Nat} {env : Env} : ∀ {l : Env} {k : Nat} {x : X}, EntE θ n env l → l.get k = some x → x.sc n = true ∧ ∃ y, env.get k = some y ∧ LeX y (x.ren θ)
  | [], _, _, _, h => by simp [Env.get] at h
  | (j, y) :: l, k, x, he, h => by
    simp only [Env.get, cond_eq_ite] at h
    split at h
    · rename_i e; cases h; rw [← Nat.eq_of_beq_eq_true e]
      refine ⟨he.1.1, ?_⟩
      have h2 := he.1.2
      unfold hasX at h2
      split at h2
      · rename_i z hz; exact ⟨z, hz, h2⟩
      · exact h2.elim
    · exact EntE.get he.2 h

theorem EntR.get {θ : Nat → Nat} {n : Nat} {regs : List (Nat × Reg)} : ∀ {l : List (Nat × Reg)} {k : Nat} {x : Reg}, EntR θ n regs l → regGet l k = some x → k < n ∧ x.sc n = true ∧ ∃ y, regGet regs (θ k) = some y ∧ LeR y (x.ren θ)
  | [], _, _, _, h => by simp [regGet] at h
  | (j, y) :: l, k, x, he, h => by
    simp only [regGet, cond_eq_ite] at h
    split at h
    · rename_i e; cases h; rw [← Nat.eq_of_beq_eq_true e]
      have h1 := he.1.1
      simp only [cond_eq_ite] at h1
      split at h1
      · rename_i hlt
        refine ⟨blt_lt hlt, h1, ?_⟩
        have h2 := he.1.2
        unfold hasR at h2
        split at h2
        · rename_i z hz; exact ⟨z, hz, h2⟩
        · exact h2.elim
      · cases h1
    · exact EntR.get he.2 h

theorem notIn_spec : ∀ {l : List Nat} {x : Nat}, notIn x l = true → x ∉ l
  | [], _, _ => by simp
  | y :: l, x, h => by
    simp only [notIn, cond_eq_ite] at h
    split at h
    · cases h
    · rename_i hne
      simp only [List.mem_cons, not_or]
      exact ⟨fun e => hne (by rw [e]; exact Nat.beq_refl _), notIn_spec h⟩

theorem keysNodup_spec {θ : Nat → Nat} : ∀ {l : List (Nat × Reg)} {seen : List Nat}, keysNodup θ seen l = true → (∀ p ∈ l, θ p.1 ∉ seen) ∧ ∀ h h' r r', regGet l h = some r → regGet l h' = some r' → h ≠ h' → θ h ≠ θ h'
  | [], _, _ => ⟨by simp, fun h h' r r' e => by simp [regGet] at e⟩
  | (k, y) :: l, seen, hk => by
    simp only [keysNodup, cond_eq_ite] at hk
    split at hk
    · rename_i h1
      obtain ⟨h2, h3⟩ := keysNodup_spec hk
      have mem : ∀ {l : List (Nat × Reg)} {h : Nat} {r : Reg}, regGet l h = some r → ∃ p ∈ l, p.1 = h := by
        intro l
        induction l with
        | nil => intro h r e; simp [regGet] at e
        | cons q l ih =>
          intro h r e
          obtain ⟨j, z⟩ := q
          simp only [regGet, cond_eq_ite] at e
          split at e
          · rename_i he; exact ⟨(j, z), by simp, Nat.eq_of_beq_eq_true he⟩
          · obtain ⟨p, hp, hq⟩ := ih e; exact ⟨p, by simp [hp], hq⟩
      refine ⟨?_, ?_⟩
      · intro p hp
        rcases List.mem_cons.1 hp with rfl | hp
        · exact notIn_spec h1
        · intro hc; exact h2 p hp (by simp [hc])
      · intro h h' r r' e1 e2 hne he
        simp only [regGet, cond_eq_ite] at e1 e2
        split at e1 <;> split at e2
        · rename_i a b; exact hne ((Nat.eq_of_beq_eq_true a).symm.trans (Nat.eq_of_beq_eq_true b))
        · rename_i a b
          obtain ⟨p, hp, rfl⟩ := mem e2
          exact h2 p hp (by rw [← he, ← Nat.eq_of_beq_eq_true a]; simp)
        · rename_i a b
          obtain ⟨p, hp, rfl⟩ := mem e1
          exact h2 p hp (by rw [he, ← Nat.eq_of_beq_eq_true b]; simp)
        · exact h3 h h' r r' e1 e2 hne he
    · cases hk

theorem thet_fix {p : Nat} : ∀ {th : List (Nat × Nat)} {h : Nat}, thFrom p th = true → h < p → thet th h = h
  | [], _, _, _ => rfl
  | (a, b) :: l, h, hf, hh => by
    simp only [thFrom, cond_eq_ite] at hf
    split at hf
    · rename_i h1
      simp only [thet, cond_eq_ite]
      rw [if_neg, thet_fix hf hh]
      intro e
      have := Nat.eq_of_beq_eq_true e
      have := Nat.le_of_ble_eq_true h1
      omega
    · cases hf

theorem dsFix_spec {θ : Nat → Nat} {n : Nat} : ∀ {l : List Dfr}, dsFix θ n l = true → ∀ h ∈ l, h.hd < n ∧ θ h.hd = h.hd
  | [], _ => by simp
  | k :: l, hk => by
    simp only [dsFix, cond_eq_ite] at hk
    split at hk
    · rename_i h1
      rw [Bool.and_eq_true] at h1
      intro h hh
      rcases List.mem_cons.1 hh with rfl | hh
      · exact ⟨blt_lt h1.1, Nat.eq_of_beq_eq_true h1.2⟩
      · exact dsFix_spec hk h hh
    · cases hk

theorem Ent.okL {P : Program} {nt B p : Nat} {w0 : World} {ρ : Rho} {th : List (Nat × Nat)} {env env' : Env} {m m' : M} {a : Act} {w : World} (h : Ent p th env m env' m') (hok : OkL P nt B w0 ρ env m a w) :
    OkL P nt B w0 (fun k => ρ (thet th k)) env' m' a w ∧ p ≤ m'.nh ∧ Agree (fun h => h < p) ρ (fun k => ρ (thet th k)) := by
  have hk := h.k
  simp only [Bool.and_eq_true] at hk
  obtain ⟨⟨⟨k1, k2⟩, k3⟩, k4⟩ := hk
  have hE := hok.ok.env ρ (Agree.refl _ _)
  have hM := hok.ok.mem ρ (Agree.refl _ _)
  refine ⟨⟨⟨?_, ?_, hok.ok.size⟩, ?_⟩, Nat.le_of_ble_eq_true k3, fun k hk => by show ρ (thet th k) = ρ k; rw [thet_fix k2 hk]⟩
  · intro ρ' hag k x hx
    obtain ⟨g1, z, g2, g5⟩ := h.e.get hx
    obtain ⟨y, g3, g4⟩ := hE k _ g2
    exact ⟨y, g3, X.rel_congr g1 (fun k hk => hag k hk) (X.rel_ren (g5.rel g4))⟩
  · intro ρ' hag
    have hreg : ∀ k r, m'.reg k = some r → k < m'.nh ∧ r.sc m'.nh = true ∧ ∃ y, m.reg (thet th k) = some y ∧ LeR y (r.ren (thet th)) := fun k r hr => h.r.get hr
    refine ⟨?_, ?_, ?_, hM.below, hM.hB⟩
    · intro k r hr
      obtain ⟨g1, g2, z, g3, g4⟩ := hreg k r hr
      exact reg_congr g2 (fun k hk => hag k hk) g1 (reg_ren (g4.ok (hM.regs _ _ g3)))
    · intro k k' r r' hr hr' hne ht ho hl hn hn'
      obtain ⟨g1, g2, z, g3, g4⟩ := hreg k r hr
      obtain ⟨q1, q2, z', q3, q4⟩ := hreg k' r' hr'
      rw [hag k g1, hag k' q1] at *
      exact hM.dist _ _ _ _ g3 q3 ((keysNodup_spec k1).2 k k' r r' hr hr' hne) (LeR.tied g4 q4 (by rw [Reg.ren_own]; exact ho) (by rw [Reg.ren_live]; exact hl) (by rw [tied_ren]; exact ht)) (g4.own (by rw [Reg.ren_own]; exact ho)) (q4.live (by rw [Reg.ren_live]; exact hl)) hn hn'
    · intro k r hr ho hn
      obtain ⟨g1, g2, z, g3, g4⟩ := hreg k r hr
      rw [hag k g1] at *
      exact hM.base _ _ g3 (g4.own (by rw [Reg.ren_own]; exact ho)) hn
  · intro ρ' hag
    rw [hok.ds ρ (Agree.refl _ _), h.ds]
    refine List.map_congr_left fun k hk => ?_
    obtain ⟨q1, q2⟩ := dsFix_spec k4 k hk
    exact (Dfr.den_congr (hag k.hd q1) q2).symm

theorem loop_weaken {C : Ctx} {c : Code} {Q : Exit → Env → M → Prop} {env env' : Env} {m m' : M} (th : List (Nat × Nat)) (h : Ent C.p th env m env' m') (hs : SLoop C c Q env' m') : SLoop C c Q env m := by
  refine ⟨fun hg n B w0 ρ a w hok hp => ?_⟩
  obtain ⟨h1, h2, h3⟩ := h.okL hok
  have := hs.out hg n B w0 _ a w h1 h2
  rw [Ctx.fen_eq hg h3] at this
  refine wpIn_mono this ?_
  intro e a w hh
  cases e with
  | normal => exact inLoop_mono hh fun e a w h => After.from h3 h
  | exit id => exact After.from h3 hh
  | goto l => exact After.from h3 hh
  | ret => exact After.from h3 hh
  | panic ch => exact After.from h3 hh
  | outgrown => exact After.from h3 hh

theorem scope_weaken {C : Ctx} {c r : Code} {Q : Exit → Env → M → Prop} {env env' : Env} {m m' : M} (th : List (Nat × Nat)) (h : Ent C.p th env m env' m') (hs : SScope C c r Q env' m') : SScope C c r Q env m := by
  refine ⟨fun hg n B w0 ρ a w hok hp => ?_⟩
  obtain ⟨h1, h2, h3⟩ := h.okL hok
  have := hs.out hg n B w0 _ a w h1 h2
  rw [Ctx.fen_eq hg h3] at this
  exact fun b k cs hro hb hr => let ⟨e, a', w', q, r⟩ := this b k cs hro hb hr; ⟨e, a', w', After.from h3 q, r⟩

end Go.SE

namespace Go.SE
open Go Go.RowKit

def pick (hs : List Nat) (i : Nat) : Nat := hs.getD i 0

/-- A contract of a call: its own handles are 0, 1, ..: of what it reads, and of what it hands back. -/
structure CallCon (P : Program) (f : FuncId) (args : List T) (pre : List Reg) (res : X) (post : List Reg) : Prop where
  ent : ∀ ys w, (callFunc f ys).run P w = .ok (.enter f ys) w
  go : ∀ (n : Nat) (ρ : Rho) (w : World) (ys : List Value), (∀ i r, pre[i]? = some r → RegOk ρ w i r) → TsRel ρ args ys →
    CallsIn Fence.wide n P f ys.toArray w fun e w' => ∃ v ρ', e = .returned v ∧ res.Rel ρ' v ∧ (∀ i r, post[i]? = some r → RegOk ρ' w' i r ∧ r.own = true ∧ ((ρ' i).nil = false → w.heap.size ≤ (ρ' i).blk)) ∧
      (∀ i j, i < post.length → j < post.length → i ≠ j → (ρ' i).nil = false → (ρ' j).nil = false → (ρ' i).blk ≠ (ρ' j).blk) ∧ Below w.heap.size w w'

def preRegs : List Reg → Nat → List (Nat × Reg)
  | [], _ => []
  | r :: l, i => (i, r) :: preRegs l (i + 1)

theorem preRegs_get : ∀ (l : List Reg) (i h : Nat) (r : Reg), regGet (preRegs l i) h = some r → ∃ j, h = i + j ∧ l[j]? = some r
  | [], _, _, _, e => by simp [preRegs, regGet] at e
  | x :: l, i, h, r, e => by
    simp only [preRegs, regGet, cond_eq_ite] at e
    split at e
    · rename_i he; cases e; exact ⟨0, (Nat.eq_of_beq_eq_true he).symm, rfl⟩
    · obtain ⟨j, h1, h2⟩ := preRegs_get l (i + 1) h r e; exact ⟨j + 1, by omega, by simpa using h2⟩

def EndR (hs : List Nat) (m : M) : List Nat → List Reg → Prop
  | [], [] => True
  | h :: l, r :: rs => (hasR m.regs h (r.ren (pick hs)) ∧ r.ownN = true) ∧ EndR hs m l rs
  | _, _ => False

def nodupB : List Nat → Bool
  | [] => true
  | x :: l => bif notIn x l then nodupB l else false

structure ConEnd (res : X) (post : List Reg) (x : X) (m : M) : Prop where
  out : ∃ hs : List Nat, LeX x (res.ren (pick hs)) ∧ EndR hs m hs post ∧ nodupB hs = true

theorem EndR.get {hs : List Nat} {m : M} : ∀ {l : List Nat} {rs : List Reg}, EndR hs m l rs → l.length = rs.length ∧ ∀ (i : Nat) (r : Reg), rs[i]? = some r → ∃ h z, l[i]? = some h ∧ (m.reg h = some z ∧ LeR z (r.ren (pick hs))) ∧ r.ownN = true
  | [], [], _ => ⟨rfl, by simp⟩
  | h :: l, r :: rs, e => by
    obtain ⟨h1, h2⟩ := EndR.get e.2
    refine ⟨by simp [h1], fun i r' hr => ?_⟩
    cases i with
    | zero =>
      simp at hr; subst hr
      have h3 := e.1.1
      unfold hasR at h3
      split at h3
      · rename_i z hz; exact ⟨h, z, rfl, ⟨hz, h3⟩, e.1.2⟩
      · exact h3.elim
    | succ i => obtain ⟨k, z, g1, g2⟩ := h2 i r' (by simpa using hr); exact ⟨k, z, by simpa using g1, g2⟩

theorem nodupB_spec : ∀ {l : List Nat}, nodupB l = true → l.Nodup
  | [], _ => List.nodup_nil
  | x :: l, h => by
    simp only [nodupB, cond_eq_ite] at h
    split at h
    · rename_i h1; exact List.nodup_cons.2 ⟨notIn_spec h1, nodupB_spec h⟩
    · cases h

theorem con_of_call {P : Program} {f : FuncId} {args : List T} {pre : List Reg} {res : X} {post : List Reg} (hro : ∀ r ∈ pre, r.own = false) (hsc : scTs pre.length args = true) (hpsc : ∀ r ∈ pre, r.sc pre.length = true)
    (h : SCall P f args ⟨preRegs pre 0, pre.length, []⟩ fun x m => Unit → ConEnd res post x m) : CallCon P f args pre res post := by
  obtain ⟨hent, hgo⟩ := h.out
  refine ⟨hent, fun n ρ w ys hpre hys => ?_⟩
  have hmem : MemL P w.heap.size w ρ ⟨preRegs pre 0, pre.length, []⟩ w := by
    intro ρ' hag
    have hreg : ∀ k r, M.reg ⟨preRegs pre 0, pre.length, []⟩ k = some r → k < pre.length ∧ pre[k]? = some r := by
      intro k r hr
      obtain ⟨j, h1, h2⟩ := preRegs_get pre 0 k r hr
      have : k = j := by omega
      subst this
      exact ⟨(List.getElem?_eq_some_iff.1 h2).1, h2⟩
    refine ⟨fun k r hr => ?_, fun k k' r r' hr _ _ _ ho => ?_, fun k r hr ho => ?_, Below.refl _ _, Nat.le_refl _⟩
    · obtain ⟨h1, h2⟩ := hreg k r hr
      exact reg_congr (hpsc r (List.mem_of_getElem? h2)) (fun j hj => hag j hj) h1 (hpre k r h2)
    · have := hro r (List.mem_of_getElem? (hreg k r hr).2); rw [this] at ho; cases ho
    · have := hro r (List.mem_of_getElem? (hreg k r hr).2); rw [this] at ho; cases ho
  refine (hgo n w.heap.size w ρ w ys hmem fun ρ' hag => Ts.rel_congr (fun j hj => hag j hj) hsc hys).mono ?_
  rintro e w' ⟨v, x, ρ', m', rfl, h1, h2, h3, h4, hend⟩
  obtain ⟨hs, hle, h5, h6⟩ := hend ()
  have hM := h3 ρ' (Agree.refl _ _)
  obtain ⟨h7, h8⟩ := h5.get
  have hnd := nodupB_spec h6
  have hpick : ∀ i k, hs[i]? = some k → pick hs i = k := fun i k hk => by simp [pick, hk]
  refine ⟨v, fun k => ρ' (pick hs k), rfl, X.rel_ren (hle.rel (h4 ρ' (Agree.refl _ _))), fun i r hr => ?_, fun i j hi hj hne n1 n2 => ?_, hM.below⟩
  · obtain ⟨k, z, g1, ⟨g2, g4⟩, g3⟩ := h8 i r hr
    have e := hpick i k g1
    have g3' := Reg.own_of_ownN g3
    refine ⟨reg_ren (by rw [e]; exact g4.ok (hM.regs _ _ g2)), g3', fun hn => ?_⟩
    have hn' : (ρ' k).nil = false := by rw [← e]; exact hn
    have := hM.base _ _ g2 (g4.own (by rw [Reg.ren_own]; exact g3')) hn'
    show w.heap.size ≤ (ρ' (pick hs i)).blk
    rw [e]; exact this
  · obtain ⟨k, z, g1, ⟨g2, g4⟩, g3⟩ := h8 i (post[i]'hi) (List.getElem?_eq_getElem hi)
    obtain ⟨k', z', q1, ⟨q2, q4⟩, q3⟩ := h8 j (post[j]'hj) (List.getElem?_eq_getElem hj)
    have e := hpick i k g1
    have e' := hpick j k' q1
    have hkk : k ≠ k' := by
      intro ek
      subst ek
      have i1 : i < hs.length := (List.getElem?_eq_some_iff.1 g1).1
      exact hne ((List.getElem?_inj i1 hnd).1 (g1.trans q1.symm))
    show (ρ' (pick hs i)).blk ≠ (ρ' (pick hs j)).blk
    have n1' : (ρ' (pick hs i)).nil = false := n1
    have n2' : (ρ' (pick hs j)).nil = false := n2
    rw [e] at n1' ⊢
    rw [e'] at n2' ⊢
    have g3' := Reg.own_of_ownN g3
    have q3' := Reg.live_of_own (Reg.own_of_ownN q3)
    exact hM.dist _ _ _ _ g2 q2 hkk (LeR.tied g4 q4 (by rw [Reg.ren_own]; exact g3') (by rw [Reg.ren_live]; exact q3') (by rw [tied_ren]; exact tied_of_ownN g3 _)) (g4.own (by rw [Reg.ren_own]; exact g3')) (q4.live (by rw [Reg.ren_live]; exact q3')) n1' n2'

/-! ### use of a contract -/

/-- One region may be read as another one says. -/
def Reads : Reg → Reg → Prop
  | .row xs sz _ _, .row xs' sz' _ false => xs = xs' ∧ sz = sz'
  | .box cells sz _, .row xs' sz' _ false => valsOf cells = some xs' ∧ sz = sz'
  | _, _ => False

theorem Reads.ok {ρ : Rho} {w : World} {h : Nat} {r r' : Reg} (hr : Reads r' r) (hk : RegOk ρ w h r') (i : Nat) (ρ2 : Rho) (he : ρ2 i = ρ h) : RegOk ρ2 w i r := by
  cases r with
  | row xs sz e own =>
    cases own with
    | true => cases r' <;> exact hr.elim
    | false =>
      cases r' with
      | row xs' sz' e' own' =>
        obtain ⟨rfl, rfl⟩ := hr
        obtain ⟨q1, q2⟩ := row_cell hk
        cases own' with
        | true =>
          obtain ⟨h1, h2, h3 | ⟨h3, h4, ys, h5, h6⟩⟩ := hk
          · exact ⟨by rw [he]; exact h1, h2, .inl (by rw [he]; exact h3)⟩
          · exact ⟨by rw [he]; exact h1, h2, .inr ⟨by rw [he]; exact h3, fun j x hx => by rw [he]; exact q2 j x hx⟩⟩
        | false =>
          obtain ⟨h1, h2, h3 | ⟨h3, h5⟩⟩ := hk
          · exact ⟨by rw [he]; exact h1, h2, .inl (by rw [he]; exact h3)⟩
          · exact ⟨by rw [he]; exact h1, h2, .inr ⟨by rw [he]; exact h3, fun j x hx => by rw [he]; exact h5 j x hx⟩⟩
      | box cells sz' e' =>
        obtain ⟨hv, rfl⟩ := hr
        obtain ⟨h1, h2, h3, ys, h4, h5⟩ := hk
        have := valsOf_rel hv h5
        subst this
        refine ⟨by rw [he]; exact h3.1, LRel.one h5, .inr ⟨by rw [he]; exact h1, fun j x hx => ?_⟩⟩
        rw [he]
        simp [World.cell?, h4, h2, hx]
      | obj o => exact hr.elim
      | loop => exact hr.elim
      | srow => exact hr.elim
      | slot => exact hr.elim
      | iter => exact hr.elim
      | gone => exact hr.elim
  | box => cases r' <;> exact hr.elim
  | srow => cases r' <;> exact hr.elim
  | slot => cases r' <;> exact hr.elim
  | iter => cases r' <;> exact hr.elim
  | obj => cases r' <;> exact hr.elim
  | loop => cases r' <;> exact hr.elim
  | gone => cases r' <;> exact hr.elim

def PreOk (m : M) : List Nat → List Reg → Prop
  | [], [] => True
  | h :: hs, r :: rs => (∃ r', m.reg h = some r' ∧ Reads r' r) ∧ PreOk m hs rs
  | _, _ => False

theorem PreOk.get {m : M} : ∀ {hs : List Nat} {rs : List Reg}, PreOk m hs rs → ∀ (i : Nat) (r : Reg), rs[i]? = some r → ∃ h r', hs[i]? = some h ∧ m.reg h = some r' ∧ Reads r' r
  | [], [], _, i, r, hr => by simp at hr
  | h :: hs, r :: rs, e, i, r0, hr => by
    cases i with
    | zero => simp at hr; subst hr; obtain ⟨r', h1, h2⟩ := e.1; exact ⟨h, r', rfl, h1, h2⟩
    | succ i => obtain ⟨k, r', g1, g2⟩ := PreOk.get e.2 i r0 (by simpa using hr); exact ⟨k, r', by simpa using g1, g2⟩

def shiftRegs (nh : Nat) : List Reg → Nat → List (Nat × Reg)
  | [], _ => []
  | r :: l, i => (nh + i, r.ren fun h => nh + h) :: shiftRegs nh l (i + 1)

theorem shiftRegs_get (nh : Nat) : ∀ (l : List Reg) (i h : Nat) (r : Reg), regGet (shiftRegs nh l i) h = some r → ∃ j r0, h = nh + (i + j) ∧ l[j]? = some r0 ∧ r = r0.ren fun h => nh + h
  | [], _, _, _, e => by simp [shiftRegs, regGet] at e
  | x :: l, i, h, r, e => by
    simp only [shiftRegs, regGet, cond_eq_ite] at e
    split at e
    · rename_i he; cases e; exact ⟨0, x, (Nat.eq_of_beq_eq_true he).symm, rfl, rfl⟩
    · obtain ⟨j, r0, h1, h2, h3⟩ := shiftRegs_get nh l (i + 1) h r e; exact ⟨j + 1, r0, by omega, by simpa using h2, h3⟩

theorem S.rel_unren {ρ : Rho} {θ : Nat → Nat} {s : S} {y : Value} (h : s.Rel (fun k => ρ (θ k)) y) : (s.ren θ).Rel ρ y := by
  cases s with
  | fn f caps => simp only [S.ren, S.Rel, List.map_map] at h ⊢; exact h
  | _ => exact h

theorem L.rel_unren {ρ : Rho} {θ : Nat → Nat} : ∀ {l : List S} {ys : List Value}, LRel (fun k => ρ (θ k)) l ys → LRel ρ (renL θ l) ys
  | [], [], _ => trivial
  | x :: l, y :: ys, h => ⟨S.rel_unren h.1, L.rel_unren h.2⟩

theorem T.rel_unren {ρ : Rho} {θ : Nat → Nat} {t : T} {y : Value} (h : t.Rel (fun k => ρ (θ k)) y) : (t.ren θ).Rel ρ y := by
  cases t with
  | one s => exact S.rel_unren h
  | agg l => obtain ⟨ys, rfl, hl⟩ := h; exact ⟨ys, rfl, L.rel_unren hl⟩

theorem Ts.rel_unren {ρ : Rho} {θ : Nat → Nat} : ∀ {l : List T} {ys : List Value}, TsRel (fun k => ρ (θ k)) l ys → TsRel ρ (renTs θ l) ys
  | [], [], _ => trivial
  | x :: l, y :: ys, h => ⟨T.rel_unren h.1, Ts.rel_unren h.2⟩

theorem X.rel_unren {ρ : Rho} {θ : Nat → Nat} {x : X} {y : Value} (h : x.Rel (fun k => ρ (θ k)) y) : (x.ren θ).Rel ρ y := by
  cases x with
  | t t => exact T.rel_unren h
  | tup l => obtain ⟨ys, rfl, hl⟩ := h; exact ⟨ys, rfl, Ts.rel_unren hl⟩
  | unk => trivial

theorem Env.get_unren {θ : Nat → Nat} : ∀ {env : Env} {k : Nat} {x : X}, (env.ren θ).get k = some x → ∃ x', env.get k = some x' ∧ x = x'.ren θ
  | [], _, _, h => by simp [Env.ren, Env.get] at h
  | (j, y) :: env, k, x, h => by
    simp only [Env.get, Env.ren, cond_eq_ite] at h ⊢
    split at h
    · rename_i he; rw [if_pos he]; cases h; exact ⟨y, rfl, rfl⟩
    · rename_i he; rw [if_neg he]; exact Env.get_unren h

theorem reg_unren {ρ : Rho} {θ : Nat → Nat} {w : World} {h : Nat} {r : Reg} (hr : RegOk (fun k => ρ (θ k)) w h r) : RegOk ρ w (θ h) (r.ren θ) := by
  cases r with
  | box cells sz et =>
    obtain ⟨h1, h2, h3, ys, h4, h5⟩ := hr
    exact ⟨h1, h2, by rw [renL_length]; exact h3, ys, h4, L.rel_unren h5⟩
  | row xs sz et own => cases own <;> exact hr
  | obj o => exact hr
  | loop nt env ps a b st pe hd =>
    obtain ⟨g1, r, g2, g3, g4, g5, g6, g7, g8, g9, g10⟩ := hr
    refine ⟨g1, r, g2, g3, g4, g5, g6, g7, g8, g9, fun k x hk => ?_⟩
    obtain ⟨x', h1, rfl⟩ := Env.get_unren hk
    obtain ⟨y, h2, h3⟩ := g10 k x' h1
    exact ⟨y, h2, X.rel_unren h3⟩
  | srow cells sz et =>
    obtain ⟨h1, h2, h3, ys, zs, h4, h5, h6, h7⟩ := hr
    exact ⟨h1, h2, h3, ys, zs, h4, h5, h6, L.rel_unren h7⟩
  | slot mh key val =>
    obtain ⟨h1, h2, es, c, h3, h4, h5⟩ := hr
    refine ⟨h1, h2, es, c, h3, h4, ?_⟩
    cases key with
    | none => trivial
    | some j =>
      cases val with
      | none => exact h5
      | some s => obtain ⟨y, h6, h7⟩ := h5; exact ⟨y, h6, S.rel_unren h7⟩
  | iter mh a b c => exact hr
  | gone => trivial

def scRegs (n : Nat) : List Reg → Bool
  | [] => true
  | r :: l => bif r.sc n then scRegs n l else false

theorem scRegs_spec {n : Nat} : ∀ {l : List Reg}, scRegs n l = true → ∀ r ∈ l, r.sc n = true
  | [], _ => by simp
  | r :: l, h => by
    simp only [scRegs, cond_eq_ite] at h
    split at h
    · rename_i h1
      intro x hx
      rcases List.mem_cons.1 hx with rfl | hx
      · exact h1
      · exact scRegs_spec h x hx
    · cases h

/-- **A call, by its contract.** -/
theorem CallCon.use {P : Program} {f : FuncId} {args args' : List T} {pre : List Reg} {res : X} {post : List Reg} {m : M} {K : X → M → Prop} (h : CallCon P f args pre res post) (hs : List Nat)
    (hargs : LeTs args' (renTs (pick hs) args)) (hpre : PreOk m hs pre) (hsc : (res.sc post.length && scRegs post.length post) = true)
    (hK : forceX (res.ren fun k => m.nh + k) fun x => forceRs (shiftRegs m.nh post 0) fun rs => forceN (m.nh + post.length) fun nh => m.cs fun regs _ ds => appR rs regs fun l => K x { regs := l, nh := nh, ds := ds }) : SCall P f args' m K := by
  rw [forceX_eq, forceRs_eq, forceN_eq, M.cs_eq, appR_eq] at hK
  rw [Bool.and_eq_true] at hsc
  refine ⟨h.ent, fun n B w0 ρ w ys hm hys => ?_⟩
  have hM := hm ρ (Agree.refl _ _)
  refine (h.go n (fun k => ρ (pick hs k)) w ys (fun i r hr => ?_) (Ts.rel_ren (LeTs.rel hargs (hys ρ (Agree.refl _ _))))).mono ?_
  · obtain ⟨k, r', g1, g2, g3⟩ := hpre.get i r hr
    exact g3.ok (hM.regs _ _ g2) i _ (by simp [pick, g1])
  rintro e w' ⟨v, ρ', rfl, h1, h2, h3, h4⟩
  let ρc : Rho := fun k => if k < m.nh then ρ k else ρ' (k - m.nh)
  have hc1 : ∀ k, k < m.nh → ρc k = ρ k := fun k hk => by simp [ρc, hk]
  have hc2 : ∀ k, ρc (m.nh + k) = ρ' k := fun k => by
    show (if m.nh + k < m.nh then ρ (m.nh + k) else ρ' (m.nh + k - m.nh)) = ρ' k
    rw [if_neg (by omega), Nat.add_sub_cancel_left]
  refine ⟨v, _, ρc, _, rfl, fun k hk => hc1 k hk, Nat.le_add_right _ post.length, fun ρ'' hag => ?_, fun ρ'' hag => ?_, hK⟩
  · have a1 : ∀ k, k < m.nh → ρ'' k = ρ k := fun k hk => (hag k (by unfold Lex; show k < m.nh + post.length; omega)).trans (hc1 k hk)
    have a2 : ∀ k, k < post.length → ρ'' (m.nh + k) = ρ' k := fun k hk => (hag (m.nh + k) (by unfold Lex; show m.nh + k < m.nh + post.length; omega)).trans (hc2 k)
    have hM' := hm ρ'' fun k hk => a1 k hk
    have hreg : ∀ k r, M.reg { regs := shiftRegs m.nh post 0 ++ m.regs, nh := m.nh + post.length, ds := m.ds } k = some r →
        (∃ j r0, k = m.nh + j ∧ j < post.length ∧ post[j]? = some r0 ∧ r = r0.ren fun h => m.nh + h) ∨ m.reg k = some r := by
      intro k r hr
      simp only [M.reg, regGet_append_left] at hr
      rcases Option.or_eq_some_iff.1 hr with hr | ⟨_, hr⟩
      · obtain ⟨j, r0, g1, g2, g3⟩ := shiftRegs_get _ _ _ _ _ hr
        exact .inl ⟨j, r0, by omega, (List.getElem?_eq_some_iff.1 g2).1, g2, g3⟩
      · exact .inr hr
    have hold : ∀ k r, m.reg k = some r → RegOk ρ'' w' k r := fun k r hr => (hM'.regs _ _ hr).same (fun hn hl => h4.block _ ((hM'.regs _ _ hr).lt hn hl)) h4.size
    have hnew : ∀ j r0, j < post.length → post[j]? = some r0 → RegOk ρ'' w' (m.nh + j) (r0.ren fun h => m.nh + h) := fun j r0 hj hr =>
      reg_unren (θ := fun h => m.nh + h) (reg_congr (n := post.length) (scRegs_spec hsc.2 r0 (List.mem_of_getElem? hr)) (fun k hk => a2 k hk) hj (h2 j r0 hr).1)
    have hBs : B ≤ w.heap.size := Nat.le_trans hM.hB hM.below.size
    refine ⟨fun k r hr => ?_, fun k k' r r' hr hr' hne ht ho hl n1 n2 => ?_, fun k r hr ho hn => ?_, hM.below.trans (h4.mono hBs), hM.hB⟩
    · rcases hreg k r hr with ⟨j, r0, rfl, hj, g1, rfl⟩ | hr
      · exact hnew j r0 hj g1
      · exact hold k r hr
    · rcases hreg k r hr with ⟨j, r0, rfl, hj, g1, rfl⟩ | hr <;> rcases hreg k' r' hr' with ⟨j', r0', rfl, hj', g1', rfl⟩ | hr'
      · rw [a2 j hj] at n1 ⊢
        rw [a2 j' hj'] at n2 ⊢
        exact h3 j j' hj hj' (by omega) n1 n2
      · have := (h2 j r0 g1).2.2
        rw [a2 j hj] at n1 ⊢
        have h5 := this n1
        have h6 := (hM'.regs _ _ hr').lt n2 hl
        omega
      · have := (h2 j' r0' g1').2.2
        rw [a2 j' hj'] at n2 ⊢
        have h5 := this n2
        have h6 := (hM'.regs _ _ hr).lt n1 (Reg.live_of_own ho)
        omega
      · exact hM'.dist _ _ _ _ hr hr' hne ht ho hl n1 n2
    · rcases hreg k r hr with ⟨j, r0, rfl, hj, g1, rfl⟩ | hr
      · rw [a2 j hj] at hn ⊢
        exact Nat.le_trans hBs ((h2 j r0 g1).2.2 hn)
      · exact hM'.base _ _ hr ho hn
  · refine X.rel_unren (θ := fun k => m.nh + k) (X.rel_congr (n := post.length) hsc.1 (fun k hk => ?_) h1)
    show ρ'' (m.nh + k) = ρ' k
    exact (hag (m.nh + k) (by unfold Lex; show m.nh + k < m.nh + post.length; omega)).trans (hc2 k)

end Go.SE

namespace Go.SE
open Go Go.RowKit
variable {P : Program}

def handleOf : S → List Nat
  | .ptr h _ => [h]
  | .pts h _ => [h]
  | .sl h _ _ => [h]
  | _ => []

def needOps (op : Op) : List Operand :=
  match op with
  | .load _ a => [a]
  | .store _ a _ => [a]
  | .indexAddr _ x _ => [x]
  | .slice _ x _ _ _ => [x]
  | .binOp _ _ x _ _ => [x]
  | .convert _ _ x => [x]
  | .call c => c.args.toList
  | _ => []

def needs (env : Env) : List Operand → List Nat
  | [] => []
  | x :: l => (match evs env x with | some s => handleOf s | none => []) ++ needs env l

/-- The handles that an operation looks at. -/
def needsOp (env : Env) (op : Op) : List Nat :=
  match op with
  | .insert _ mp k _ => (match evs env mp, keyOf? env k with | some (.mp h), some j => [h + j] | _, _ => [])
  | .lookup _ mp _ _ => (match evs env mp with | some (.mp h) => [h, h + 1, h + 2, h + 3, h + 4, h + 5, h + 6, h + 7] | _ => [])
  | .mapUpdate _ mp _ _ => (match evs env mp with | some (.mp h) => [h] | _ => [])
  | op => needs env (needOps op)

theorem needs_mem {env : Env} {l : List Operand} {x : Operand} {s : S} {h : Nat} (hx : x ∈ l) (hs : evs env x = some s) (hh : h ∈ handleOf s) : h ∈ needs env l := by
  induction l with
  | nil => cases hx
  | cons y l ih =>
    simp only [needs, List.mem_append]
    rcases List.mem_cons.1 hx with rfl | hx
    · left; rw [hs]; exact hh
    · exact .inr (ih hx)

section
variable {env env' : Env} {m m' : M}

theorem evs_congr {x : Operand} (h : ev env x = ev env' x) : evs env x = evs env' x := by unfold evs; rw [h]
theorem evt_congr {x : Operand} (h : ev env x = ev env' x) : evt env x = evt env' x := by unfold evt; rw [h]

theorem evParts_congr : ∀ {l : List (Nat × Operand)}, (∀ p ∈ l, ev env p.2 = ev env' p.2) → evParts env l = evParts env' l
  | [], _ => rfl
  | (i, o) :: l, h => by
    unfold evParts
    rw [evt_congr (h (i, o) (by simp)), evParts_congr fun p hp => h p (by simp [hp])]

theorem evArgs_congr : ∀ {l : List Operand}, (∀ p ∈ l, ev env p = ev env' p) → evArgs env l = evArgs env' l
  | [], _ => rfl
  | o :: l, h => by
    unfold evArgs
    rw [evt_congr (h o (by simp)), evArgs_congr fun p hp => h p (by simp [hp])]

theorem ptrs_congr : ∀ {l : List Operand}, (∀ p ∈ l, ev env p = ev env' p) → ptrs l env = ptrs l env'
  | [], _ => rfl
  | o :: l, h => by
    unfold ptrs
    rw [evs_congr (h o (by simp)), ptrs_congr fun p hp => h p (by simp [hp])]

theorem doBin_congr (hnh : m.nh = m'.nh) (op : BinOp) (t : TypeId) (x y : S) (hr : ∀ h ∈ handleOf x, m.reg h = m'.reg h) : doBin P op m t x y = doBin P op m' t x y := by
  have hn : doNil P op m t x y = doNil P op m' t x y := by
    unfold doNil
    split
    · rfl
    · split
      · rename_i h _ _ _; rw [hr h (by simp [handleOf])]; simp only [boolRes, valEff, hnh]
      all_goals simp only [boolRes, valEff, hnh]
  simp only [doBin, doInt, doBool, doStr, hn, boolRes, valI_eq, valEff, hnh]

theorem doEq_congr (hnh : m.nh = m'.nh) (op : BinOp) (t : TypeId) (x y : List S) : doEq P op m t x y = doEq P op m' t x y := by
  simp only [doEq, boolEff, hnh]

theorem ownVals_congr {sz : Nat} {e : TypeId} {s : S} (h : ∀ h ∈ handleOf s, m.reg h = m'.reg h) : ownVals m sz e s = ownVals m' sz e s := by
  unfold ownVals
  split
  · rfl
  · rename_i hh len; rw [h hh (by simp [handleOf])]
  · rfl

theorem givesOf_congr {sz : Nat} {s : S} (h : ∀ h ∈ handleOf s, m.reg h = m'.reg h) : givesOf m sz s = givesOf m' sz s := by
  unfold givesOf
  split
  · rfl
  · rfl
  · rename_i hh off len; rw [h hh (by simp [handleOf])]
  · rfl

theorem needsOp_mem {op : Op} {x : Operand} {s : S} {h : Nat} (hx : x ∈ needOps op) (hs : evs env x = some s) (hh : h ∈ handleOf s) : h ∈ needsOp env op := by
  cases op <;> first | exact needs_mem hx hs hh | (simp [needOps] at hx)

theorem cAppendS_congr {e sz by_ : Nat} {vs vx : S} (hnh : m.nh = m'.nh) (h1 : ∀ h ∈ handleOf vs, m.reg h = m'.reg h) (h2 : ∀ h ∈ handleOf vx, m.reg h = m'.reg h) : cAppendS m e sz by_ vs vx = cAppendS m' e sz by_ vs vx := by
  unfold cAppendS
  split
  · rename_i h n
    rw [h1 h (by simp [handleOf])]
    split
    · congr 1
      split
      · simp only [valEff, hnh]
      · rename_i h2' k
        rw [h2 h2' (by simp [handleOf]), hnh]
      · rfl
    · congr 1
      split
      · rename_i h2' k
        rw [h2 h2' (by simp [handleOf]), hnh]
      · rfl
    · rfl
  · split
    · rename_i h2' k
      rw [h2 h2' (by simp [handleOf]), hnh]
    · rfl
  · rfl

theorem lookAt_congr {e h : Nat} (hr : ∀ i, i ≤ 7 → m.reg (h + i) = m'.reg (h + i)) (j : Option Nat) (hj : ∀ i, j = some i → i ≤ 7) : lookAt P m e h j = lookAt P m' e h j := by
  cases j with
  | none => simp only [lookAt]; rw [show m.reg h = m'.reg h from hr 0 (by omega)]
  | some i => simp only [lookAt]; rw [hr i (hj i rfl)]

theorem classify_congr {o : Oper} (hev : ∀ x ∈ o.op.operands, ev env x = ev env' x) (hreg : ∀ h ∈ needsOp env' o.op, m.reg h = m'.reg h) (hnh : m.nh = m'.nh) : classify P o env m = classify P o env' m' := by
  have hr : ∀ {x : Operand} {s : S}, x ∈ needOps o.op → evs env' x = some s → ∀ h ∈ handleOf s, m.reg h = m'.reg h := fun hx hs h hh => hreg h (needsOp_mem hx hs hh)
  unfold classify
  cases ho : o.op <;> rw [ho] at hev hr <;> simp only [Op.operands, List.mem_toArray] at hev <;> simp only
  case move x => simp only [cMove, hev x (by simp), valEff, hnh]
  case assign x => simp only [cMove, hev x (by simp), valEff, hnh]
  case pick c a b => simp only [cPick, evs_congr (hev c (by simp)), evt_congr (hev a (by simp)), evt_congr (hev b (by simp)), valI_eq, valEff, hnh]
  case box e x => simp only [cBox, newBox, evt_congr (hev x (by simp)), hnh]
  case alloc e => simp only [cAlloc, newBox, hnh]
  case build t ps => simp only [cBuild, evParts_congr (fun p hp => hev p.2 (by simp only [List.mem_map]; exact ⟨p, hp, rfl⟩)), valI_eq, valEff, hnh]
  case buildSlice t len ps => simp only [cBuildSlice, evParts_congr (fun p hp => hev p.2 (by simp only [List.mem_map]; exact ⟨p, hp, rfl⟩)), hnh]
  case load t a =>
    have h1 := evs_congr (hev a (by simp))
    unfold cLoad
    rw [h1]
    split
    · rename_i h k hs; rw [hr (x := a) (by simp [needOps]) hs h (by simp [handleOf])]; simp only [valI_eq, valEff, hnh]
    · rename_i h k hs; rw [hr (x := a) (by simp [needOps]) hs h (by simp [handleOf])]; simp only [valI_eq, valEff, hnh]
    · rfl
  case store t a x =>
    have h1 := evs_congr (hev a (by simp))
    unfold cStore
    rw [h1, evt_congr (hev x (by simp))]
    split
    · rename_i h k v d hs hv hd; rw [hr (x := a) (by simp [needOps]) hs h (by simp [handleOf]), hnh]
    · rename_i h k v d hs hv hd; rw [hr (x := a) (by simp [needOps]) hs h (by simp [handleOf]), hnh]
    · rfl
  case fieldAddr t x i => simp only [cFieldAddr, evs_congr (hev x (by simp)), valI_eq, valEff, hnh]
  case indexAddr t x i =>
    have h1 := evs_congr (hev x (by simp))
    have key : ∀ h off len, evs env' x = some (.sl h off len) → m.reg h = m'.reg h := fun h off len hs => hr (x := x) (by simp [needOps]) hs h (by simp [handleOf])
    unfold cIndexAddr
    rw [h1, evs_congr (hev i (by simp))]
    cases hx : evs env' x with
    | none => simp only [valI_eq, valEff, hnh]
    | some s =>
      cases s with
      | sl h off len => simp only [key h off len hx, valI_eq, valEff, hnh]
      | _ => simp only [valI_eq, valEff, hnh]
  case binOp op t x y t2 =>
    unfold cBin
    rw [evt_congr (hev x (by simp)), evt_congr (hev y (by simp))]
    split
    · rename_i a b ha hb
      refine doBin_congr hnh _ _ _ _ (hr (x := x) (by simp [needOps]) ?_)
      unfold evs; unfold evt at ha
      split at ha
      · rename_i hq; cases ha; rw [hq]
      · cases ha
    · exact doEq_congr hnh _ _ _ _
    · rfl
  case unOp op t x => simp only [cUn, cXor, cNeg, evs_congr (hev x (by simp)), valI_eq, valEff, hnh]
  case makeSlice t l c => simp only [cMakeSlice, evs_congr (hev l (by simp)), evs_congr (hev c (by simp)), growEff, hnh]
  case index t x i => simp only [cIndex, evt_congr (hev x (by simp)), evs_congr (hev i (by simp)), valI_eq, valEff, hnh]
  case convert s d x =>
    have h1 := evs_congr (hev x (by simp))
    unfold cConv cToString cConvert
    rw [h1]
    cases hx : evs env' x with
    | none => simp only [valI_eq, valEff, hnh]
    | some v =>
      simp only [givesOf_congr (hr (x := x) (by simp [needOps]) hx), valI_eq, valEff, hnh]
  case slice t x lo hi mx =>
    have h1 := evs_congr (hev x (by simp))
    have hlo : ∀ d, bound env d lo = bound env' d lo := by
      intro d
      cases lo with
      | none => rfl
      | some y => simp only [bound, evs_congr (hev y (by simp))]
    have hhi : ∀ d, bound env d hi = bound env' d hi := by
      intro d
      cases hi with
      | none => rfl
      | some y => simp only [bound, evs_congr (hev y (by simp))]
    unfold cSlice
    cases mx with
    | some c =>
      simp only [h1]
      cases hel : elemSlice P t with
      | none => rfl
      | some e =>
        cases hx : evs env' x with
        | none => rfl
        | some s =>
          cases lo with
          | some _ =>
            cases s <;> first
              | rfl
              | (rename_i h off len; cases off <;> rfl)
          | none =>
            cases hi with
            | none =>
              cases s <;> first
                | rfl
                | (rename_i h off len; cases off <;> rfl)
            | some y =>
              cases s with
              | sl h off len =>
                cases off with
                | zero => simp only [evs_congr (hev y (by simp)), evs_congr (hev c (by simp)), hr (x := x) (by simp [needOps]) hx h (by simp [handleOf]), valEff, hnh]
                | succ _ => rfl
              | _ => rfl
    | none =>
      simp only [h1, hlo, hhi]
      cases hel : elemSlice P t with
      | none =>
        cases hx : evs env' x with
        | none => rfl
        | some s =>
          cases s with
          | ptr h k => simp only [hr (x := x) (by simp [needOps]) hx h (by simp [handleOf]), hnh]
          | _ => rfl
      | some e =>
        cases hx : evs env' x with
        | none => rfl
        | some s =>
          cases s with
          | sl h off len =>
            have : slSz m h = slSz m' h := by unfold slSz; rw [hr (x := x) (by simp [needOps]) hx h (by simp [handleOf])]
            simp only [this, hnh]
          | v y =>
            split
            · rename_i heq; cases heq
            · simp only [hnh]
            · first
              | (rename_i heq _; cases heq; done)
              | (rename_i heq; cases heq; done)
            · rfl
          | _ => rfl
  case field t x i => simp only [cField, evt_congr (hev x (by simp)), valEff, hnh]
  case makeFunc fn first caps =>
    have hfst : ∀ p ∈ first.toList, evs env p = evs env' p := fun p hp => evs_congr (hev p (by simp; exact .inl (by simpa using hp)))
    unfold cMakeFunc
    rw [ptrs_congr (l := caps.toList) (fun p hp => hev p (by simp; exact .inr (by simpa using hp)))]
    split
    · simp only [valEff, hnh]
    · rename_i f x h1 h2
      rw [hfst x (by rw [h1]; simp)]
      simp only [valEff, hnh]
    · rfl
  case nilCheck x => simp only [cNilCheck, evs_congr (hev x (by simp)), valEff, hnh]
  case extract t i => simp only [cExtract, hev t (by simp), valI_eq, valEff, hnh]
  case makeMap t r => simp only [cMakeMap, cMakeMapO, hnh]
  case mapUpdate t mp k v =>
    have e1 := evs_congr (hev mp (by simp))
    have hreg' : ∀ h, evs env' mp = some (.mp h) → m.reg h = m'.reg h := fun h q1 => hreg _ (by
      rw [ho]
      simp only [needsOp, q1, List.mem_cons]
      simp)
    unfold cMapUpdate
    rw [e1, evs_congr (hev v (by simp)), evt_congr (hev k (by simp))]
    split
    · rename_i h xs s h1 h2 h3 h4
      rw [hreg' h h2, hnh]
    · rfl
  case insert t mp k v =>
    have e1 := evs_congr (hev mp (by simp))
    have e2 := evs_congr (hev k (by simp))
    have e3 : keyOf? env k = keyOf? env' k := by unfold keyOf?; rw [e2]
    have hreg' : ∀ h j, evs env' mp = some (.mp h) → keyOf? env' k = some j → m.reg (h + j) = m'.reg (h + j) := fun h j q1 q2 => hreg _ (by rw [ho]; simp [needsOp, q1, q2])
    unfold cInsert
    rw [e1, e3, evs_congr (hev v (by simp))]
    split
    · rename_i h j s h1 h2 h3 h4
      rw [hreg' h j h2 h3, hnh]
    · rfl
  case lookup t mp k c =>
    have e1 := evs_congr (hev mp (by simp))
    have hreg' : ∀ h, evs env' mp = some (.mp h) → ∀ i, i ≤ 7 → m.reg (h + i) = m'.reg (h + i) := fun h q1 i hi => hreg _ (by
      rw [ho]
      simp only [needsOp, q1, List.mem_cons]
      omega)
    unfold cLookup
    rw [e1, evs_congr (hev k (by simp))]
    congr 1
    · unfold cLookupO
      rw [e1, evt_congr (hev k (by simp))]
      split
      · rename_i h xs h1 h2 h3
        rw [show m.reg h = m'.reg h from hreg' h h2 0 (by omega), hnh]
      · rfl
    split
    · rename_i e h s h1 h2 h3
      have hh := hreg' h h2
      split
      · split
        · rename_i n hn
          cases hb : Nat.blt n 7 with
          | true =>
            have hb : n < 7 := Nat.le_of_ble_eq_true hb
            simp only [cond_true, lookAt_congr hh (some (n + 1)) (fun i q => by cases q; omega), valEff, hnh]
          | false => simp only [cond_false, lookAt_congr hh none (fun i q => by cases q), valEff, hnh]
        · simp only [lookAt_congr hh none (fun i q => by cases q), valEff, hnh]
      · rename_i i hs
        have : (fun p : Option Nat × Eff => keySays i p.1 ∧ lookEff P m e h p.1 = some p.2) = fun p : Option Nat × Eff => keySays i p.1 ∧ lookEff P m' e h p.1 = some p.2 := by
          funext p
          refine propext (and_congr_right fun hk => ?_)
          have : lookAt P m e h p.1 = lookAt P m' e h p.1 := lookAt_congr hh _ fun i' q => by
            rw [q] at hk; exact hk.2.2
          unfold lookEff
          rw [this, hnh]
        rw [this]
      · rfl
    · rfl
  case call c =>
    have ha : ∀ x ∈ c.args.toList, ev env x = ev env' x := fun x hx => hev x (by simp only [Call.operands, Array.mem_append]; exact .inr (Array.mem_toList_iff.1 hx))
    unfold cCall
    split
    · rename_i f hf
      rw [evs_congr (hev f (by simp [Call.operands, hf])), evArgs_congr ha]
    · unfold cLen
      split
      · rename_i x e hx he
        have hx' : x ∈ c.args.toList := by rw [hx]; simp
        rw [evs_congr (ha x hx')]
        split
        · rename_i h off len hs
          rw [hr (x := x) (by simpa [needOps] using hx') hs h (by simp [handleOf])]
          simp only [valI_eq, valEff, hnh]
        · simp only [valI_eq, valEff, hnh]
        · simp only [valI_eq, valEff, hnh]
        · rfl
      · rfl
    · unfold cAppend
      split
      · rename_i s x t t' hx ht
        have hs' : s ∈ c.args.toList := by rw [hx]; simp
        have hx' : x ∈ c.args.toList := by rw [hx]; simp
        rw [evs_congr (ha s hs'), evs_congr (ha x hx')]
        cases hb : Nat.beq t t' with
        | false => rfl
        | true =>
          simp only [cond_true]
          cases elemInfo P t with
          | none => rfl
          | some el =>
            obtain ⟨e, sz, by_⟩ := el
            cases h1 : evs env' s with
            | none => rfl
            | some vs =>
              cases h2 : evs env' x with
              | none => rfl
              | some vx =>
                simp only [ownVals_congr (hr (x := s) (by simpa [needOps] using hs') h1), givesOf_congr (hr (x := x) (by simpa [needOps] using hx') h2), cAppendS_congr hnh (hr (x := s) (by simpa [needOps] using hs') h1) (hr (x := x) (by simpa [needOps] using hx') h2), growEff, hnh]
      · rfl
    · unfold cCopy
      split
      · rename_i d s t t' hx ht
        have hd' : d ∈ c.args.toList := by rw [hx]; simp
        have hs' : s ∈ c.args.toList := by rw [hx]; simp
        rw [evs_congr (ha d hd'), evs_congr (ha s hs')]
        cases elemInfo P t with
        | none => rfl
        | some el =>
          obtain ⟨e, sz, by_⟩ := el
          cases h1 : evs env' d with
          | none => rfl
          | some vd =>
            cases h2 : evs env' s with
            | none => cases vd <;> rfl
            | some vs =>
              have e1 : ∀ h off len, vd = .sl h off len → rowOf m h = rowOf m' h := fun h off len e => by
                unfold rowOf
                rw [hr (x := d) (by simpa [needOps] using hd') h1 h (by rw [e]; simp [handleOf])]
              cases vd with
              | sl h off len => simp only [e1 h off len rfl, givesOf_congr (hr (x := s) (by simpa [needOps] using hs') h2), hnh]
              | _ => rfl
      · rfl
    · unfold cMinMax
      split
      · rename_i x y hx
        rw [evs_congr (ha x (by rw [hx]; simp)), evs_congr (ha y (by rw [hx]; simp))]
        simp only [valI_eq, valEff, hnh]
      · rfl
    · unfold cMinMax
      split
      · rename_i x y hx
        rw [evs_congr (ha x (by rw [hx]; simp)), evs_congr (ha y (by rw [hx]; simp))]
        simp only [valI_eq, valEff, hnh]
      · rfl
    · rfl
end

end Go.SE

namespace Go.SE
open Go Go.RowKit

/-- What is known of slots and regions, as functions. -/
structure Fs where
  e : Nat → Option X
  r : Nat → Option Reg

/-- One operation of a region that draws its order, as it was carried out in the order of the text. -/
structure Rec where
  idx : Nat
  o : Oper
  looks : List Nat
  need : List Nat
  val : X
  regs : List (Nat × Reg)
  lo : Nat
  hi : Nat

def Rec.app (r : Rec) (σ : Fs) : Fs := ⟨fun k => if r.o.dst = some k then some r.val else σ.e k, fun h => (regGet r.regs h).or (σ.r h)⟩

def Rec.inNew (r : Rec) (h : Nat) : Prop := r.lo ≤ h ∧ h < r.hi

structure Agrees (r : Rec) (σ : Fs) (env : Env) (m : M) : Prop where
  ce : ∀ k ∈ r.looks, env.get k = σ.e k
  cr : ∀ h ∈ r.need, m.reg h = σ.r h
  nh : m.nh = r.lo

/-- What an operation comes to, whatever else is known. -/
def OpDo (C : Ctx) (ops : Array Oper) (o : Oper) (env : Env) (m : M) (val : X) (regs : List (Nat × Reg)) (hi : Nat) : Prop :=
  m.nh ≤ hi ∧ ∀ (F : Fence) (_ : ∃ ρ, F = C.fen ρ) (n B : Nat) (w0 : World) (D : Nat → Prop) (ρ : Rho) (a : Act) (w : World) (Q : Exit → Act → World → Prop) (K : Act → World → Prop),
    (∀ h, m.nh ≤ h ∧ h < hi → ¬ D h) → Ok C.P C.nt B w0 D ρ env m a w →
    (∀ ρ' a' w', Agree D ρ ρ' → a'.defers = a.defers → Ok C.P C.nt B w0 (fun h => D h ∨ (m.nh ≤ h ∧ h < hi)) ρ' (putEnv env o.dst val) ⟨regs ++ m.regs, hi, m.ds⟩ a' w' → K a' w') →
    if Region.wanted o (yielded ops a.tmps) = true then o.wpIn F n C.P a w K Q else (∀ f, o.about C.P w a.eval = some f → F.fn f) ∧ K (a.put o.dst undef) w

def Rec.Valid (C : Ctx) (ops : Array Oper) (r : Rec) (σ : Fs) : Prop := ∀ env m, Agrees r σ env m → OpDo C ops r.o env m r.val r.regs r.hi

variable {C : Ctx} {ops : Array Oper}

theorem Rec.Valid.congr {r : Rec} {σ σ' : Fs} (h : r.Valid C ops σ) (he : ∀ k ∈ r.looks, σ'.e k = σ.e k) (hr : ∀ k ∈ r.need, σ'.r k = σ.r k) : r.Valid C ops σ' :=
  fun env m hag => h env m ⟨fun k hk => (hag.ce k hk).trans (he k hk), fun k hk => (hag.cr k hk).trans (hr k hk), hag.nh⟩

def LexOk (C : Ctx) (ops : Array Oper) : Fs → List Rec → Prop
  | _, [] => True
  | σ, r :: l => r.Valid C ops σ ∧ LexOk C ops (r.app σ) l

def endOf : Fs → List Rec → Fs
  | σ, [] => σ
  | σ, r :: l => endOf (r.app σ) l

structure Indep (x y : Rec) : Prop where
  d1 : ∀ k, x.o.dst = some k → k ∉ y.looks
  d2 : ∀ k, y.o.dst = some k → k ∉ x.looks
  d3 : ∀ k, x.o.dst = some k → y.o.dst = some k → False
  w1 : ∀ h, (regGet x.regs h).isSome = true → h ∉ y.need
  w2 : ∀ h, (regGet y.regs h).isSome = true → h ∉ x.need
  w3 : ∀ h, (regGet x.regs h).isSome = true → (regGet y.regs h).isSome = true → False

theorem Indep.swap {x y : Rec} (h : Indep x y) (σ : Fs) : x.app (y.app σ) = y.app (x.app σ) := by
  unfold Rec.app
  congr 1
  · funext k
    simp only
    by_cases h1 : x.o.dst = some k <;> by_cases h2 : y.o.dst = some k
    · exact (h.d3 k h1 h2).elim
    · simp [h1, h2]
    · simp [h1, h2]
    · simp [h1, h2]
  · funext k
    simp only
    cases h1 : regGet x.regs k with
    | none => simp
    | some z =>
      cases h2 : regGet y.regs k with
      | none => simp
      | some z' => exact (h.w3 k (by simp [h1]) (by simp [h2])).elim

theorem Indep.e1 {x y : Rec} (h : Indep x y) (σ : Fs) : (∀ k ∈ y.looks, (x.app σ).e k = σ.e k) ∧ ∀ k ∈ y.need, (x.app σ).r k = σ.r k := by
  refine ⟨fun k hk => ?_, fun k hk => ?_⟩
  · simp only [Rec.app]
    rw [if_neg fun e => h.d1 k e hk]
  · simp only [Rec.app]
    cases h1 : regGet x.regs k with
    | none => simp
    | some z => exact (h.w1 k (by simp [h1]) hk).elim

theorem Indep.symm {x y : Rec} (h : Indep x y) : Indep y x := ⟨h.d2, h.d1, fun k a b => h.d3 k b a, h.w2, h.w1, fun k a b => h.w3 k b a⟩

theorem bubble {r : Rec} {l2 : List Rec} : ∀ (l1 : List Rec) {σ : Fs}, LexOk C ops σ (l1 ++ r :: l2) → (∀ x ∈ l1, Indep x r) →
    r.Valid C ops σ ∧ LexOk C ops (r.app σ) (l1 ++ l2) ∧ endOf (r.app σ) (l1 ++ l2) = endOf σ (l1 ++ r :: l2)
  | [], σ, h, _ => ⟨h.1, h.2, rfl⟩
  | x :: l1, σ, h, hi => by
    obtain ⟨h1, h2⟩ := h
    obtain ⟨h3, h4, h5⟩ := bubble l1 h2 fun y hy => hi y (by simp [hy])
    have hx := hi x (by simp)
    have e1 := hx.e1 σ
    have e2 := hx.symm.e1 σ
    refine ⟨h3.congr (fun k hk => (e1.1 k hk).symm) (fun k hk => (e1.2 k hk).symm), ⟨h1.congr e2.1 e2.2, ?_⟩, ?_⟩
    · rw [hx.swap]; exact h4
    · simp only [List.cons_append, endOf]
      rw [hx.swap]; exact h5

/-- The state is as the functions say. -/
def FOk (C : Ctx) (B : Nat) (w0 : World) (D : Nat → Prop) (ρ : Rho) (σ : Fs) (a : Act) (w : World) : Prop :=
  ∃ env regs, env.get = σ.e ∧ regGet regs = σ.r ∧ ∀ k ds, Ok C.P C.nt B w0 D ρ env ⟨regs, k, ds⟩ a w

theorem Ok.nh {P : Program} {nt B : Nat} {w0 : World} {D : Nat → Prop} {ρ : Rho} {env : Env} {regs : List (Nat × Reg)} {k k' : Nat} {ds ds' : List Dfr} {a : Act} {w : World} (h : Ok P nt B w0 D ρ env ⟨regs, k, ds⟩ a w) : Ok P nt B w0 D ρ env ⟨regs, k', ds'⟩ a w :=
  ⟨h.env, fun ρ' hag => ⟨(h.mem ρ' hag).regs, (h.mem ρ' hag).dist, (h.mem ρ' hag).base, (h.mem ρ' hag).below, (h.mem ρ' hag).hB⟩, h.size⟩

theorem Ok.dom {P : Program} {nt B : Nat} {w0 : World} {D D' : Nat → Prop} {ρ : Rho} {env : Env} {m : M} {a : Act} {w : World} (h : Ok P nt B w0 D ρ env m a w) (hd : ∀ k, D k → D' k) : Ok P nt B w0 D' ρ env m a w :=
  ⟨fun ρ' hag => h.env ρ' (hag.mono hd), fun ρ' hag => h.mem ρ' (hag.mono hd), h.size⟩

def Edge (x y : Rec) : Prop := ∃ e ∈ y.o.after, Region.binds .any e = true ∧ e.on = x.idx

structure Lot (ops : Array Oper) (l : List Rec) : Prop where
  op : ∀ r ∈ l, ops[r.idx]? = some r.o
  up : l.Pairwise fun x y => x.idx < y.idx
  pair : l.Pairwise fun x y => Indep x y ∨ Edge x y
  new : l.Pairwise fun x y => ∀ h, x.inNew h → ¬ y.inNew h
  back : ∀ r ∈ l, ∀ e ∈ r.o.after, Region.binds .any e = true → e.on < r.idx

theorem Lot.drop {l1 l2 : List Rec} {r : Rec} (h : Lot ops (l1 ++ r :: l2)) : Lot ops (l1 ++ l2) := by
  have hs : List.Sublist (l1 ++ l2) (l1 ++ r :: l2) := List.Sublist.append_left (List.sublist_cons_self _ _) _
  exact ⟨fun x hx => h.op x (hs.subset hx), h.up.sublist hs, h.pair.sublist hs, h.new.sublist hs, fun x hx => h.back x (hs.subset hx)⟩

theorem draw_any {F : Fence} (hF : ∃ ρ, F = C.fen ρ) {n B : Nat} {w0 : World} {Q : Exit → Act → World → Prop} : ∀ (k : Nat) (l : List Rec) (listed : Array Bool) (σ : Fs) (D : Nat → Prop) (ρ : Rho) (a : Act) (w : World), l.length = k → Lot ops l → LexOk C ops σ l →
    listed.size = ops.size → (∀ i, i < ops.size → (listed.getD i true = false ↔ ∃ r ∈ l, r.idx = i)) → (∀ r ∈ l, ∀ h, r.inNew h → ¬ D h) → FOk C B w0 D ρ σ a w →
    (∀ (D' : Nat → Prop) ρ' a' w', (∀ h, D' h ↔ D h ∨ ∃ r ∈ l, r.inNew h) → Agree D ρ ρ' → a'.defers = a.defers → FOk C B w0 D' ρ' (endOf σ l) a' w' → Q .normal a' w') →
    wpAnyIn F n C.P .any ops Q k listed a w := by
  intro k
  induction k with
  | zero =>
    intro l listed σ D ρ a w hk hl hlex hsz hlist hnew hok hQ
    obtain rfl := List.eq_nil_of_length_eq_zero hk
    refine ⟨?_, hQ D ρ a w (fun h => by simp) (Agree.refl _ _) rfl hok⟩
    refine List.eq_nil_iff_forall_not_mem.2 fun i hi => ?_
    obtain ⟨h1, o, ho, _⟩ := mem_ready.1 hi
    have := (hlist i (Array.getElem?_eq_some_iff.1 ho).1).1 h1
    simp at this
  | succ k ih =>
    intro l listed σ D ρ a w hk hl hlex hsz hlist hnew hok hQ
    have hget : ∀ i, i < ops.size → listed.getD i true = listed.getD i false := fun i hi => by
      have : i < listed.size := by omega
      simp [Array.getD, this]
    refine ⟨fun hr => ?_, fun i hi => ?_⟩
    · exfalso
      cases l with
      | nil => simp at hk
      | cons r l =>
        have hrop := hl.op r (by simp)
        have hrlt := (Array.getElem?_eq_some_iff.1 hrop).1
        have : r.idx ∈ Region.ready .any ops listed := by
          refine mem_ready.2 ⟨(hlist _ hrlt).2 ⟨r, by simp, rfl⟩, r.o, hrop, fun e he hb => ?_⟩
          have hlt := hl.back r (by simp) e he hb
          refine Classical.byContradiction fun hne => ?_
          have h0 : listed.getD e.on true = false := by rw [hget _ (by omega)]; simpa using hne
          obtain ⟨x, hx, hxi⟩ := (hlist _ (by omega)).1 h0
          rcases List.mem_cons.1 hx with rfl | hx
          · omega
          · have := (List.pairwise_cons.1 hl.up).1 x hx; omega
        rw [hr] at this; cases this
    · obtain ⟨h1, o, ho, hall⟩ := mem_ready.1 hi
      have hilt := (Array.getElem?_eq_some_iff.1 ho).1
      obtain ⟨r, hr, hri⟩ := (hlist i hilt).1 h1
      obtain ⟨l1, l2, rfl⟩ := List.append_of_mem hr
      have hro : ops[i]? = some r.o := by rw [← hri]; exact hl.op r hr
      have hind : ∀ x ∈ l1, Indep x r := by
        intro x hx
        have hxl : x ∈ l1 ++ r :: l2 := by simp [hx]
        rcases (List.pairwise_append.1 hl.pair).2.2 x hx r (by simp) with h | ⟨e, he, hb, heo⟩
        · exact h
        · exfalso
          rw [ho] at hro; cases hro
          have h2 := hall e he hb
          have hxlt := (Array.getElem?_eq_some_iff.1 (hl.op x hxl)).1
          have h3 := (hlist _ hxlt).2 ⟨x, hxl, rfl⟩
          rw [hget _ hxlt, ← heo, h2] at h3
          cases h3
      obtain ⟨hv, hlex', hend⟩ := bubble l1 hlex hind
      obtain ⟨env, regs, he, hregs, hok⟩ := hok
      obtain ⟨hle, hdo⟩ := hv env ⟨regs, r.lo, []⟩ ⟨fun k _ => by rw [he], fun k _ => by show regGet regs k = _; rw [hregs], rfl⟩
      unfold wpOpIn
      rw [hro]
      refine hdo F hF n B w0 D ρ a w Q _ (fun h hh => hnew r hr h hh) (hok r.lo []) fun ρ' a' w' hag hdef hok' => ?_
      refine ih (l1 ++ l2) (listed.setIfInBounds i true) (r.app σ) (fun h => D h ∨ r.inNew h) ρ' a' w' ?_ hl.drop hlex' (by simpa using hsz) ?_ ?_ ?_ ?_
      · simp at hk ⊢; omega
      · intro j hj
        by_cases hij : i = j
        · subst hij
          constructor
          · intro h
            have : i < listed.size := by omega
            simp [Array.getD, this] at h
          · rintro ⟨x, hx, hxi⟩
            exfalso
            rcases List.mem_append.1 hx with hx | hx
            · have := (List.pairwise_append.1 hl.up).2.2 x hx r (by simp); omega
            · have := (List.pairwise_cons.1 (List.pairwise_append.1 hl.up).2.1).1 x hx; omega
        · have : (listed.setIfInBounds i true).getD j true = listed.getD j true := getD_set_ne true hij
          rw [this, hlist j hj]
          constructor
          · rintro ⟨x, hx, hxi⟩
            refine ⟨x, ?_, hxi⟩
            rcases List.mem_append.1 hx with hx | hx
            · simp [hx]
            · rcases List.mem_cons.1 hx with rfl | hx
              · omega
              · simp [hx]
          · rintro ⟨x, hx, hxi⟩
            refine ⟨x, ?_, hxi⟩
            rcases List.mem_append.1 hx with hx | hx <;> simp [hx]
      · intro x hx h hh hD
        have hxl : x ∈ l1 ++ r :: l2 := by
          rcases List.mem_append.1 hx with hx | hx <;> simp [hx]
        rcases hD with hD | hD
        · exact hnew x hxl h hh hD
        · rcases List.mem_append.1 hx with hx | hx
          · exact (List.pairwise_append.1 hl.new).2.2 x hx r (by simp) h hh hD
          · exact (List.pairwise_cons.1 (List.pairwise_append.1 hl.new).2.1).1 x hx h hD hh
      · refine ⟨_, _, ?_, ?_, fun k ds => hok'.nh⟩
        · funext k; rw [putEnv_get, he]; rfl
        · funext h; rw [regGet_append_left, hregs]; rfl
      · intro D' ρ'' a'' w'' hD' hag' hdef' hok''
        refine hQ D' ρ'' a'' w'' (fun h => ?_) (fun h hh => (hag' h (.inl hh)).trans (hag h hh)) (hdef'.trans hdef) (by rw [← hend]; exact hok'')
        rw [hD']
        constructor
        · rintro ((h1 | h1) | ⟨x, hx, h1⟩)
          · exact .inl h1
          · exact .inr ⟨r, hr, h1⟩
          · refine .inr ⟨x, ?_, h1⟩
            rcases List.mem_append.1 hx with hx | hx <;> simp [hx]
        · rintro (h1 | ⟨x, hx, h1⟩)
          · exact .inl (.inl h1)
          · rcases List.mem_append.1 hx with hx | hx
            · exact .inr ⟨x, by simp [hx], h1⟩
            · rcases List.mem_cons.1 hx with rfl | hx
              · exact .inl (.inr h1)
              · exact .inr ⟨x, by simp [hx], h1⟩

end Go.SE

namespace Go.SE
open Go Go.RowKit
variable {C : Ctx} {ops : Array Oper}

theorem ev_looks {o : Oper} {env env' : Env} (h : ∀ k ∈ o.looksAt ops, env.get k = env'.get k) : ∀ x ∈ o.op.operands, ev env x = ev env' x := by
  intro x hx
  cases x with
  | tmp t =>
    refine h t ?_
    unfold Oper.looksAt
    exact List.mem_append_left _ (List.mem_filterMap.2 ⟨.tmp t, by simpa using hx, rfl⟩)
  | const v => rfl
  | global g => rfl
  | func f => rfl

theorem guard_looks {o : Oper} {env env' : Env} (h : ∀ k ∈ o.looksAt ops, env.get k = env'.get k) : guardOf ops env o = guardOf ops env' o := by
  unfold guardOf
  split
  · rfl
  · rename_i j want hg
    split
    · rename_i d hd
      rw [h d (by unfold Oper.looksAt; rw [hg]; exact List.mem_append_right _ (by simp [hd]))]
    · rfl

theorem guard_wanted {ρ : Rho} {env : Env} {a : Act} {o : Oper} (he : EnvOk ρ env a) : (guardOf ops env o = .run → Region.wanted o (yielded ops a.tmps) = true) ∧ (guardOf ops env o = .skip → Region.wanted o (yielded ops a.tmps) = false) := by
  unfold guardOf
  split
  · rename_i hn; exact ⟨fun _ => by simp [Region.wanted, hn], fun h => by cases h⟩
  · rename_i j want hn
    split
    · rename_i d hd
      split
      · rename_i hv
        rw [wanted_known he hn hd (.inl hv)]
        cases want <;> simp
      · rename_i hv
        rw [wanted_known he hn hd (.inl hv)]
        cases want <;> simp
      · simp
      · rename_i hv
        exact ⟨fun h => (by cases h), fun _ => wanted_undef he hn hd hv⟩
      · simp
    · simp

/-- An operation of known effect. -/
theorem opDo_eff {o : Oper} {env : Env} {m : M} {e : Eff} {v : X} (hd : putOk C o.dst = true) (hg : guardOf ops env o = .run) (h : OpOk C.P o env m e) (hv : ∀ ρ y, e.val.Rel ρ y → v.Rel ρ y) : OpDo C ops o env m v e.regs e.nh := by
  obtain ⟨hnh, h⟩ := h
  refine ⟨hnh, fun F hF n B w0 D ρ a w Q K hnew hok hK => ?_⟩
  obtain ⟨ρF, rfl⟩ := hF
  rw [if_pos ((guard_wanted (hok.env ρ (Agree.refl _ _))).1 hg)]
  obtain ⟨y, w', ρ', hex, hag, hm⟩ := h C.nt B w0 D ρ a w hnew hok
  refine ⟨fun _ _ => trivial, ?_⟩
  have hsem := exec_semAt hex (C.fen ρF).round
  have hnext : K (a.put o.dst y) w' := by
    refine hK ρ' _ _ hag (put_defers _ _ _) ⟨fun ρ'' hag2 => ?_, fun ρ'' hag2 => ?_, by rw [put_size]; exact hok.size⟩
    · have hag3 : Agree D ρ ρ'' := fun k hk => (hag2 k (.inl hk)).trans (hag k hk)
      exact (hok.env ρ'' hag3).put hok.size (putOk_lt hd) (hv _ _ (hm ρ'' hag2).2)
    · exact (hm ρ'' hag2).1
  rcases hex with hex | ⟨rfl, hex⟩
  · rw [hsem, hex]; exact hnext
  · rw [hsem, hex]; exact hnext

/-- An operation that its guard leaves out. -/
theorem opDo_skip {o : Oper} {env : Env} {m : M} (hd : putOk C o.dst = true) (hg : guardOf ops env o = .skip) : OpDo C ops o env m (.tup []) [] m.nh := by
  refine ⟨Nat.le_refl _, fun F hF n B w0 D ρ a w Q K hnew hok hK => ?_⟩
  obtain ⟨ρF, rfl⟩ := hF
  rw [if_neg (by rw [(guard_wanted (hok.env ρ (Agree.refl _ _))).2 hg]; simp)]
  refine ⟨fun _ _ => trivial, hK ρ _ _ (Agree.refl _ _) (put_defers _ _ _) ⟨fun ρ'' hag2 => ?_, fun ρ'' hag2 => ?_, by rw [put_size]; exact hok.size⟩⟩
  · have hag3 : Agree D ρ ρ'' := fun k hk => hag2 k (.inl hk)
    exact (hok.env ρ'' hag3).put hok.size (putOk_lt hd) (undef_rel ρ'')
  · have hag3 : Agree D ρ ρ'' := fun k hk => hag2 k (.inl hk)
    have := hok.mem ρ'' hag3
    exact ⟨this.regs, this.dist, this.base, this.below, this.hB⟩

def Fs.of (env : Env) (m : M) : Fs := ⟨env.get, m.reg⟩

theorem valid_eff {o : Oper} {i : Nat} {env : Env} {m : M} {e : Eff} {v : X} (hd : putOk C o.dst = true) (hg : guardOf ops env o = .run)
    (hc : classify C.P o env m = .eff e ∨ ∃ (α : Type) (p : α → Prop) (f : α → Eff) (x : α), classify C.P o env m = .ask p f ∧ p x ∧ f x = e) (hv : ∀ ρ y, e.val.Rel ρ y → v.Rel ρ y) :
    Rec.Valid C ops ⟨i, o, o.looksAt ops, needsOp env o.op, v, e.regs, m.nh, e.nh⟩ (Fs.of env m) := by
  intro env' m' hag
  have hcl : classify C.P o env' m' = classify C.P o env m := classify_congr (ev_looks hag.ce) hag.cr hag.nh
  have hok := classify_ok C.P o env' m'
  rw [hcl] at hok
  refine opDo_eff hd ((guard_looks hag.ce).trans hg) ?_ hv
  rcases hc with hc | ⟨α, p, f, x, hc, hp, rfl⟩
  · rw [hc] at hok; exact hok
  · rw [hc] at hok; exact hok x hp

theorem valid_skip {o : Oper} {i : Nat} {env : Env} {m : M} (hd : putOk C o.dst = true) (hg : guardOf ops env o = .skip) (need : List Nat) : Rec.Valid C ops ⟨i, o, o.looksAt ops, need, .tup [], [], m.nh, m.nh⟩ (Fs.of env m) := by
  intro env' m' hag
  have := opDo_skip (m := m') hd ((guard_looks hag.ce).trans hg)
  rw [hag.nh] at this
  exact this

end Go.SE

namespace Go.SE
open Go Go.RowKit
variable {C : Ctx} {ops : Array Oper}

theorem PreOk.congr {m m' : M} : ∀ {hs : List Nat} {pre : List Reg}, PreOk m hs pre → (∀ h ∈ hs, m'.reg h = m.reg h) → PreOk m' hs pre
  | [], [], _, _ => trivial
  | h :: hs, r :: rs, hp, hr => by
    obtain ⟨⟨r', h1, h2⟩, h3⟩ := hp
    exact ⟨⟨r', (hr h (by simp)).trans h1, h2⟩, PreOk.congr h3 fun k hk => hr k (by simp [hk])⟩

/-- A call by its contract, in a region that draws its order. -/
theorem opDo_call {o : Oper} {env : Env} {m : M} {f : FuncId} {args args' : List T} {pre : List Reg} {res v : X} {post : List Reg} {hs : List Nat} (hd : putOk C o.dst = true) (hg : guardOf ops env o = .run) (hcl : classify C.P o env m = .call f args')
    (h : CallCon C.P f args pre res post) (hargs : LeTs args' (renTs (pick hs) args)) (hpre : PreOk m hs pre) (hsc : (res.sc post.length && scRegs post.length post) = true) (hv : ∀ ρ y, (res.ren fun k => m.nh + k).Rel ρ y → v.Rel ρ y) :
    OpDo C ops o env m v (shiftRegs m.nh post 0) (m.nh + post.length) := by
  rw [Bool.and_eq_true] at hsc
  refine ⟨Nat.le_add_right _ _, fun F hF n B w0 D ρ a w Q K hnewD hok hK => ?_⟩
  obtain ⟨ρF, rfl⟩ := hF
  have hE := hok.env ρ (Agree.refl _ _)
  rw [if_pos ((guard_wanted hE).1 hg)]
  have hc := classify_ok C.P o env m
  rw [hcl] at hc
  obtain ⟨ys, hys⟩ := hc a
  obtain ⟨hrel, hrun, hdef⟩ := hys ρ hE
  refine ⟨fun _ _ => trivial, ?_⟩
  rw [Oper.semAt_eq _ _ _ hdef, hrun, h.ent]
  refine ⟨fun hh => by simp [Ctx.fen, Fence.wide] at hh, ?_⟩
  have hM := hok.mem ρ (Agree.refl _ _)
  refine callsIn_round _ ((h.go (n - 1) (fun k => ρ (pick hs k)) w ys (fun i r hr => ?_) (Ts.rel_ren (LeTs.rel hargs hrel))).mono ?_)
  · obtain ⟨k, r', g1, g2, g3⟩ := hpre.get i r hr
    exact g3.ok (hM.regs _ _ g2) i _ (by simp [pick, g1])
  rintro e w' ⟨y, ρ', rfl, h1, h2, h3, h4⟩
  let ρc : Rho := fun k => if m.nh ≤ k ∧ k < m.nh + post.length then ρ' (k - m.nh) else ρ k
  have hc1 : Agree D ρ ρc := fun k hk => by
    show (if m.nh ≤ k ∧ k < m.nh + post.length then ρ' (k - m.nh) else ρ k) = ρ k
    rw [if_neg fun hh => hnewD k hh hk]
  have hc2 : ∀ k, k < post.length → ρc (m.nh + k) = ρ' k := fun k hk => by
    show (if m.nh ≤ m.nh + k ∧ m.nh + k < m.nh + post.length then ρ' (m.nh + k - m.nh) else ρ (m.nh + k)) = ρ' k
    rw [if_pos ⟨by omega, by omega⟩, Nat.add_sub_cancel_left]
  refine hK ρc _ _ hc1 (put_defers _ _ _) ?_
  have b1 : ∀ {ρ''}, Agree (fun h => D h ∨ (m.nh ≤ h ∧ h < m.nh + post.length)) ρc ρ'' → Agree D ρ ρ'' := fun hag k hk => (hag k (.inl hk)).trans (hc1 k hk)
  have b2 : ∀ {ρ''}, Agree (fun h => D h ∨ (m.nh ≤ h ∧ h < m.nh + post.length)) ρc ρ'' → ∀ k, k < post.length → ρ'' (m.nh + k) = ρ' k := fun hag k hk => (hag (m.nh + k) (.inr ⟨by omega, by omega⟩)).trans (hc2 k hk)
  refine ⟨fun ρ'' hag => ?_, fun ρ'' hag => ?_, by rw [put_size]; exact hok.size⟩
  · refine (hok.env ρ'' (b1 hag)).put hok.size (putOk_lt hd) (hv _ _ ?_)
    exact X.rel_unren (θ := fun k => m.nh + k) (X.rel_congr (n := post.length) hsc.1 (fun k hk => b2 hag k hk) h1)
  · have a2 := b2 hag
    have hM' := hok.mem ρ'' (b1 hag)
    have hreg : ∀ k r, M.reg { regs := shiftRegs m.nh post 0 ++ m.regs, nh := m.nh + post.length, ds := m.ds } k = some r →
        (∃ j r0, k = m.nh + j ∧ j < post.length ∧ post[j]? = some r0 ∧ r = r0.ren fun h => m.nh + h) ∨ m.reg k = some r := by
      intro k r hr
      simp only [M.reg, regGet_append_left] at hr
      rcases Option.or_eq_some_iff.1 hr with hr | ⟨_, hr⟩
      · obtain ⟨j, r0, g1, g2, g3⟩ := shiftRegs_get _ _ _ _ _ hr
        exact .inl ⟨j, r0, by omega, (List.getElem?_eq_some_iff.1 g2).1, g2, g3⟩
      · exact .inr hr
    have hold : ∀ k r, m.reg k = some r → RegOk ρ'' w' k r := fun k r hr => (hM'.regs _ _ hr).same (fun hn hl => h4.block _ ((hM'.regs _ _ hr).lt hn hl)) h4.size
    have hnew : ∀ j r0, j < post.length → post[j]? = some r0 → RegOk ρ'' w' (m.nh + j) (r0.ren fun h => m.nh + h) := fun j r0 hj hr =>
      reg_unren (θ := fun h => m.nh + h) (reg_congr (n := post.length) (scRegs_spec hsc.2 r0 (List.mem_of_getElem? hr)) (fun k hk => a2 k hk) hj (h2 j r0 hr).1)
    have hBs : B ≤ w.heap.size := Nat.le_trans hM.hB hM.below.size
    refine ⟨fun k r hr => ?_, fun k k' r r' hr hr' hne ht ho hl n1 n2 => ?_, fun k r hr ho hn => ?_, hM.below.trans (h4.mono hBs), hM.hB⟩
    · rcases hreg k r hr with ⟨j, r0, rfl, hj, g1, rfl⟩ | hr
      · exact hnew j r0 hj g1
      · exact hold k r hr
    · rcases hreg k r hr with ⟨j, r0, rfl, hj, g1, rfl⟩ | hr <;> rcases hreg k' r' hr' with ⟨j', r0', rfl, hj', g1', rfl⟩ | hr'
      · rw [a2 j hj] at n1 ⊢
        rw [a2 j' hj'] at n2 ⊢
        exact h3 j j' hj hj' (by omega) n1 n2
      · have := (h2 j r0 g1).2.2
        rw [a2 j hj] at n1 ⊢
        have h5 := this n1
        have h6 := (hM'.regs _ _ hr').lt n2 hl
        omega
      · have := (h2 j' r0' g1').2.2
        rw [a2 j' hj'] at n2 ⊢
        have h5 := this n2
        have h6 := (hM'.regs _ _ hr).lt n1 (Reg.live_of_own ho)
        omega
      · exact hM'.dist _ _ _ _ hr hr' hne ht ho hl n1 n2
    · rcases hreg k r hr with ⟨j, r0, rfl, hj, g1, rfl⟩ | hr
      · rw [a2 j hj] at hn ⊢
        exact Nat.le_trans hBs ((h2 j r0 g1).2.2 hn)
      · exact hM'.base _ _ hr ho hn

/-- A function that makes a function of what it is given, and of a place that it captured. -/
def MakesFn (P : Program) (f g : FuncId) (T : TypeId) : Prop :=
  (∀ ys w, (callFunc f ys).run P w = .ok (.enter f ys) w) ∧ ∀ (w : World) (s p : Value), s.oneCell' = true →
    Calls P f #[s, p] w fun e w' => e = .returned (.func (.func g) #[] #[p, .pointer (some ⟨w.heap.size, 0, none⟩)]) ∧ w' = w.alloc (.cells #[s] T (0, 0))

theorem opDo_mkfn {o : Oper} {env : Env} {m : M} {f g : FuncId} {T : TypeId} {x : S} {h k : Nat} {v : X} (hd : putOk C o.dst = true) (hg : guardOf ops env o = .run) (hcl : classify C.P o env m = .call f [.one x, .one (.ptr h k)])
    (hF : MakesFn C.P f g T) (hv : ∀ ρ y, (X.t (.one (.fn g [(h, k), (m.nh, 0)]))).Rel ρ y → v.Rel ρ y) :
    OpDo C ops o env m v [(m.nh, .box [x] 1 T)] (m.nh + 1) := by
  refine ⟨Nat.le_add_right _ _, fun F hF2 n B w0 D ρ a w Q K hnewD hok hK => ?_⟩
  obtain ⟨ρF, rfl⟩ := hF2
  have hE := hok.env ρ (Agree.refl _ _)
  rw [if_pos ((guard_wanted hE).1 hg)]
  have hc := classify_ok C.P o env m
  rw [hcl] at hc
  obtain ⟨ys, hys⟩ := hc a
  obtain ⟨hrel, hrun, hdef⟩ := hys ρ hE
  refine ⟨fun _ _ => trivial, ?_⟩
  rw [Oper.semAt_eq _ _ _ hdef, hrun, hF.1]
  refine ⟨fun hh => by simp [Ctx.fen, Fence.wide] at hh, ?_⟩
  match ys, hrel, hys with
  | [y1, y2], ⟨q1, q2, _⟩, hys =>
    refine callsIn_round _ ((callsIn_wide.2 (hF.2 w y1 y2 (S.Rel.one q1))).mono ?_)
    rintro e w' ⟨rfl, rfl⟩
    have hnD : ¬ D m.nh := hnewD m.nh ⟨Nat.le_refl _, by omega⟩
    refine hK (upd ρ m.nh ⟨w.heap.size, 0, 1, 1, false⟩) _ _ (upd_agree ρ _ hnD) (put_defers _ _ _) ?_
    have key : ∀ ρ'', Agree (fun h => D h ∨ (m.nh ≤ h ∧ h < m.nh + 1)) (upd ρ m.nh ⟨w.heap.size, 0, 1, 1, false⟩) ρ'' → Agree D ρ ρ'' ∧ ρ'' m.nh = ⟨w.heap.size, 0, 1, 1, false⟩ ∧ x.Rel ρ'' y1 ∧ y2 = ptrVal ρ'' h k := fun ρ'' hag => by
      have e1 : Agree D ρ ρ'' := fun k hk => (hag k (.inl hk)).trans (upd_agree ρ _ hnD k hk)
      have e2 := (hys ρ'' (hok.env ρ'' e1)).1
      exact ⟨e1, (hag m.nh (.inr ⟨Nat.le_refl _, by omega⟩)).trans (upd_same _ _ _), e2.1, e2.2.1⟩
    refine ⟨fun ρ'' hag => ?_, fun ρ'' hag => ?_, by rw [put_size]; exact hok.size⟩
    · obtain ⟨e1, e2, e3, e4⟩ := key ρ'' hag
      refine (hok.env ρ'' e1).put hok.size (putOk_lt hd) (hv _ _ ?_)
      show Value.func _ _ _ = Value.func _ _ _
      rw [e4]
      simp [ptrVal, e2]
    · obtain ⟨e1, e2, e3, e4⟩ := key ρ'' hag
      exact (hok.mem ρ'' e1).new (r := .box [x] 1 T) (k := m.nh + 1) (by rw [e2]) ⟨by rw [e2], by rw [e2], ⟨by rw [e2], by rw [e2]; rfl, fun _ => by rw [e2]; show 1 ≤ maxLen; simp only [maxLen]; omega⟩, [y1], by rw [e2]; exact alloc_heap_new _ _, e3, trivial⟩

theorem valid_mkfn {o : Oper} {i : Nat} {env : Env} {m : M} {f g : FuncId} {T : TypeId} {x : S} {h k : Nat} {v : X} (hd : putOk C o.dst = true) (hg : guardOf ops env o = .run) (hcl : classify C.P o env m = .call f [.one x, .one (.ptr h k)])
    (hF : MakesFn C.P f g T) (hv : ∀ ρ y, (X.t (.one (.fn g [(h, k), (m.nh, 0)]))).Rel ρ y → v.Rel ρ y) :
    Rec.Valid C ops ⟨i, o, o.looksAt ops, needsOp env o.op, v, [(m.nh, .box [x] 1 T)], m.nh, m.nh + 1⟩ (Fs.of env m) := by
  intro env' m' hag
  have hc : classify C.P o env' m' = classify C.P o env m := classify_congr (ev_looks hag.ce) hag.cr hag.nh
  have hnh : m'.nh = m.nh := hag.nh
  have := opDo_mkfn (m := m') hd ((guard_looks hag.ce).trans hg) (hc.trans hcl) hF (v := v) (by rw [hnh]; exact hv)
  rw [hnh] at this
  exact this

theorem valid_call {o : Oper} {i : Nat} {env : Env} {m : M} {f : FuncId} {args args' : List T} {pre : List Reg} {res v : X} {post : List Reg} {hs : List Nat} (hd : putOk C o.dst = true) (hg : guardOf ops env o = .run) (hcl : classify C.P o env m = .call f args')
    (h : CallCon C.P f args pre res post) (hargs : LeTs args' (renTs (pick hs) args)) (hpre : PreOk m hs pre) (hsc : (res.sc post.length && scRegs post.length post) = true) (hv : ∀ ρ y, (res.ren fun k => m.nh + k).Rel ρ y → v.Rel ρ y) :
    Rec.Valid C ops ⟨i, o, o.looksAt ops, hs ++ needsOp env o.op, v, shiftRegs m.nh post 0, m.nh, m.nh + post.length⟩ (Fs.of env m) := by
  intro env' m' hag
  have hc : classify C.P o env' m' = classify C.P o env m := classify_congr (ev_looks hag.ce) (fun k hk => hag.cr k (List.mem_append_right _ hk)) hag.nh
  have hnh : m'.nh = m.nh := hag.nh
  have := opDo_call (m := m') hd ((guard_looks hag.ce).trans hg) (hc.trans hcl) h hargs (hpre.congr fun k hk => hag.cr k (List.mem_append_left _ hk)) hsc (v := v) (by rw [hnh]; exact hv)
  rw [hnh] at this
  exact this

/-! ### contracts of functions that are given two places, and hand back what may point at these -/

def noSl (np : Nat) : S → Bool
  | .sl h _ _ => Nat.ble np h
  | _ => true
def noSlL (np : Nat) : List S → Bool
  | [] => true
  | x :: l => bif noSl np x then noSlL np l else false
def noSlT (np : Nat) : T → Bool
  | .one s => noSl np s
  | .agg l => noSlL np l
def noSlX (np : Nat) : X → Bool
  | .t x => noSlT np x
  | _ => false
def noSlR (np : Nat) : Reg → Bool
  | .box cells _ _ => noSlL np cells
  | .srow cells _ _ => noSlL np cells
  | .slot _ _ none => true
  | .slot _ _ (some s) => noSl np s
  | .row _ _ _ _ => true
  | _ => false

structure PB (np N : Nat) (ρ ρ' : Rho) : Prop where
  lo : ∀ k, k < np → (ρ' k).blk = (ρ k).blk ∧ (ρ' k).base = (ρ k).base
  hi : ∀ k, np ≤ k → k < N → ρ' k = ρ k

theorem PB.bb {np N : Nat} {ρ ρ' : Rho} (h : PB np N ρ ρ') {k : Nat} (hk : k < N) : (ρ' k).blk = (ρ k).blk ∧ (ρ' k).base = (ρ k).base := by
  by_cases hn : k < np
  · exact h.lo k hn
  · rw [h.hi k (by omega) hk]; exact ⟨rfl, rfl⟩

theorem PB.ptr {np N : Nat} {ρ ρ' : Rho} (h : PB np N ρ ρ') {k o : Nat} (hk : k < N) : ptrVal ρ' k o = ptrVal ρ k o := by
  unfold ptrVal; rw [(h.bb hk).1, (h.bb hk).2]

theorem S.rel_pb {np N : Nat} {ρ ρ' : Rho} {s : S} {y : Value} (hp : PB np N ρ ρ') (hs : s.sc N = true) (hn : noSl np s = true) (h : s.Rel ρ y) : s.Rel ρ' y := by
  cases s with
  | ptr k o => simp only [S.Rel] at h ⊢; rw [h, hp.ptr (blt_lt hs)]
  | pts k o => simp only [S.Rel] at h ⊢; rw [h, hp.ptr (blt_lt hs)]
  | sl k off len => simp only [S.Rel] at h ⊢; rw [hp.hi k (Nat.le_of_ble_eq_true hn) (blt_lt hs)]; exact h
  | bm f k o => simp only [S.Rel] at h ⊢; rw [h, hp.ptr (blt_lt hs)]
  | yld k => simp only [S.Rel] at h ⊢; rw [(hp.bb (blt_lt hs)).1]; exact h
  | mp k => simp only [S.Rel] at h ⊢; rw [(hp.bb (blt_lt hs)).1]; exact h
  | fn f caps =>
    simp only [S.Rel] at h ⊢
    rw [h]
    have : caps.map (fun p => ptrVal ρ p.1 p.2) = caps.map (fun p => ptrVal ρ' p.1 p.2) := List.map_congr_left fun p hq => (hp.ptr (capsSc_spec hs p hq)).symm
    rw [this]
  | v x => exact h
  | b c => exact h
  | n k i => exact h
  | any => exact h

theorem L.rel_pb {np N : Nat} {ρ ρ' : Rho} (hp : PB np N ρ ρ') : ∀ {l : List S} {ys : List Value}, scL N l = true → noSlL np l = true → LRel ρ l ys → LRel ρ' l ys
  | [], [], _, _, _ => trivial
  | x :: l, y :: ys, hs, hn, h => by
    simp only [scL, cond_eq_ite] at hs
    simp only [noSlL, cond_eq_ite] at hn
    split at hs <;> split at hn
    · rename_i h1 h2; exact ⟨S.rel_pb hp h1 h2 h.1, L.rel_pb hp hs hn h.2⟩
    · cases hn
    · cases hs
    · cases hs

theorem X.rel_pb {np N : Nat} {ρ ρ' : Rho} {x : X} {y : Value} (hp : PB np N ρ ρ') (hs : x.sc N = true) (hn : noSlX np x = true) (h : x.Rel ρ y) : x.Rel ρ' y := by
  cases x with
  | t t =>
    cases t with
    | one s => exact S.rel_pb hp hs hn h
    | agg l => obtain ⟨ys, rfl, hl⟩ := h; exact ⟨ys, rfl, L.rel_pb hp hs hn hl⟩
  | tup l => cases hn
  | unk => cases hn

theorem reg_pb {np N : Nat} {ρ ρ' : Rho} {w : World} {h : Nat} {r : Reg} (hp : PB np N ρ ρ') (hs : r.sc N = true) (hn : noSlR np r = true) (h1 : np ≤ h) (h2 : h < N) (hr : RegOk ρ w h r) : RegOk ρ' w h r := by
  have e := hp.hi h h1 h2
  cases r with
  | box cells sz et =>
    obtain ⟨g1, g2, g3, ys, g4, g5⟩ := hr
    exact ⟨by rw [e]; exact g1, by rw [e]; exact g2, by rw [e]; exact g3, ys, by rw [e]; exact g4, L.rel_pb hp hs hn g5⟩
  | row xs sz et own => cases own <;> (simp only [RegOk] at hr ⊢; rw [e]; exact hr)
  | srow cells sz et =>
    obtain ⟨g1, g2, g3, ys, zs, g4, g5, g6, g7⟩ := hr
    exact ⟨by rw [e]; exact g1, by rw [e]; exact g2, by rw [e]; exact g3, ys, zs, by rw [e]; exact g4, by rw [e]; exact g5, g6, L.rel_pb hp hs hn g7⟩
  | iter mh a b c => cases hn
  | slot mh key val =>
    simp only [Reg.sc, cond_eq_ite] at hs
    split at hs
    · rename_i hb
      obtain ⟨g1, g2, es, c, g3, g4, g5⟩ := hr
      refine ⟨by rw [e]; exact g1, by rw [e, (hp.bb (blt_lt hb)).1]; exact g2, es, c, by rw [e]; exact g3, g4, ?_⟩
      cases key with
      | none => trivial
      | some j =>
        cases val with
        | none => exact g5
        | some s => obtain ⟨y, g6, g7⟩ := g5; exact ⟨y, g6, S.rel_pb hp hs hn g7⟩
    · cases hs
  | obj o => cases hn
  | loop => cases hn
  | gone => cases hn

def pbChk (N : Nat) (res : X) (post : List Reg) : Bool := res.sc N && scRegs N post && noSlX 2 res && post.all (noSlR 2) && post.all Reg.own

/-- A contract of a function that is given two places; its own handles are from 2 on. -/
structure ConP (P : Program) (f : FuncId) (res : X) (post : List Reg) : Prop where
  chk : pbChk (2 + post.length) res post = true
  ent : ∀ ys w, (callFunc f ys).run P w = .ok (.enter f ys) w
  go : ∀ (ρ : Rho) (w : World), Calls P f #[ptrVal ρ 0 0, ptrVal ρ 1 0] w fun e w' => ∃ v ρ', e = .returned v ∧ (∀ k, k < 2 → ρ' k = ρ k) ∧ res.Rel ρ' v ∧ (∀ i r, post[i]? = some r → RegOk ρ' w' (2 + i) r ∧ ((ρ' (2 + i)).nil = false → w.heap.size ≤ (ρ' (2 + i)).blk)) ∧
      (∀ i j r r', post[i]? = some r → post[j]? = some r' → i ≠ j → tied r r' = false → (ρ' (2 + i)).nil = false → (ρ' (2 + j)).nil = false → (ρ' (2 + i)).blk ≠ (ρ' (2 + j)).blk) ∧ Below w.heap.size w w'

def thP (h0 h1 n : Nat) (k : Nat) : Nat := bif Nat.beq k 0 then h0 else bif Nat.beq k 1 then h1 else n + (k - 2)

def shiftP (θ : Nat → Nat) (n : Nat) : List Reg → Nat → List (Nat × Reg)
  | [], _ => []
  | r :: l, i => (n + i, r.ren θ) :: shiftP θ n l (i + 1)

theorem shiftP_get (θ : Nat → Nat) (n : Nat) : ∀ (l : List Reg) (i h : Nat) (r : Reg), regGet (shiftP θ n l i) h = some r → ∃ j r0, h = n + (i + j) ∧ l[j]? = some r0 ∧ r = r0.ren θ
  | [], _, _, _, e => by simp [shiftP, regGet] at e
  | x :: l, i, h, r, e => by
    simp only [shiftP, regGet, cond_eq_ite] at e
    split at e
    · rename_i he; cases e; exact ⟨0, x, (Nat.eq_of_beq_eq_true he).symm, rfl, rfl⟩
    · obtain ⟨j, r0, h1, h2, h3⟩ := shiftP_get θ n l (i + 1) h r e; exact ⟨j + 1, r0, by omega, by simpa using h2, h3⟩

theorem opDo_callP {o : Oper} {env : Env} {m : M} {f : FuncId} {h0 h1 : Nat} {res v : X} {post : List Reg} (hd : putOk C o.dst = true) (hg : guardOf ops env o = .run) (hcl : classify C.P o env m = .call f [.one (.ptr h0 0), .one (.ptr h1 0)])
    (h : ConP C.P f res post) (hv : ∀ ρ y, (res.ren (thP h0 h1 m.nh)).Rel ρ y → v.Rel ρ y) :
    OpDo C ops o env m v (shiftP (thP h0 h1 m.nh) m.nh post 0) (m.nh + post.length) := by
  have hchk := h.chk
  unfold pbChk at hchk
  simp only [Bool.and_eq_true] at hchk
  obtain ⟨⟨⟨⟨k1, k2⟩, k3⟩, k4⟩, k5⟩ := hchk
  have k2 := scRegs_spec k2
  have k4 := List.all_eq_true.1 k4
  have k5 := List.all_eq_true.1 k5
  refine ⟨Nat.le_add_right _ _, fun F hF n B w0 D ρ a w Q K hnewD hok hK => ?_⟩
  obtain ⟨ρF, rfl⟩ := hF
  have hE := hok.env ρ (Agree.refl _ _)
  rw [if_pos ((guard_wanted hE).1 hg)]
  have hc := classify_ok C.P o env m
  rw [hcl] at hc
  obtain ⟨ys, hys⟩ := hc a
  obtain ⟨hrel, hrun, hdef⟩ := hys ρ hE
  refine ⟨fun _ _ => trivial, ?_⟩
  rw [Oper.semAt_eq _ _ _ hdef, hrun, h.ent]
  refine ⟨fun hh => by simp [Ctx.fen, Fence.wide] at hh, ?_⟩
  have hM := hok.mem ρ (Agree.refl _ _)
  match ys, hrel, hys with
  | [y0, y1], ⟨q0, q1, _⟩, hys =>
    have q0 : y0 = ptrVal ρ h0 0 := q0
    have q1 : y1 = ptrVal ρ h1 0 := q1
    have hgo := h.go (fun k => ρ (thP h0 h1 m.nh k)) w
    rw [show ptrVal (fun k => ρ (thP h0 h1 m.nh k)) 0 0 = y0 from q0.symm, show ptrVal (fun k => ρ (thP h0 h1 m.nh k)) 1 0 = y1 from q1.symm] at hgo
    refine callsIn_round _ ((callsIn_wide.2 hgo).mono ?_)
    rintro e w' ⟨y, ρ', rfl, g0, g1, g2, g3, g4⟩
    let ρc : Rho := fun k => if m.nh ≤ k ∧ k < m.nh + post.length then ρ' (2 + (k - m.nh)) else ρ k
    have hc1 : Agree D ρ ρc := fun k hk => by
      show (if m.nh ≤ k ∧ k < m.nh + post.length then ρ' (2 + (k - m.nh)) else ρ k) = ρ k
      rw [if_neg fun hh => hnewD k hh hk]
    have hc2 : ∀ k, k < post.length → ρc (m.nh + k) = ρ' (2 + k) := fun k hk => by
      show (if m.nh ≤ m.nh + k ∧ m.nh + k < m.nh + post.length then ρ' (2 + (m.nh + k - m.nh)) else ρ (m.nh + k)) = ρ' (2 + k)
      rw [if_pos ⟨by omega, by omega⟩, Nat.add_sub_cancel_left]
    refine hK ρc _ _ hc1 (put_defers _ _ _) ?_
    have b1 : ∀ {ρ''}, Agree (fun h => D h ∨ (m.nh ≤ h ∧ h < m.nh + post.length)) ρc ρ'' → Agree D ρ ρ'' := fun hag k hk => (hag k (.inl hk)).trans (hc1 k hk)
    have b2 : ∀ {ρ''}, Agree (fun h => D h ∨ (m.nh ≤ h ∧ h < m.nh + post.length)) ρc ρ'' → ∀ k, k < post.length → ρ'' (m.nh + k) = ρ' (2 + k) := fun hag k hk => (hag (m.nh + k) (.inr ⟨by omega, by omega⟩)).trans (hc2 k hk)
    have th2 : ∀ k, thP h0 h1 m.nh (2 + k) = m.nh + k := fun k => by
      unfold thP
      rw [show Nat.beq (2 + k) 0 = false from by rw [← Bool.not_eq_true]; exact fun e => by have := Nat.eq_of_beq_eq_true e; omega, show Nat.beq (2 + k) 1 = false from by rw [← Bool.not_eq_true]; exact fun e => by have := Nat.eq_of_beq_eq_true e; omega]
      show m.nh + (2 + k - 2) = m.nh + k
      omega
    have b3 : ∀ {ρ''}, Agree (fun h => D h ∨ (m.nh ≤ h ∧ h < m.nh + post.length)) ρc ρ'' → PB 2 (2 + post.length) ρ' (fun k => ρ'' (thP h0 h1 m.nh k)) := fun {ρ''} hag => by
      have e2 := (hys ρ'' (hok.env ρ'' (b1 hag))).1
      have e20 : y0 = ptrVal ρ'' h0 0 := e2.1
      have e21 : y1 = ptrVal ρ'' h1 0 := e2.2.1
      have inj : ∀ {k k' : Nat} {r r' : Rho}, ptrVal r k 0 = ptrVal r' k' 0 → (r' k').blk = (r k).blk ∧ (r' k').base = (r k).base := fun {k k' r r'} e => by
        simp only [ptrVal, Value.pointer.injEq, Option.some.injEq, Addr.mk.injEq, Nat.add_zero, and_true] at e
        exact ⟨e.1.symm, e.2.symm⟩
      refine ⟨fun k hk => ?_, fun k hk1 hk2 => ?_⟩
      · match k, hk with
        | 0, _ => rw [g0 0 (by omega)]; exact inj (q0.symm.trans e20)
        | 1, _ => rw [g0 1 (by omega)]; exact inj (q1.symm.trans e21)
      · obtain ⟨j, rfl⟩ := Nat.exists_eq_add_of_le hk1
        show ρ'' (thP h0 h1 m.nh (2 + j)) = ρ' (2 + j)
        rw [th2]; exact b2 hag j (by omega)
    refine ⟨fun ρ'' hag => ?_, fun ρ'' hag => ?_, by rw [put_size]; exact hok.size⟩
    · exact (hok.env ρ'' (b1 hag)).put hok.size (putOk_lt hd) (hv _ _ (X.rel_unren (X.rel_pb (b3 hag) k1 k3 g1)))
    · have a2 := b2 hag
      have hM' := hok.mem ρ'' (b1 hag)
      have hreg : ∀ k r, M.reg { regs := shiftP (thP h0 h1 m.nh) m.nh post 0 ++ m.regs, nh := m.nh + post.length, ds := m.ds } k = some r →
          (∃ j r0, k = m.nh + j ∧ j < post.length ∧ post[j]? = some r0 ∧ r = r0.ren (thP h0 h1 m.nh)) ∨ m.reg k = some r := by
        intro k r hr
        simp only [M.reg, regGet_append_left] at hr
        rcases Option.or_eq_some_iff.1 hr with hr | ⟨_, hr⟩
        · obtain ⟨j, r0, c1, c2, c3⟩ := shiftP_get _ _ _ _ _ _ hr
          exact .inl ⟨j, r0, by omega, (List.getElem?_eq_some_iff.1 c2).1, c2, c3⟩
        · exact .inr hr
      have hold : ∀ k r, m.reg k = some r → RegOk ρ'' w' k r := fun k r hr => (hM'.regs _ _ hr).same (fun hn hl => g4.block _ ((hM'.regs _ _ hr).lt hn hl)) g4.size
      have hnew : ∀ j r0, j < post.length → post[j]? = some r0 → RegOk ρ'' w' (m.nh + j) (r0.ren (thP h0 h1 m.nh)) := fun j r0 hj hr => by
        have hmem := List.mem_of_getElem? hr
        have := reg_unren (reg_pb (b3 hag) (k2 r0 hmem) (k4 r0 hmem) (by omega) (by omega) (g2 j r0 hr).1)
        rw [th2] at this
        exact this
      have hBs : B ≤ w.heap.size := Nat.le_trans hM.hB hM.below.size
      refine ⟨fun k r hr => ?_, fun k k' r r' hr hr' hne ht ho hl n1 n2 => ?_, fun k r hr ho hn => ?_, hM.below.trans (g4.mono hBs), hM.hB⟩
      · rcases hreg k r hr with ⟨j, r0, rfl, hj, c1, rfl⟩ | hr
        · exact hnew j r0 hj c1
        · exact hold k r hr
      · rcases hreg k r hr with ⟨j, r0, rfl, hj, c1, rfl⟩ | hr <;> rcases hreg k' r' hr' with ⟨j', r0', rfl, hj', c1', rfl⟩ | hr'
        · rw [a2 j hj] at n1 ⊢
          rw [a2 j' hj'] at n2 ⊢
          exact g3 j j' _ _ c1 c1' (by omega) (by rw [tied_ren] at ht; exact ht) n1 n2
        · have := (g2 j r0 c1).2
          rw [a2 j hj] at n1 ⊢
          have h5 := this n1
          have h6 := (hM'.regs _ _ hr').lt n2 hl
          omega
        · have := (g2 j' r0' c1').2
          rw [a2 j' hj'] at n2 ⊢
          have h5 := this n2
          have h6 := (hM'.regs _ _ hr).lt n1 (Reg.live_of_own ho)
          omega
        · exact hM'.dist _ _ _ _ hr hr' hne ht ho hl n1 n2
      · rcases hreg k r hr with ⟨j, r0, rfl, hj, c1, rfl⟩ | hr
        · rw [a2 j hj] at hn ⊢
          exact Nat.le_trans hBs ((g2 j r0 c1).2 hn)
        · exact hM'.base _ _ hr ho hn

theorem valid_callP {o : Oper} {i : Nat} {env : Env} {m : M} {f : FuncId} {h0 h1 : Nat} {res v : X} {post : List Reg} (hd : putOk C o.dst = true) (hg : guardOf ops env o = .run) (hcl : classify C.P o env m = .call f [.one (.ptr h0 0), .one (.ptr h1 0)])
    (h : ConP C.P f res post) (hv : ∀ ρ y, (res.ren (thP h0 h1 m.nh)).Rel ρ y → v.Rel ρ y) :
    Rec.Valid C ops ⟨i, o, o.looksAt ops, needsOp env o.op, v, shiftP (thP h0 h1 m.nh) m.nh post 0, m.nh, m.nh + post.length⟩ (Fs.of env m) := by
  intro env' m' hag
  have hc : classify C.P o env' m' = classify C.P o env m := classify_congr (ev_looks hag.ce) hag.cr hag.nh
  have hnh : m'.nh = m.nh := hag.nh
  have := opDo_callP (m := m') hd ((guard_looks hag.ce).trans hg) (hc.trans hcl) h (v := v) (by rw [hnh]; exact hv)
  rw [hnh] at this
  exact this

/-! ### the run in the text's order -/

def memB (k : Nat) : List Nat → Bool
  | [] => false
  | x :: l => bif Nat.beq x k then true else memB k l

def disjB : List Nat → List Nat → Bool
  | [], _ => true
  | x :: l, r => bif memB x r then false else disjB l r

def edgeB (i : Nat) : List Go.Edge → Bool
  | [] => false
  | e :: l => bif Nat.beq e.on i && Region.binds .any e then true else edgeB i l

theorem memB_spec {k : Nat} : ∀ {l : List Nat}, memB k l = false → k ∉ l
  | [], _ => by simp
  | x :: l, h => by
    simp only [memB, cond_eq_ite] at h
    split at h
    · cases h
    · rename_i hb
      intro hk
      rcases List.mem_cons.1 hk with rfl | hk
      · exact hb (Nat.beq_refl _)
      · exact memB_spec h hk

theorem disjB_spec : ∀ {l r : List Nat}, disjB l r = true → ∀ k ∈ l, k ∉ r
  | [], _, _ => by simp
  | x :: l, r, h => by
    simp only [disjB, cond_eq_ite] at h
    split at h
    · cases h
    · rename_i hb
      intro k hk
      rcases List.mem_cons.1 hk with rfl | hk
      · exact memB_spec (by simpa using hb)
      · exact disjB_spec h k hk

theorem edgeB_spec {i : Nat} : ∀ {l : List Go.Edge}, edgeB i l = true → ∃ e ∈ l, Region.binds .any e = true ∧ e.on = i
  | [], h => by cases h
  | e :: l, h => by
    simp only [edgeB, cond_eq_ite] at h
    split at h
    · rename_i hb
      rw [Bool.and_eq_true] at hb
      exact ⟨e, by simp, hb.2, Nat.eq_of_beq_eq_true hb.1⟩
    · obtain ⟨e', h1, h2⟩ := edgeB_spec h; exact ⟨e', by simp [h1], h2⟩

end Go.SE

namespace Go.SE
open Go Go.RowKit

def slots2 (ops : Array Oper) (x y : Oper) : Bool := disjB x.dst.toList (y.looksAt ops) && disjB y.dst.toList (x.looksAt ops) && disjB x.dst.toList y.dst.toList

def slotsOne (ops : Array Oper) (i : Nat) (x : Oper) : List (Nat × Oper) → Bool
  | [] => true
  | (_, y) :: l => bif edgeB i y.after.toList || slots2 ops x y then slotsOne ops i x l else false

def slotsAll (ops : Array Oper) : List (Nat × Oper) → Bool
  | [] => true
  | (i, x) :: l => bif slotsOne ops i x l then slotsAll ops l else false

def backOne (i : Nat) : List Go.Edge → Bool
  | [] => true
  | e :: l => bif !Region.binds .any e || Nat.blt e.on i then backOne i l else false

def backAll : List (Nat × Oper) → Bool
  | [] => true
  | (i, x) :: l => bif backOne i x.after.toList then backAll l else false

def number : Nat → List Oper → List (Nat × Oper)
  | _, [] => []
  | i, o :: l => (i, o) :: number (i + 1) l

/-- What a region's operations say of their order, apart from memory. -/
def drawOk (ops : Array Oper) : Bool := slotsAll ops (number 0 ops.toList) && backAll (number 0 ops.toList)

def wrOf : List (Nat × Reg) → List Nat
  | [] => []
  | (h, _) :: l => h :: wrOf l

def checkWs (o : Oper) (need wr : List Nat) : List (Nat × List Nat) → Bool
  | [] => true
  | (i, w) :: l => bif edgeB i o.after.toList || (disjB w need && disjB w wr) then checkWs o need wr l else false

def checkNs (o : Oper) (wr : List Nat) : List (Nat × List Nat) → Bool
  | [] => true
  | (i, nd) :: l => bif edgeB i o.after.toList || disjB wr nd then checkNs o wr l else false

def checkAll (o : Oper) (need wr : List Nat) (ns ws : List (Nat × List Nat)) : Bool :=
  bif checkWs o need wr ws then (match wr with | [] => true | x :: l => checkNs o (x :: l) ns) else false

def addW (i : Nat) (wr : List Nat) (ws : List (Nat × List Nat)) : List (Nat × List Nat) :=
  match wr with
  | [] => ws
  | x :: l => (i, x :: l) :: ws

def boolGo (v : X) (k : X → Prop) : Prop :=
  match v with
  | .t (.one (.b c)) => Unit → Split c (k (known true)) (k (known false))
  | v => k v

def boolGo2 (gd : Bool) (v : X) (k : X → Prop) : Prop := bif gd then boolGo v k else k v

/-- Whether operation i decides whether others are carried out, or which value one takes. -/
def decides (i : Nat) (d : Option Nat) : List Oper → Bool
  | [] => false
  | o :: l => bif (match o.guard with | some (j, _) => Nat.beq j i | none => false) then true else
    bif (match o.op, d with | .pick (.tmp c) _ _, some d => Nat.beq c d | _, _ => false) then true else decides i d l

structure DCall (P : Program) (f : FuncId) (args : List T) (m : M) (K : List Nat → X → List (Nat × Reg) → Nat → Prop) : Prop where
  out : (∃ args0 pre res post hs, CallCon P f args0 pre res post ∧ LeTs args (renTs (pick hs) args0) ∧ PreOk m hs pre ∧ (res.sc post.length && scRegs post.length post) = true ∧ K hs (res.ren fun k => m.nh + k) (shiftRegs m.nh post 0) (m.nh + post.length)) ∨
    (∃ g T x h k, MakesFn P f g T ∧ args = [.one x, .one (.ptr h k)] ∧ K [] (.t (.one (.fn g [(h, k), (m.nh, 0)]))) [(m.nh, .box [x] 1 T)] (m.nh + 1)) ∨
    ∃ h0 h1 res post, ConP P f res post ∧ args = [.one (.ptr h0 0), .one (.ptr h1 0)] ∧ K [] (res.ren (thP h0 h1 m.nh)) (shiftP (thP h0 h1 m.nh) m.nh post 0) (m.nh + post.length)

def drGo (gd : Bool) (o : Oper) (i : Nat) (ns ws : List (Nat × List Nat)) (next : List (Nat × List Nat) → List (Nat × List Nat) → Env → M → Prop) (env : Env) (m : M) (need : List Nat) (v : X) (rs : List (Nat × Reg)) (nh : Nat) : Prop :=
  bif checkAll o need (wrOf rs) ns ws then boolGo2 gd v fun v => env.go o.dst v fun env => m.cs fun regs _ ds => appR rs regs fun l => next ((i, need) :: ns) (addW i (wrOf rs) ws) env ⟨l, nh, ds⟩ else False

/-- A region that draws its order, in the order of its text. -/
def dr (C : Ctx) (ops : Array Oper) : List Oper → Nat → List (Nat × List Nat) → List (Nat × List Nat) → (Env → M → Prop) → Env → M → Prop
  | [], _, _, _, K, env, m => K env m
  | o :: rest, i, ns, ws, K, env, m =>
    bif putOk C o.dst then
      match guardOf ops env o with
      | .skip => drGo (decides i o.dst ops.toList) o i ns ws (fun ns ws env m => dr C ops rest (i + 1) ns ws K env m) env m [] (.tup []) [] m.nh
      | .run => match classify C.P o env m with
        | .eff e => e.cs fun v rs nh => forceX v fun v => forceRs rs fun rs => forceN nh fun nh => drGo (decides i o.dst ops.toList) o i ns ws (fun ns ws env m => dr C ops rest (i + 1) ns ws K env m) env m (needsOp env o.op) v rs nh
        | .ask p f => Unit → Asked p fun x => (f x).cs fun v rs nh => drGo (decides i o.dst ops.toList) o i ns ws (fun ns ws env m => dr C ops rest (i + 1) ns ws K env m) env m (needsOp env o.op) v rs nh
        | .call f args => C.pr fun P => Unit → DCall P f args m fun hs v rs nh => forceX v fun v => forceRs rs fun rs => forceN nh fun nh => drGo (decides i o.dst ops.toList) o i ns ws (fun ns ws env m => dr C ops rest (i + 1) ns ws K env m) env m (hs ++ needsOp env o.op) v rs nh
        | _ => False
      | _ => False
    else False

variable {C : Ctx} {ops : Array Oper}

structure MemIndep (x y : Rec) : Prop where
  w1 : ∀ h ∈ wrOf x.regs, h ∉ y.need
  w2 : ∀ h ∈ wrOf y.regs, h ∉ x.need
  w3 : ∀ h ∈ wrOf x.regs, h ∉ wrOf y.regs

structure Trace (C : Ctx) (ops : Array Oper) (l : List Oper) (i : Nat) (ns ws : List (Nat × List Nat)) (env : Env) (m : M) (env' : Env) (m' : M) (recs : List Rec) : Prop where
  num : recs.map (fun r => (r.idx, r.o)) = number i l
  looks : ∀ r ∈ recs, r.looks = r.o.looksAt ops
  lex : LexOk C ops (Fs.of env m) recs
  fin : endOf (Fs.of env m) recs = Fs.of env' m'
  ds : m'.ds = m.ds
  nh : m.nh ≤ m'.nh
  lo : ∀ r ∈ recs, m.nh ≤ r.lo ∧ r.lo ≤ r.hi ∧ r.hi ≤ m'.nh
  new : recs.Pairwise fun x y => x.hi ≤ y.lo
  mem : recs.Pairwise fun x y => Edge x y ∨ MemIndep x y
  oldW : ∀ y ∈ recs, ∀ j w, (j, w) ∈ ws → edgeB j y.o.after.toList = true ∨ (∀ h ∈ w, h ∉ y.need ∧ h ∉ wrOf y.regs)
  oldN : ∀ y ∈ recs, ∀ j nd, (j, nd) ∈ ns → edgeB j y.o.after.toList = true ∨ (∀ h ∈ wrOf y.regs, h ∉ nd)

theorem checkWs_spec {o : Oper} {need wr : List Nat} : ∀ {ws : List (Nat × List Nat)}, checkWs o need wr ws = true → ∀ j w, (j, w) ∈ ws → edgeB j o.after.toList = true ∨ (∀ h ∈ w, h ∉ need ∧ h ∉ wr)
  | [], _ => by simp
  | (i, w) :: l, h => by
    simp only [checkWs, cond_eq_ite] at h
    split at h
    · rename_i hb
      intro j w' hj
      rcases List.mem_cons.1 hj with hj | hj
      · cases hj
        rw [Bool.or_eq_true, Bool.and_eq_true] at hb
        rcases hb with hb | ⟨h1, h2⟩
        · exact .inl hb
        · exact .inr fun h hh => ⟨disjB_spec h1 h hh, disjB_spec h2 h hh⟩
      · exact checkWs_spec h j w' hj
    · cases h

theorem checkNs_spec {o : Oper} {wr : List Nat} : ∀ {ns : List (Nat × List Nat)}, checkNs o wr ns = true → ∀ j nd, (j, nd) ∈ ns → edgeB j o.after.toList = true ∨ (∀ h ∈ wr, h ∉ nd)
  | [], _ => by simp
  | (i, w) :: l, h => by
    simp only [checkNs, cond_eq_ite] at h
    split at h
    · rename_i hb
      intro j w' hj
      rcases List.mem_cons.1 hj with hj | hj
      · cases hj
        rw [Bool.or_eq_true] at hb
        rcases hb with hb | h1
        · exact .inl hb
        · exact .inr fun h hh => disjB_spec h1 h hh
      · exact checkNs_spec h j w' hj
    · cases h

theorem checkAll_spec {o : Oper} {need wr : List Nat} {ns ws : List (Nat × List Nat)} (h : checkAll o need wr ns ws = true) :
    (∀ j w, (j, w) ∈ ws → edgeB j o.after.toList = true ∨ (∀ h ∈ w, h ∉ need ∧ h ∉ wr)) ∧ (∀ j nd, (j, nd) ∈ ns → edgeB j o.after.toList = true ∨ (∀ h ∈ wr, h ∉ nd)) := by
  simp only [checkAll, cond_eq_ite] at h
  split at h
  · rename_i hw
    refine ⟨checkWs_spec hw, ?_⟩
    cases wr with
    | nil => intro j nd _; exact .inr (by simp)
    | cons x l => exact checkNs_spec h
  · cases h

theorem mem_addW {i : Nat} {wr : List Nat} {ws : List (Nat × List Nat)} : (∀ j w, (j, w) ∈ ws → (j, w) ∈ addW i wr ws) ∧ (wr ≠ [] → (i, wr) ∈ addW i wr ws) := by
  cases wr with
  | nil => exact ⟨fun j w h => h, fun h => absurd rfl h⟩
  | cons x l => exact ⟨fun j w h => by simp [addW, h], fun _ => by simp [addW]⟩

theorem edge_of {x y : Rec} (h : edgeB x.idx y.o.after.toList = true) : Edge x y := by
  obtain ⟨e, h1, h2, h3⟩ := edgeB_spec h
  exact ⟨e, by simpa using h1, h2, h3⟩

/-- One record ahead of a trace. -/
theorem Trace.cons {o : Oper} {l : List Oper} {i : Nat} {ns ws : List (Nat × List Nat)} {env env' : Env} {m m' : M} {recs : List Rec} {need : List Nat} {v : X} {rs : List (Nat × Reg)} {nh : Nat}
    (hc : checkAll o need (wrOf rs) ns ws = true) (hle : m.nh ≤ nh) (hv : Rec.Valid C ops ⟨i, o, o.looksAt ops, need, v, rs, m.nh, nh⟩ (Fs.of env m))
    (h : Trace C ops l (i + 1) ((i, need) :: ns) (addW i (wrOf rs) ws) (putEnv env o.dst v) ⟨rs ++ m.regs, nh, m.ds⟩ env' m' recs) :
    Trace C ops (o :: l) i ns ws env m env' m' (⟨i, o, o.looksAt ops, need, v, rs, m.nh, nh⟩ :: recs) := by
  obtain ⟨c1, c2⟩ := checkAll_spec hc
  have happ : Rec.app ⟨i, o, o.looksAt ops, need, v, rs, m.nh, nh⟩ (Fs.of env m) = Fs.of (putEnv env o.dst v) ⟨rs ++ m.regs, nh, m.ds⟩ := by
    unfold Rec.app Fs.of
    congr 1
    · funext k; simp only; rw [putEnv_get]
    · funext k; simp only [M.reg]; rw [regGet_append_left]
  refine ⟨?_, ?_, ⟨hv, by rw [happ]; exact h.lex⟩, by simp only [endOf]; rw [happ]; exact h.fin, h.ds, Nat.le_trans hle h.nh, ?_, ?_, ?_, ?_, ?_⟩
  · simp only [List.map_cons, number, h.num]
  · intro r hr
    rcases List.mem_cons.1 hr with rfl | hr
    · rfl
    · exact h.looks r hr
  · intro r hr
    rcases List.mem_cons.1 hr with rfl | hr
    · exact ⟨Nat.le_refl _, hle, h.nh⟩
    · have := h.lo r hr
      exact ⟨Nat.le_trans hle this.1, this.2⟩
  · exact List.pairwise_cons.2 ⟨fun r hr => (h.lo r hr).1, h.new⟩
  · refine List.pairwise_cons.2 ⟨fun y hy => ?_, h.mem⟩
    rcases h.oldN y hy i need (by simp) with h1 | h1
    · exact .inl (edge_of h1)
    · by_cases hw : wrOf rs = []
      · exact .inr ⟨by simp [hw], h1, by simp [hw]⟩
      · rcases h.oldW y hy i (wrOf rs) (mem_addW.2 hw) with h2 | h2
        · exact .inl (edge_of h2)
        · exact .inr ⟨fun k hk => (h2 k hk).1, h1, fun k hk => (h2 k hk).2⟩
  · intro y hy j w hj
    rcases List.mem_cons.1 hy with rfl | hy
    · exact c1 j w hj
    · exact h.oldW y hy j w (mem_addW.1 j w hj)
  · intro y hy j nd hj
    rcases List.mem_cons.1 hy with rfl | hy
    · exact c2 j nd hj
    · exact h.oldN y hy j nd (by simp [hj])

theorem boolGo_spec {v : X} {k : X → Prop} (h : boolGo v k) : ∃ v', (∀ ρ y, v.Rel ρ y → v'.Rel ρ y) ∧ k v' := by
  unfold boolGo at h
  split at h
  · rename_i c
    have hs := h ()
    cases c
    · exact ⟨known false, fun ρ y hy => ⟨hy, rfl⟩, hs.no rfl⟩
    · exact ⟨known true, fun ρ y hy => ⟨hy, rfl⟩, hs.yes rfl⟩
  · exact ⟨v, fun _ _ h => h, h⟩

theorem boolGo2_spec {gd : Bool} {v : X} {k : X → Prop} (h : boolGo2 gd v k) : ∃ v', (∀ ρ y, v.Rel ρ y → v'.Rel ρ y) ∧ k v' := by
  cases gd
  · exact ⟨v, fun _ _ h => h, h⟩
  · exact boolGo_spec h

theorem drGo_spec {o : Oper} {l : List Oper} {i : Nat} {ns ws : List (Nat × List Nat)} {K : Env → M → Prop} {env : Env} {m : M} {need : List Nat} {v : X} {rs : List (Nat × Reg)} {nh : Nat} {next : List (Nat × List Nat) → List (Nat × List Nat) → Env → M → Prop}
    {gd : Bool} (h : drGo gd o i ns ws next env m need v rs nh) (hnext : ∀ ns ws env m, next ns ws env m → ∃ recs env' m', Trace C ops l (i + 1) ns ws env m env' m' recs ∧ K env' m')
    (hle : m.nh ≤ nh) (hv : ∀ v', (∀ ρ y, v.Rel ρ y → v'.Rel ρ y) → Rec.Valid C ops ⟨i, o, o.looksAt ops, need, v', rs, m.nh, nh⟩ (Fs.of env m)) :
    ∃ recs env' m', Trace C ops (o :: l) i ns ws env m env' m' recs ∧ K env' m' := by
  simp only [drGo, cond_eq_ite, Env.go_eq, M.cs_eq, appR_eq] at h
  split at h
  · rename_i hc
    obtain ⟨v', h1, h2⟩ := boolGo2_spec h
    obtain ⟨recs, env', m', h3, h4⟩ := hnext _ _ _ _ h2
    exact ⟨_, env', m', Trace.cons hc hle (hv v' h1) h3, h4⟩
  · exact h.elim

theorem dr_trace : ∀ (l : List Oper) (i : Nat) (ns ws : List (Nat × List Nat)) (K : Env → M → Prop) (env : Env) (m : M), dr C ops l i ns ws K env m → ∃ recs env' m', Trace C ops l i ns ws env m env' m' recs ∧ K env' m'
  | [], i, ns, ws, K, env, m, h => ⟨[], env, m, ⟨rfl, by simp, trivial, rfl, rfl, Nat.le_refl _, by simp, List.Pairwise.nil, List.Pairwise.nil, by simp, by simp⟩, h⟩
  | o :: rest, i, ns, ws, K, env, m, h => by
    have ih := fun ns ws env m h => dr_trace rest (i + 1) ns ws K env m h
    simp only [dr, cond_eq_ite] at h
    split at h
    · rename_i hd
      split at h
      · rename_i hg
        exact drGo_spec h ih (Nat.le_refl _) fun v' hv => by
          have := valid_skip (C := C) (ops := ops) (i := i) (env := env) (m := m) hd hg []
          intro env2 m2 hag
          have h2 := this env2 m2 ⟨hag.ce, hag.cr, hag.nh⟩
          obtain ⟨q1, q2⟩ := h2
          refine ⟨q1, fun F hF n B w0 D ρ a w Q KK hn hok hK => q2 F hF n B w0 D ρ a w Q KK hn hok fun ρ' a' w' g1 g2 g3 => hK ρ' a' w' g1 g2 ⟨fun ρ'' hh => ?_, g3.mem, g3.size⟩⟩
          intro k x hk
          have g4 := g3.env ρ'' hh
          rw [putEnv_get] at hk
          split at hk
          · rename_i hdk
            cases hk
            obtain ⟨y, h5, h6⟩ := g4 k (.tup []) (by rw [putEnv_get, if_pos hdk])
            exact ⟨y, h5, hv ρ'' y h6⟩
          · rename_i hdk
            exact g4 k x (by rw [putEnv_get, if_neg hdk]; exact hk)
      · rename_i hg
        have hok := classify_ok C.P o env m
        split at h
        · rename_i e he
          rw [he] at hok
          simp only [Eff.cs_eq, forceX_eq, forceRs_eq, forceN_eq] at h
          exact drGo_spec h ih hok.1 fun v' hv => valid_eff hd hg (.inl he) hv
        · rename_i p f he
          rw [he] at hok
          obtain ⟨x, hp, h⟩ := (h ()).out
          simp only [Eff.cs_eq] at h
          exact drGo_spec h ih (hok x hp).1 fun v' hv => valid_eff hd hg (.inr ⟨_, p, f, x, he, hp, rfl⟩) hv
        · rename_i f args he
          rw [Ctx.pr_eq] at h
          rcases (h ()).out with ⟨args0, pre, res, post, hs, hcon, hargs, hpre, hsc, h⟩ | ⟨g, T, x, h', k', hF, rfl, hlast⟩ | ⟨h0, h1, res, post, hF, rfl, hlast⟩
          · simp only [forceX_eq, forceRs_eq, forceN_eq] at h
            exact drGo_spec h ih (Nat.le_add_right _ _) fun v' hv => valid_call hd hg he hcon hargs hpre hsc hv
          · simp only [forceX_eq, forceRs_eq, forceN_eq] at hlast
            exact drGo_spec hlast ih (Nat.le_add_right _ _) fun v' hv => valid_mkfn hd hg he hF hv
          · simp only [forceX_eq, forceRs_eq, forceN_eq] at hlast
            exact drGo_spec hlast ih (Nat.le_add_right _ _) fun v' hv => valid_callP hd hg he hF hv
        · exact h.elim
      · exact h.elim
    · exact h.elim

end Go.SE

namespace Go.SE
open Go Go.RowKit
variable {C : Ctx} {ops : Array Oper}

theorem number_get : ∀ (l : List Oper) (i : Nat) (p : Nat × Oper), p ∈ number i l ↔ i ≤ p.1 ∧ l[p.1 - i]? = some p.2
  | [], i, p => by simp [number]
  | o :: l, i, (j, x) => by
    simp only [number, List.mem_cons, number_get l (i + 1) (j, x)]
    constructor
    · rintro (h | ⟨h1, h2⟩)
      · cases h; simp
      · refine ⟨by omega, ?_⟩
        rw [show j - i = (j - (i + 1)) + 1 by omega]
        simpa using h2
    · rintro ⟨h1, h2⟩
      by_cases h : j = i
      · subst h; simp at h2; left; rw [h2]
      · right
        have h1' : i ≤ j := h1
        refine ⟨by omega, ?_⟩
        have h2' : (o :: l)[j - i]? = some x := h2
        rw [show j - i = (j - (i + 1)) + 1 by omega] at h2'
        simpa using h2'

theorem number_length : ∀ (l : List Oper) (i : Nat), (number i l).length = l.length
  | [], _ => rfl
  | _ :: l, i => by simp [number, number_length l]

theorem number_up : ∀ (l : List Oper) (i : Nat), (number i l).Pairwise fun p q => p.1 < q.1
  | [], _ => List.Pairwise.nil
  | o :: l, i => List.pairwise_cons.2 ⟨fun q hq => by have := ((number_get l (i + 1) q).1 hq).1; show i < q.1; omega, number_up l (i + 1)⟩

theorem slotsOne_spec {i : Nat} {x : Oper} : ∀ {l : List (Nat × Oper)}, slotsOne ops i x l = true → ∀ q ∈ l, edgeB i q.2.after.toList = true ∨ slots2 ops x q.2 = true
  | [], _ => by simp
  | (j, y) :: l, h => by
    simp only [slotsOne, cond_eq_ite] at h
    split at h
    · rename_i hb
      intro q hq
      rcases List.mem_cons.1 hq with rfl | hq
      · simpa using hb
      · exact slotsOne_spec h q hq
    · cases h

theorem slotsAll_spec : ∀ {l : List (Nat × Oper)}, slotsAll ops l = true → l.Pairwise fun p q => edgeB p.1 q.2.after.toList = true ∨ slots2 ops p.2 q.2 = true
  | [], _ => List.Pairwise.nil
  | (i, x) :: l, h => by
    simp only [slotsAll, cond_eq_ite] at h
    split at h
    · rename_i hb; exact List.pairwise_cons.2 ⟨slotsOne_spec hb, slotsAll_spec h⟩
    · cases h

theorem backOne_spec {i : Nat} : ∀ {l : List Go.Edge}, backOne i l = true → ∀ e ∈ l, Region.binds .any e = true → e.on < i
  | [], _ => by simp
  | e :: l, h => by
    simp only [backOne, cond_eq_ite] at h
    split at h
    · rename_i hb
      intro e' he hbi
      rcases List.mem_cons.1 he with rfl | he
      · rw [hbi] at hb; exact Nat.le_of_ble_eq_true hb
      · exact backOne_spec h e' he hbi
    · cases h

theorem backAll_spec : ∀ {l : List (Nat × Oper)}, backAll l = true → ∀ p ∈ l, ∀ e ∈ p.2.after, Region.binds .any e = true → e.on < p.1
  | [], _ => by simp
  | (i, x) :: l, h => by
    simp only [backAll, cond_eq_ite] at h
    split at h
    · rename_i hb
      intro p hp
      rcases List.mem_cons.1 hp with rfl | hp
      · intro e he; exact backOne_spec hb e (by simpa using he)
      · exact backAll_spec h p hp
    · cases h

theorem wrOf_isSome : ∀ {l : List (Nat × Reg)} {h : Nat}, (regGet l h).isSome = true → h ∈ wrOf l
  | [], h, e => by simp [regGet] at e
  | (k, r) :: l, h, e => by
    simp only [regGet, cond_eq_ite] at e
    split at e
    · rename_i hb; simp [wrOf, Nat.eq_of_beq_eq_true hb]
    · simp [wrOf, wrOf_isSome e]

theorem indep_of {x y : Rec} (hx : x.looks = x.o.looksAt ops) (hy : y.looks = y.o.looksAt ops) (hs : slots2 ops x.o y.o = true) (hm : MemIndep x y) : Indep x y := by
  unfold slots2 at hs
  rw [Bool.and_eq_true, Bool.and_eq_true] at hs
  obtain ⟨⟨h1, h2⟩, h3⟩ := hs
  refine ⟨fun k hk => ?_, fun k hk => ?_, fun k hk hk' => ?_, fun h hh => hm.w1 h (wrOf_isSome hh), fun h hh => hm.w2 h (wrOf_isSome hh), fun h hh hh' => hm.w3 h (wrOf_isSome hh) (wrOf_isSome hh')⟩
  · rw [hy]; exact disjB_spec h1 k (by simp [hk])
  · rw [hx]; exact disjB_spec h2 k (by simp [hk])
  · exact disjB_spec h3 k (by simp [hk]) (by simp [hk'])

theorem MOk.drew {P : Program} {B : Nat} {w0 : World} {ρ : Rho} {m : M} {w : World} (h : MOk P B w0 ρ m w) : MOk P B w0 ρ m w.drew :=
  ⟨fun k r hr => (h.regs k r hr).same (fun _ _ => rfl) (Nat.le_refl _), h.dist, h.base, h.below.drew, h.hB⟩

/-- **A region that draws its order.** -/
theorem draw_step {id : Nat} {Q : Exit → Env → M → Prop} {env : Env} {m : M} (hm : C.P.follows .mixedOrders = true) (hst : drawOk ops = true) (h : dr C ops ops.toList 0 [] [] (Q .normal) env m) : SCode C (.region id ops true) Q env m := by
  refine ⟨fun hg n B w0 ρ a w hok hp => ?_⟩
  obtain ⟨recs, env', m', ht, hK⟩ := dr_trace _ _ _ _ _ _ _ h
  unfold drawOk at hst
  rw [Bool.and_eq_true] at hst
  have hmem : ∀ r ∈ recs, (r.idx, r.o) ∈ number 0 ops.toList := fun r hr => by rw [← ht.num]; exact List.mem_map.2 ⟨r, hr, rfl⟩
  have hop : ∀ r ∈ recs, ops[r.idx]? = some r.o := fun r hr => by
    have := ((number_get _ _ _).1 (hmem r hr)).2
    simpa using this
  have hup : recs.Pairwise fun x y => x.idx < y.idx := by
    have := number_up ops.toList 0
    rw [← ht.num, List.pairwise_map] at this
    exact this
  have hslots : recs.Pairwise fun x y => edgeB x.idx y.o.after.toList = true ∨ slots2 ops x.o y.o = true := by
    have := slotsAll_spec hst.1
    rw [← ht.num, List.pairwise_map] at this
    exact this
  have hpair : recs.Pairwise fun x y => Indep x y ∨ Edge x y := by
    refine List.Pairwise.imp_of_mem (R := fun x y => (edgeB x.idx y.o.after.toList = true ∨ slots2 ops x.o y.o = true) ∧ (Edge x y ∨ MemIndep x y)) (fun {x y} hx hy hh => ?_) (hslots.and ht.mem)
    obtain ⟨h1, h2⟩ := hh
    rcases h1 with h1 | h1
    · exact .inr (edge_of h1)
    · rcases h2 with h2 | h2
      · exact .inr h2
      · exact .inl (indep_of (ht.looks x hx) (ht.looks y hy) h1 h2)
  have hlot : Lot ops recs := by
    refine ⟨hop, hup, hpair, ht.new.imp fun {x y} hh k hk hk' => ?_, fun r hr => backAll_spec hst.2 _ (hmem r hr)⟩
    have := hk.2; have := hk'.1; omega
  have hlen : recs.length = ops.size := by
    have := congrArg List.length ht.num
    simpa [number_length] using this
  refine wpIn_region_any hm ?_
  refine draw_any (C := C) (B := B) (w0 := w0) ⟨ρ, rfl⟩ ops.size recs _ (Fs.of env m) (Lex m) ρ a _ hlen hlot ht.lex (by simp) (fun i hi => ?_) (fun r hr k hk hl => ?_) ?_ (fun D' ρ' a' w' hD' hag hdef hok' => ?_)
  · constructor
    · intro _
      have : (i, ops[i]) ∈ number 0 ops.toList := (number_get _ _ _).2 ⟨Nat.zero_le _, by simp [hi]⟩
      rw [← ht.num] at this
      obtain ⟨r, hr, he⟩ := List.mem_map.1 this
      exact ⟨r, hr, congrArg Prod.fst he⟩
    · intro _; simp [Array.getD, hi]
  · have := (ht.lo r hr).1; have := hk.1; unfold Lex at hl; omega
  · refine ⟨env, m.regs, rfl, rfl, fun k ds => ?_⟩
    refine Ok.nh (k := m.nh) (ds := m.ds) ⟨hok.ok.env, fun ρ' hag => (hok.ok.mem ρ' hag).drew, hok.ok.size⟩
  · rw [ht.fin] at hok'
    obtain ⟨env2, regs2, he, hr, hok2⟩ := hok'
    have hDm : ∀ k, D' k → Lex m' k := fun k hk => by
      rcases (hD' k).1 hk with h1 | ⟨r, hr, h1⟩
      · exact Nat.lt_of_lt_of_le h1 ht.nh
      · have := (ht.lo r hr).2.2; have := h1.2; unfold Lex; omega
    have hreg : ∀ k, m'.reg k = regGet regs2 k := fun k => by rw [hr]; rfl
    have hok3 := (hok2 0 []).dom hDm
    refine ⟨ρ', env', m', fun k hk => hag k (by unfold Lex; omega), Nat.le_trans hp ht.nh, ⟨⟨fun ρ'' hh k x hx => ?_, fun ρ'' hh => ?_, hok3.size⟩, fun ρ'' hh => ?_⟩, hK⟩
    · have : env2.get k = some x := by rw [he]; exact hx
      exact hok3.env ρ'' hh k x this
    · have h5 := hok3.mem ρ'' hh
      exact ⟨fun k r hk => h5.regs k r ((hreg k).symm.trans hk), fun k k' r r' hk hk' => h5.dist k k' r r' ((hreg k).symm.trans hk) ((hreg k').symm.trans hk'), fun k r hk => h5.base k r ((hreg k).symm.trans hk), h5.below, h5.hB⟩
    · rw [hdef, ht.ds]
      refine hok.ds ρ'' fun k hk => (hh k (Nat.lt_of_lt_of_le hk ht.nh)).trans (hag k hk)

end Go.SE

namespace Go.SE
open Go Go.RowKit
variable {P : Program}

theorem cell_int {w : World} {r : Reach} {base : Nat} {u : TypeId} {v : Value} {k : IntKind} (h : Cell.okWide P w r base u v) (hu : P.underlying u = some (.int k)) : ∃ n, v = .int k n ∧ k.has n := by
  simp only [Cell.okWide, hu] at h
  cases v <;> simp_all [Cell.ok]

def intsOf : List IntKind → List Int → List Value
  | k :: ks, n :: ns => .int k n :: intsOf ks ns
  | _, _ => []

def HasAll : List IntKind → List Int → Prop
  | k :: ks, n :: ns => k.has n ∧ HasAll ks ns
  | [], [] => True
  | _, _ => False

theorem ints_of_cells : ∀ (ks : List IntKind) (vs : List Value), vs.length = ks.length → (∀ (i : Nat) (k : IntKind), ks[i]? = some k → ∃ n, vs[i]? = some (.int k n) ∧ k.has n) → ∃ ns : List Int, vs = intsOf ks ns ∧ HasAll ks ns
  | [], [], _, _ => ⟨[], rfl, trivial⟩
  | [], _ :: _, h, _ => by simp at h
  | _ :: _, [], h, _ => by simp at h
  | k :: ks, v :: vs, hl, h => by
    obtain ⟨n, h1, h2⟩ := h 0 k rfl
    simp at h1
    subst h1
    obtain ⟨ns, rfl, h3⟩ := ints_of_cells ks vs (by simpa using hl) fun i k' hk => h (i + 1) k' (by simpa using hk)
    exact ⟨n :: ns, rfl, h2, h3⟩

/-- The cells of a value that is made of integers alone. -/
theorem okWide_ints {w : World} {base : Nat} {t : TypeId} {fs : Array Field} {v : Value} (ht : P.underlying t = some (.struct fs)) (ts : List TypeId) (ks : List IntKind) (hts : P.cellTypes P.depth t = some ts) (hks : (ts.map P.underlying) = ks.map fun k => some (TypeDesc.int k))
    (hn : P.cellsOf t = ks.length) (h : Value.okWide P w .any base t v) : ∃ ns : List Int, v = .agg (intsOf ks ns).toArray ∧ HasAll ks ns := by
  simp only [Value.okWide, ht] at h
  obtain ⟨cs, rfl, hsz, ts', hts', _, hc⟩ := h
  rw [hts] at hts'
  cases hts'
  have hlen : ts.length = ks.length := by simpa using congrArg List.length hks
  obtain ⟨ns, h1, h2⟩ := ints_of_cells ks cs.toList (by simp; omega) fun i k hk => by
    have hi : i < ks.length := (List.getElem?_eq_some_iff.1 hk).1
    have h1 : i < cs.size := by omega
    obtain ⟨u, hu, hcell⟩ := hc i cs[i] (by simp [h1])
    rw [hlen, Nat.mod_eq_of_lt hi] at hu
    have h2 := congrArg (·[i]?) hks
    simp only [List.getElem?_map, hu, Option.map_some, hk] at h2
    obtain ⟨n, h3, h4⟩ := cell_int hcell (Option.some.inj h2)
    exact ⟨n, by simp [h1, h3], h4⟩
  refine ⟨ns, ?_, h2⟩
  rw [← h1]

/-- **A law's contract, as the rows ask for it.** -/
theorem law_calls {f : FuncId} {args : List T} {pre : List Reg} {w : World} {ys : List Value} (h : CallCon P f args pre (.t (.one (.v (.bool true)))) []) (ρ : Rho) (hpre : ∀ i r, pre[i]? = some r → RegOk ρ w i r) (hargs : TsRel ρ args ys) :
    Calls P f ys.toArray w fun e w' => e = .returned (.bool true) ∧ Below w.heap.size w w' := by
  refine (callsIn_wide (n := 0)).1 ((h.go 0 ρ w ys hpre hargs).mono ?_)
  rintro e w' ⟨v, ρ', rfl, h1, _, _, h4⟩
  exact ⟨by rw [h1.1], h4⟩

end Go.SE
