/- Atomics, sync.Once, locks and deferred calls in the executor; the lift to a row that says that time may pass. No condition. -/
import Derived.Test.YtlefpinmgabmfaaGreatSeD
import Derived.CallsIn
import Derived.Conc.HoldsTime
import Derived.Lone
import Derived.LoneHanded
import Derived.Leaving
import Derived.RaceLone
import Derived.CallAlone
import Derived.Conc.RwLoneW
namespace Go.SE
open Go Go.RowKit

/-- A cell of a box is set. -/
theorem MemL.setC {P : Program} {B : Nat} {w0 : World} {ρ : Rho} {m : M} {w : World} {h k : Nat} {s : S} {cells cells' : List S} {sz : Nat} {e : TypeId} {v : Value} (hm : MemL P B w0 ρ m w) (hr : m.reg h = some (.box cells sz e)) (hh : h < m.nh)
    (hs : ∀ ρ', S.Rel ρ' s v) (hc : setAt cells k [s] = cells') : MemL P B w0 ρ ⟨(h, .box cells' sz e) :: m.regs, m.nh, m.ds⟩ (w.setCell ⟨(ρ h).blk, k, none⟩ v) := by
  subst hc
  intro ρ' hag
  have hm' := hm ρ' hag
  obtain ⟨g1, g2, g3, ys, g4, g5⟩ := hm'.regs _ _ hr
  have e1 : ρ' h = ρ h := hag h hh
  have g6 := g5.setAt (l' := [s]) (ys' := [v]) ⟨hs ρ', trivial⟩ k
  have g7 : setVals ys k [v] = ys.set k v := by rw [setVals_cons, setVals_nil]
  have := hm'.write (r' := .box (setAt cells k [s]) sz e) (k := m.nh) (w' := w.setCell ⟨(ρ h).blk, k, none⟩ v) hr rfl g1 (by rw [e1]; exact SameBut.setCell w ⟨(ρ h).blk, k, none⟩ v) (by
    refine ⟨g1, g2, ?_, ys.set k v, ?_, ?_⟩
    · have := g6.length
      rw [setVals_length] at this
      have h2 := g5.length
      omega
    · rw [e1] at g4 ⊢
      exact heap_setCell_same v g4
    · rw [← g7]; exact g6) .unk
  exact this ⟨fun _ => rfl, fun _ => rfl⟩

theorem box_cellS {P : Program} {B : Nat} {w0 : World} {ρ : Rho} {m : M} {w : World} {h k : Nat} {s : S} {cells : List S} {sz : Nat} {e : TypeId} (hm : MemL P B w0 ρ m w) (hr : m.reg h = some (.box cells sz e)) (hs : nth cells k = some s) :
    (∃ y, w.cell? ⟨(ρ h).blk, k, none⟩ = some y ∧ s.Rel ρ y) ∧ w.frozen? ⟨(ρ h).blk, k, none⟩ = false := by
  obtain ⟨g2, ys, g3, g4, g5⟩ := box_cell ((hm ρ (Agree.refl _ _)).regs _ _ hr)
  obtain ⟨y, h1, h2⟩ := g4.nth hs
  exact ⟨⟨y, by rw [g5]; exact h1, h2⟩, by simp [World.frozen?, g3]⟩

theorem ptrVal_box {P : Program} {B : Nat} {w0 : World} {ρ : Rho} {m : M} {w : World} {h k : Nat} {cells : List S} {sz : Nat} {e : TypeId} (hm : MemL P B w0 ρ m w) (hr : m.reg h = some (.box cells sz e)) :
    ptrVal ρ h k = .pointer (some ⟨(ρ h).blk, k, none⟩) := by
  obtain ⟨_, g2, _⟩ := (hm ρ (Agree.refl _ _)).regs _ _ hr
  simp [ptrVal, g2]

/-- '(*sync/atomic.Int32).Load', by itself. -/
def Load32 (P : Program) (f : FuncId) : Prop := (∀ ys w, (callFunc f ys).run P w = .ok (.enter f ys) w) ∧ ∀ (a : Addr) (x : Int) (w : World), w.cell? a = some (.int .i32 x) → Calls P f #[.pointer (some a)] w fun e w' => e = .returned (.int .i32 x) ∧ w' = w
/-- '(*sync/atomic.Int32).Add' of 1 to 0, by itself. -/
def Add32 (P : Program) (f : FuncId) : Prop := (∀ ys w, (callFunc f ys).run P w = .ok (.enter f ys) w) ∧ ∀ (a : Addr) (w : World), w.cell? a = some (.int .i32 0) → w.frozen? a = false → Calls P f #[.pointer (some a), .int .i32 1] w fun e w' => e = .returned (.int .i32 1) ∧ w' = w.setCell a (.int .i32 1)
/-- '(*sync.Once).Do', not yet done, the lock free. -/
def OnceFirst (P : Program) (f g : FuncId) : Prop := (∀ ys w, (callFunc f ys).run P w = .ok (.enter f ys) w) ∧ ∀ (b off : Nat) (c : Value) (R : World → Prop) (w : World),
    w.cell? ⟨b, off, none⟩ = some (.int .u32 0) → w.cell? ⟨b, off + 1, none⟩ = some (.int .i32 0) → w.frozen? ⟨b, off, none⟩ = false → w.frozen? ⟨b, off + 1, none⟩ = false →
    (Calls P g #[c] (w.setCell ⟨b, off + 1, none⟩ (.int .i32 1)) fun e w1 => e = .returned (.tuple #[]) ∧ (w1.cell? ⟨b, off, none⟩ = some (.int .u32 0) ∧ w1.cell? ⟨b, off + 1, none⟩ = some (.int .i32 1) ∧
      w1.frozen? ⟨b, off, none⟩ = false ∧ w1.frozen? ⟨b, off + 1, none⟩ = false ∧ R w1)) →
    Calls P f #[.pointer (some ⟨b, off, none⟩), .func (.func g) #[] #[c]] w fun e w' => e = .returned (.tuple #[]) ∧ ∃ w1, R w1 ∧ w' = (w1.drew.setCell ⟨b, off, none⟩ (.int .u32 1)).setCell ⟨b, off + 1, none⟩ (.int .i32 0)
/-- '(*sync.Once).Do', done already. -/
def OnceDone (P : Program) (f : FuncId) : Prop := (∀ ys w, (callFunc f ys).run P w = .ok (.enter f ys) w) ∧ ∀ (a : Addr) (fv : Value) (w : World), w.cell? a = some (.int .u32 1) →
    Calls P f #[.pointer (some a), fv] w fun e w' => e = .returned (.tuple #[]) ∧ w' = w

theorem call_load32 {P : Program} {f : FuncId} {h k : Nat} {m : M} {K : X → M → Prop} {cells : List S} {sz : Nat} {e : TypeId} {x : Int} (hL : Load32 P f) (hr : m.reg h = some (.box cells sz e)) (h0 : nth cells k = some (.n .i32 x))
    (hK : K (.t (.one (.n .i32 x))) m) : SCall P f [.one (.ptr h k)] m K := by
  refine ⟨hL.1, fun n B w0 ρ w ys hm hys => ?_⟩
  obtain ⟨⟨y, h1, h2⟩, h3⟩ := box_cellS hm hr h0
  cases h2
  have hy := hys ρ (Agree.refl _ _)
  match ys, hy with
  | [y1], ⟨q1, _⟩ =>
    have q1 : y1 = ptrVal ρ h k := q1
    rw [q1, ptrVal_box hm hr]
    refine (callsIn_wide.2 (hL.2 _ x w h1)).mono ?_
    rintro e w' ⟨rfl, rfl⟩
    exact ⟨_, .t (.one (.n .i32 x)), ρ, m, rfl, Agree.refl _ _, Nat.le_refl _, hm, fun _ _ => rfl, hK⟩

theorem call_add32 {P : Program} {f : FuncId} {h k : Nat} {m : M} {K : X → M → Prop} {cells l : List S} {sz : Nat} {e : TypeId} (hL : Add32 P f) (hr : m.reg h = some (.box cells sz e)) (hh : Nat.blt h m.nh = true) (h0 : nth cells k = some (.n .i32 0))
    (hl : setAt cells k [.n .i32 1] = l) (hK : K (.t (.one (.n .i32 1))) ⟨(h, .box l sz e) :: m.regs, m.nh, m.ds⟩) : SCall P f [.one (.ptr h k), .one (.n .i32 1)] m K := by
  refine ⟨hL.1, fun n B w0 ρ w ys hm hys => ?_⟩
  obtain ⟨⟨y, h1, h2⟩, h3⟩ := box_cellS hm hr h0
  cases h2
  have hy := hys ρ (Agree.refl _ _)
  match ys, hy with
  | [y1, y2], ⟨q1, q2, _⟩ =>
    have q1 : y1 = ptrVal ρ h k := q1
    have q2 : y2 = .int .i32 1 := q2
    rw [q1, q2, ptrVal_box hm hr]
    refine (callsIn_wide.2 (hL.2 _ w h1 h3)).mono ?_
    rintro e w' ⟨rfl, rfl⟩
    exact ⟨_, .t (.one (.n .i32 1)), ρ, ⟨(h, .box l sz _) :: m.regs, m.nh, m.ds⟩, rfl, Agree.refl _ _, Nat.le_refl _, hm.setC (s := .n .i32 1) hr (Nat.le_of_ble_eq_true hh) (fun _ => rfl) hl, fun _ _ => rfl, hK⟩

/-- '(*sync/atomic.Int64).Load', by itself. -/
def Load64 (P : Program) (f : FuncId) : Prop := (∀ ys w, (callFunc f ys).run P w = .ok (.enter f ys) w) ∧ ∀ (a : Addr) (x : Int) (w : World), w.cell? a = some (.int .i64 x) → Calls P f #[.pointer (some a)] w fun e w' => e = .returned (.int .i64 x) ∧ w' = w
/-- '(*sync/atomic.Int64).Add' of 1, by itself. -/
def Add64 (P : Program) (f : FuncId) : Prop := (∀ ys w, (callFunc f ys).run P w = .ok (.enter f ys) w) ∧ ∀ (a : Addr) (x : Int) (w : World), w.cell? a = some (.int .i64 x) → w.frozen? a = false → Calls P f #[.pointer (some a), .int .i64 1] w fun e w' => e = .returned (.int .i64 (IntKind.wrap .i64 (x + 1))) ∧ w' = w.setCell a (.int .i64 (IntKind.wrap .i64 (x + 1)))

theorem call_load64 {P : Program} {f : FuncId} {h k : Nat} {m : M} {K : X → M → Prop} {cells : List S} {sz : Nat} {e : TypeId} {x : Int} (hL : Load64 P f) (hr : m.reg h = some (.box cells sz e)) (h0 : nth cells k = some (.n .i64 x))
    (hK : K (.t (.one (.n .i64 x))) m) : SCall P f [.one (.ptr h k)] m K := by
  refine ⟨hL.1, fun n B w0 ρ w ys hm hys => ?_⟩
  obtain ⟨⟨y, h1, h2⟩, h3⟩ := box_cellS hm hr h0
  cases h2
  have hy := hys ρ (Agree.refl _ _)
  match ys, hy with
  | [y1], ⟨q1, _⟩ =>
    have q1 : y1 = ptrVal ρ h k := q1
    rw [q1, ptrVal_box hm hr]
    refine (callsIn_wide.2 (hL.2 _ x w h1)).mono ?_
    rintro e w' ⟨rfl, rfl⟩
    exact ⟨_, .t (.one (.n .i64 x)), ρ, m, rfl, Agree.refl _ _, Nat.le_refl _, hm, fun _ _ => rfl, hK⟩

theorem call_add64 {P : Program} {f : FuncId} {h k : Nat} {m : M} {K : X → M → Prop} {cells l : List S} {sz : Nat} {e : TypeId} {x : Int} (s : S) (hL : Add64 P f) (hr : m.reg h = some (.box cells sz e)) (hh : Nat.blt h m.nh = true) (h0 : nth cells k = some (.n .i64 x))
    (hs : ∀ ρ', S.Rel ρ' s (.int .i64 (IntKind.wrap .i64 (x + 1)))) (hl : setAt cells k [s] = l) (hK : K (.t (.one s)) ⟨(h, .box l sz e) :: m.regs, m.nh, m.ds⟩) : SCall P f [.one (.ptr h k), .one (.n .i64 1)] m K := by
  refine ⟨hL.1, fun n B w0 ρ w ys hm hys => ?_⟩
  obtain ⟨⟨y, h1, h2⟩, h3⟩ := box_cellS hm hr h0
  cases h2
  have hy := hys ρ (Agree.refl _ _)
  match ys, hy with
  | [y1, y2], ⟨q1, q2, _⟩ =>
    have q1 : y1 = ptrVal ρ h k := q1
    have q2 : y2 = .int .i64 1 := q2
    rw [q1, q2, ptrVal_box hm hr]
    refine (callsIn_wide.2 (hL.2 _ x w h1 h3)).mono ?_
    rintro e w' ⟨rfl, rfl⟩
    exact ⟨_, .t (.one s), ρ, ⟨(h, .box l sz _) :: m.regs, m.nh, m.ds⟩, rfl, Agree.refl _ _, Nat.le_refl _, hm.setC (s := s) hr (Nat.le_of_ble_eq_true hh) hs hl, fun _ _ => hs _, hK⟩

theorem once_done {P : Program} {f g : FuncId} {h k : Nat} {cp : List (Nat × Nat)} {m : M} {K : X → M → Prop} {cells : List S} {sz : Nat} {e : TypeId} (hL : OnceDone P f) (hr : m.reg h = some (.box cells sz e)) (h0 : nth cells k = some (.n .u32 1))
    (hK : K (.tup []) m) : SCall P f [.one (.ptr h k), .one (.fn g cp)] m K := by
  refine ⟨hL.1, fun n B w0 ρ w ys hm hys => ?_⟩
  obtain ⟨⟨y, h1, h2⟩, h3⟩ := box_cellS hm hr h0
  cases h2
  have hy := hys ρ (Agree.refl _ _)
  match ys, hy with
  | [y1, y2], ⟨q1, q2, _⟩ =>
    have q1 : y1 = ptrVal ρ h k := q1
    rw [q1, ptrVal_box hm hr]
    refine (callsIn_wide.2 (hL.2 _ y2 w h1)).mono ?_
    rintro e w' ⟨rfl, rfl⟩
    exact ⟨_, .tup [], ρ, m, rfl, Agree.refl _ _, Nat.le_refl _, hm, fun _ _ => ⟨[], rfl, trivial⟩, hK⟩

/-- Behind the function that a Once calls: the lock and the mark are as they were. -/
structure OnceEnd (h k : Nat) (K : X → M → Prop) (x : X) (m : M) : Prop where
  out : ∃ cells l sz e, x = .tup [] ∧ h < m.nh ∧ m.reg h = some (.box cells sz e) ∧ nth cells k = some (.n .u32 0) ∧ nth cells (k + 1) = some (.n .i32 1) ∧ setAt (setAt cells k [.n .u32 1]) (k + 1) [.n .i32 0] = l ∧
    K (.tup []) ⟨(h, .box l sz e) :: m.regs, m.nh, m.ds⟩

theorem once_end {h k : Nat} {K : X → M → Prop} {m : M} {cells : List S} (l : List S) {sz : Nat} {e : TypeId} (hh : Nat.blt h m.nh = true) (hr : m.reg h = some (.box cells sz e)) (h0 : nth cells k = some (.n .u32 0)) (h1 : nth cells (k + 1) = some (.n .i32 1))
    (hl : setAt (setAt cells k [.n .u32 1]) (k + 1) [.n .i32 0] = l) (hK : m.cs fun rs nh ds => K (.tup []) ⟨(h, .box l sz e) :: rs, nh, ds⟩) : OnceEnd h k K (.tup []) m :=
  ⟨⟨cells, l, sz, e, rfl, Nat.le_of_ble_eq_true hh, hr, h0, h1, hl, by rw [M.cs_eq] at hK; exact hK⟩⟩

theorem once_first {P : Program} {f g : FuncId} {h k hc oc : Nat} {m : M} {K : X → M → Prop} {cells : List S} (l : List S) {sz : Nat} {e : TypeId} (hL : OnceFirst P f g) (hh : Nat.blt h m.nh = true) (hr : m.reg h = some (.box cells sz e))
    (h0 : nth cells k = some (.n .u32 0)) (h1 : nth cells (k + 1) = some (.n .i32 0)) (hl : setAt cells (k + 1) [.n .i32 1] = l)
    (hgo : m.cs fun rs nh ds => Unit → SCall P g [.one (.ptr hc oc)] ⟨(h, .box l sz e) :: rs, nh, ds⟩ fun x m2 => Unit → OnceEnd h k K x m2) : SCall P f [.one (.ptr h k), .one (.fn g [(hc, oc)])] m K := by
  rw [M.cs_eq] at hgo
  have hgo := (hgo ()).out
  refine ⟨hL.1, fun n B w0 ρ w ys hm hys => ?_⟩
  obtain ⟨⟨y, a1, a2⟩, a3⟩ := box_cellS hm hr h0
  cases a2
  obtain ⟨⟨y, b1, b2⟩, b3⟩ := box_cellS hm hr h1
  cases b2
  have hy := hys ρ (Agree.refl _ _)
  match ys, hy with
  | [y1, y2], ⟨q1, q2, _⟩ =>
    have q1 : y1 = ptrVal ρ h k := q1
    have q2 : y2 = .func (.func g) #[] #[ptrVal ρ hc oc] := q2
    rw [q1, q2, ptrVal_box hm hr]
    have hhlt := Nat.le_of_ble_eq_true hh
    let R : World → Prop := fun w1 => ∃ x ρ' m', Agree (Lex m) ρ ρ' ∧ m.nh ≤ m'.nh ∧ MemL P B w0 ρ' m' w1 ∧ OnceEnd h k K x m'
    have hc2 : ∀ ρ', Agree (Lex m) ρ ρ' → ptrVal ρ' hc oc = ptrVal ρ hc oc := fun ρ' hag => by
      have h3 := (hys ρ' hag).2.1
      have h3 : y2 = .func (.func g) #[] #[ptrVal ρ' hc oc] := h3
      rw [q2] at h3
      injection h3 with _ _ h3
      have h4 := congrArg Array.toList h3
      simp at h4
      exact h4.symm
    refine (callsIn_wide.2 (hL.2 _ _ _ R w a1 b1 a3 b3 ?_)).mono ?_
    · refine (callsIn_wide.1 (hgo.2 0 B w0 ρ _ [ptrVal ρ hc oc] (hm.setC (k := k + 1) (s := .n .i32 1) (v := .int .i32 1) hr hhlt (fun _ => rfl) hl) (fun ρ' hag => ⟨(hc2 ρ' hag).symm, trivial⟩))).mono ?_
      rintro e' w' ⟨v, x, ρ', m', rfl, c1, c2, c3, c4, c5⟩
      have c5 := c5 ()
      obtain ⟨cells2, l2, sz2, e2, rfl, d1, d2, d3, d4, d5, d6⟩ := c5.out
      obtain ⟨vs, rfl, f2⟩ := c4 ρ' (Agree.refl _ _)
      obtain ⟨⟨y, g1, g2⟩, g3⟩ := box_cellS c3 d2 d3
      cases g2
      obtain ⟨⟨y, i1, i2⟩, i3⟩ := box_cellS c3 d2 d4
      cases i2
      have e3 : ρ' h = ρ h := c1 h hhlt
      rw [e3] at g1 g3 i1 i3
      cases vs with
      | nil => exact ⟨rfl, g1, i1, g3, i3, _, ρ', m', c1, c2, c3, c5⟩
      | cons a b => exact f2.elim
    · rintro e' w' ⟨rfl, w1, ⟨x, ρ', m', c1, c2, c3, c5⟩, rfl⟩
      obtain ⟨cells2, l2, sz2, e2, rfl, d1, d2, d3, d4, d5, d6⟩ := c5.out
      have e3 : ρ' h = ρ h := c1 h hhlt
      have s0 : MemL P B w0 ρ' m' w1.drew := fun ρ'' hag => (c3 ρ'' hag).drew
      have s1 := s0.setC (k := k) (s := .n .u32 1) (v := .int .u32 1) d2 d1 (fun _ => rfl) rfl
      have r2 : M.reg ⟨(h, .box (setAt cells2 k [.n .u32 1]) sz2 e2) :: m'.regs, m'.nh, m'.ds⟩ h = some (.box (setAt cells2 k [.n .u32 1]) sz2 e2) := by simp [M.reg, regGet]
      have s2 := s1.setC (k := k + 1) (s := .n .i32 0) (v := .int .i32 0) r2 d1 (fun _ => rfl) d5
      rw [e3] at s2
      have hsame : MemL P B w0 ρ' ⟨(h, .box l2 sz2 e2) :: m'.regs, m'.nh, m'.ds⟩ ((w1.drew.setCell ⟨(ρ h).blk, k, none⟩ (.int .u32 1)).setCell ⟨(ρ h).blk, k + 1, none⟩ (.int .i32 0)) := by
        intro ρ'' hag
        have h9 := s2 ρ'' hag
        have hreg : ∀ j, M.reg ⟨(h, .box l2 sz2 e2) :: (h, .box (setAt cells2 k [.n .u32 1]) sz2 e2) :: m'.regs, m'.nh, m'.ds⟩ j = M.reg ⟨(h, .box l2 sz2 e2) :: m'.regs, m'.nh, m'.ds⟩ j := fun j => by
          simp only [M.reg, regGet]
          cases Nat.beq h j <;> rfl
        refine ⟨fun j r hj => h9.regs j r ((hreg j).trans hj), fun j j' r r' hj hj' => h9.dist j j' r r' ((hreg j).trans hj) ((hreg j').trans hj'), fun j r hj => h9.base j r ((hreg j).trans hj), h9.below, h9.hB⟩
      exact ⟨_, .tup [], ρ', ⟨(h, .box l2 sz2 e2) :: m'.regs, m'.nh, m'.ds⟩, rfl, c1, c2, hsame, fun _ _ => ⟨[], rfl, trivial⟩, d6⟩

/-! ### the same, what lies in the box being reckoned -/
theorem once_endF {h k : Nat} {K : X → M → Prop} {m : M} {cells : List S} (l : List S) {sz : Nat} {e : TypeId} (hh : Nat.blt h m.nh = true) (hr : m.reg h = some (.box cells sz e)) (h0 : nth cells k = some (.n .u32 0)) (h1 : nth cells (k + 1) = some (.n .i32 1))
    (hl : setAt (setAt cells k [.n .u32 1]) (k + 1) [.n .i32 0] = l) (hK : m.cs fun rs nh ds => forceL l fun l => K (.tup []) ⟨(h, .box l sz e) :: rs, nh, ds⟩) : OnceEnd h k K (.tup []) m :=
  ⟨⟨cells, l, sz, e, rfl, Nat.le_of_ble_eq_true hh, hr, h0, h1, hl, by rw [M.cs_eq, forceL_eq] at hK; exact hK⟩⟩
theorem once_firstF {P : Program} {f g : FuncId} {h k hc oc : Nat} {m : M} {K : X → M → Prop} {cells : List S} (l : List S) {sz : Nat} {e : TypeId} (hL : OnceFirst P f g) (hh : Nat.blt h m.nh = true) (hr : m.reg h = some (.box cells sz e))
    (h0 : nth cells k = some (.n .u32 0)) (h1 : nth cells (k + 1) = some (.n .i32 0)) (hl : setAt cells (k + 1) [.n .i32 1] = l)
    (hgo : m.cs fun rs nh ds => forceL l fun l => Unit → SCall P g [.one (.ptr hc oc)] ⟨(h, .box l sz e) :: rs, nh, ds⟩ fun x m2 => Unit → OnceEnd h k K x m2) : SCall P f [.one (.ptr h k), .one (.fn g [(hc, oc)])] m K := by
  rw [M.cs_eq, forceL_eq] at hgo
  exact once_first l hL hh hr h0 h1 hl (by rw [M.cs_eq]; exact hgo)

/-! ### operations as the model reckons them -/
theorem sp_mulW (k : IntKind) (a b : Int) : specI .mul k a b (k.wrap (a * b)) := rfl
theorem sp_addW (k : IntKind) (a b : Int) : specI .add k a b (k.wrap (a + b)) := rfl
theorem sp_subW (k : IntKind) (a b : Int) : specI .sub k a b (k.wrap (a - b)) := rfl
theorem sp_orW (k : IntKind) (a b : Int) : specI .or k a b (k.wrap (BitVec.ofInt k.bits a ||| BitVec.ofInt k.bits b).toNat) := rfl
theorem sp_andW (k : IntKind) (a b : Int) : specI .and k a b (k.wrap (BitVec.ofInt k.bits a &&& BitVec.ofInt k.bits b).toNat) := rfl
theorem sp_xorW (k : IntKind) (a b : Int) : specI .xor k a b (k.wrap (BitVec.ofInt k.bits a ^^^ BitVec.ofInt k.bits b).toNat) := rfl
theorem sp_shlW (k : IntKind) (a : Int) {b : Int} (h : 0 ≤ b) : specI .shl k a b (k.wrap (a * 2 ^ min b.toNat k.bits)) := ⟨h, rfl⟩
theorem sp_shrW (k : IntKind) (a : Int) {b : Int} (h : 0 ≤ b) : specI .shr k a b (a.fdiv (2 ^ min b.toNat k.bits)) := ⟨h, rfl⟩
theorem sp_quoW (k : IntKind) (a : Int) {b : Int} (h : b ≠ 0) : specI .quo k a b (k.wrap (a.tdiv b)) := ⟨h, rfl⟩
theorem sp_remW (k : IntKind) (a : Int) {b : Int} (h : b ≠ 0) : specI .rem k a b (a.tmod b) := ⟨h, rfl⟩
end Go.SE

namespace Go.SE
open Go Go.Conc Go.ConcM Go.RowKit Go.WideShapes Go.ChangeShapes

/-- A call that walks alone ends as a row asks that says that goroutines may leave. -/
theorem leaving_of_calls {P : Program} {f : FuncId} {args : Array Value} {W : World} {Q : Value → World → Prop}
    (h : Calls P f args W fun e w' => ∃ v, e = .returned v ∧ Q v w') (noInit : P.inits.idxOf? f = none) :
    ∃ M last o w' t', runNT P (M + 1) (solo (G (Frame.enter P f args .normal) []) W) #[] = (.ended o w', t') ∧ runN P M (solo (G (Frame.enter P f args .normal) []) W) = .next last ∧
        step P last = .ended o w' ∧ Conc.Good P Q last o w' t' := by
  have h' : Calls P f args W fun | .returned v, w' => Q v w' | _, _ => False := by
    refine h.mono ?_
    rintro e w' ⟨v, rfl, hq⟩
    exact hq
  obtain ⟨n, v, w', fr, hn, hend, hp⟩ := h'.done_lone noInit
  refine ⟨n, lone fr [] w', .done v, w', (runNT P (n + 1) (lone (Frame.enter P f args .normal) [] W) #[]).2, ?_, hn, step_of_runs hn hend, v, rfl, hp, fun said => (no_race_of_lone P n _ _ hn (by simp [lone]) rfl).2, handedOver_of_lone hn, ?_, ?_⟩
  · refine Prod.ext ?_ rfl
    show (runNT P (n + 1) (lone (Frame.enter P f args .normal) [] W) #[]).1 = _
    rw [runNT_fst, hend]
  · exact Leave.only P _ [] rfl (Leave.nil P) rfl
  · intro i g hg hne
    cases i with
    | zero => exact absurd rfl hne
    | succ k => simp [lone] at hg

/-- A row's last step, where the row says that time may have passed. -/
theorem leaving_row {H : Type} {enc : TypeId × Value → H} {P : Program} {f : FuncId} {fn : Func} {s : ChangeSpec} {t : TypeId} {W : World} {args : Array Value} {ds gs : List (DataW H)} {before : List MemPlace}
    (noInit : P.inits.idxOf? f = none)
    (hvars : s.vars = []) (hfn : ∀ l : List (DataW H), l.length = fn.params.size → (s.fn H l).results = [.lit (.bool true)] ∧ (s.fn H l).args = l ∧ (s.fn H l).vars = [])
    (hres : fn.resultTypes = #[t]) (ht : P.underlying t = some .bool) (hl : laidOutB P = true) (hr0 : (fn.params.toList.all fun t => P.readableRec t && decide (t < P.types.size)) = true)
    (hW : DataW.Whole enc P fn.params.toList s.vars false W args.toList ds gs before)
    (hcall : Calls P f args W fun e w' => e = .returned (.bool true) ∧ Below W.heap.size W w') :
    ∃ M last o w' t', runNT P (M + 1) (solo (G (Frame.enter P f args .normal) []) W) #[] = (.ended o w', t') ∧ runN P M (solo (G (Frame.enter P f args .normal) []) W) = .next last ∧
        step P last = .ended o w' ∧ Conc.Good P (fun v W' => s.post enc P fn false true false false W args v { W' with os := W.os } ∧ OsLater W.os W'.os) last o w' t' := by
  refine leaving_of_calls ?_ noInit
  have hcall2 : Calls P f args W fun e w' => (e = .returned (.bool true) ∧ Below W.heap.size W w') ∧ w'.os = W.os := hcall.mono fun e w' h => ⟨h, h.2.os⟩
  have key : ∀ (e : Ending) (w' : World), e = .returned (.bool true) → Below W.heap.size W w' → s.post enc P fn false true false false W args (.bool true) w' := by
    intro e w' he hb
    have hr : ∀ t ∈ fn.params.toList, P.readableRec t = true ∧ t < P.types.size := fun t ht => by
      have := List.all_eq_true.1 hr0 t ht
      rw [Bool.and_eq_true] at this
      exact ⟨this.1, of_decide_eq_true this.2⟩
    have hW' := hW
    obtain ⟨p, q, hA, hV, hpq, _, _⟩ := hW'
    rw [hvars] at hV
    obtain ⟨rfl, rfl⟩ := trodVars_none hV
    have hlen := (trodAll_length hA).1
    obtain ⟨r1, r2, r3⟩ := hfn (ds ++ []) (by simpa using hlen)
    have hlt : ∀ x ∈ before, x.block < W.heap.size := fun x hx => hW.lt x hx
    refine post_below (pa := before) (pv := []) hW (fun b sp hd => ?_) (fun sp hsp => ?_) (fun sp _ => ?_) (by simp) hb ?_
    · rw [r1, hres]
      exact trodAll_cons_mk (shut_bool ht _) trodAll_mk0
    · rw [r2, List.append_nil]
      have e : before = p := by rw [hpq, List.append_nil]
      rw [e] at hsp hlt ⊢
      exact trodAll_stays hl hb hr hA hlt hsp
    · rw [r3, hvars]
      exact rfl
    · exact ok_one hres rfl (okWide_bool_mk ht _)
  refine hcall2.mono ?_
  rintro e w' ⟨⟨rfl, hb⟩, ho⟩
  refine ⟨_, rfl, ?_, ⟨0, by rw [ho]; rfl⟩⟩
  have := key _ w' rfl hb
  rw [← ho]
  exact this

end Go.SE

namespace Go.SE
open Go Go.RowKit Go.Conc.Locks

/-- A defer statement: a function of one pointer. -/
theorem defer_stop {C : Ctx} {o : Oper} {K : Env → M → Prop} {env : Env} {m : M} {c : Call} {f x : Operand} {g : FuncId} {h k : Nat} (hd : putOk C o.dst = true) (hrd : C.rd = none) (ho : o.op = .defer c) (hc : c.callee = .value f) (ha : c.args = #[x])
    (hf : evs env f = some (.fn g [])) (hx : evs env x = some (.ptr h k)) (hh : Nat.blt h m.nh = true) (hK : m.cs fun rs nh ds => env.go o.dst (.tup []) fun env => K env ⟨rs, nh, .call g h k :: ds⟩) : Stop C o env m K := by
  rw [M.cs_eq, Env.go_eq] at hK
  refine ⟨fun hg n B w0 ρ a w Q hok hp => ⟨fun _ _ => trivial, ?_⟩⟩
  have hE := hok.ok.env ρ (Agree.refl _ _)
  have h1 : a.eval f = .func (.func g) #[] #[] := evs_rel hE hf
  have h2 : a.eval x = ptrVal ρ h k := evs_rel hE hx
  have hr : (C.fen ρ).round = none := by simp [Ctx.fen, hrd]
  have hlt : h < m.nh := Nat.le_of_ble_eq_true hh
  have hrun : (Oper.semAt (C.fen ρ).round a.eval o).run C.P w = .ok (.defer { target := .fn (.func g) #[], args := #[ptrVal ρ h k] }) w := by
    rw [hr]
    simp [Oper.semAt, execOp, ho, resolve, hc, ha, h1, h2, Deferred.ofValue]
  rw [hrun, Oper.uponIn_defer]
  refine ⟨ρ, putEnv env o.dst (.tup []), ⟨m.regs, m.nh, .call g h k :: m.ds⟩, Agree.refl _ _, hp, ⟨⟨fun ρ' hag => ?_, fun ρ' hag => ?_, ?_⟩, fun ρ' hag => ?_⟩, hK⟩
  · exact EnvOk.put (a := { a with defers := _ :: a.defers }) (hok.ok.env ρ' hag) hok.ok.size (putOk_lt hd) (undef_rel ρ')
  · have := hok.ok.mem ρ' hag
    exact ⟨this.regs, this.dist, this.base, this.below, this.hB⟩
  · rw [put_size]; exact hok.ok.size
  · rw [put_defers]
    show _ :: a.defers = _ :: m.ds.map _
    rw [hok.ds ρ' hag]
    simp only [Dfr.den]
    rw [ptrVal_congr0 (hag h hlt)]

theorem w01 : wrap32 (0 + 1) = 1 := by unfold wrap32; decide +kernel
theorem w10 : wrap32 (1 + -1) = 0 := by unfold wrap32; decide +kernel
/-- '(*sync.RWMutex).RLock' of a lock that is free. -/
theorem call_rlock {P : Program} {L : RwLink} {f : FuncId} {h k : Nat} {m : M} {K : X → M → Prop} {cells l : List S} {sz : Nat} {e : TypeId} {x0 x3 : S} (H : RwRLib P L) (hent : ∀ ys w, (callFunc f ys).run P w = .ok (.enter f ys) w) (hL : f = L.rlock) (hr : m.reg h = some (.box cells sz e)) (hh : Nat.blt h m.nh = true)
    (h0 : nth cells k = some x0) (h3 : nth cells (k + 3) = some x3) (h4 : nth cells (k + 4) = some (.n .i32 0)) (hl : setAt cells (k + 4) [.n .i32 1] = l) (hK : m.cs fun rs nh ds => forceL l fun l => K (.tup []) ⟨(h, .box l sz e) :: rs, nh, ds⟩) : SCall P f [.one (.ptr h k)] m K := by
  rw [M.cs_eq, forceL_eq] at hK
  refine ⟨hent, fun n B w0 ρ w ys hm hys => ?_⟩
  obtain ⟨⟨y0, a1, a2⟩, a3⟩ := box_cellS hm hr h0
  obtain ⟨⟨y3, b1, b2⟩, b3⟩ := box_cellS hm hr h3
  obtain ⟨⟨y4, c1, c2⟩, c3⟩ := box_cellS hm hr h4
  cases c2
  have hy := hys ρ (Agree.refl _ _)
  match ys, hy with
  | [y1], ⟨q1, _⟩ =>
    have q1 : y1 = ptrVal ρ h k := q1
    rw [q1, ptrVal_box hm hr, hL]
    refine (callsIn_wide.2 (Go.RwLone.rlock_open H _ _ 0 y0 y3 w a1 b1 c1 c3 (by rw [w01]; decide))).mono ?_
    rintro e w' ⟨rfl, rfl⟩
    rw [w01]
    exact ⟨_, .tup [], ρ, ⟨(h, .box l sz _) :: m.regs, m.nh, m.ds⟩, rfl, Agree.refl _ _, Nat.le_refl _, hm.setC (s := .n .i32 1) hr (Nat.le_of_ble_eq_true hh) (fun _ => rfl) hl, fun _ _ => ⟨[], rfl, trivial⟩, hK⟩

/-- '(*sync.RWMutex).RUnlock', deferred, of a lock that one reader holds. -/
theorem defer_runlock {P : Program} {L : RwLink} {f : FuncId} {h k : Nat} {m : M} {K : X → M → Prop} {cells l : List S} {sz : Nat} {e : TypeId} {x0 x2 : S} (H : RwRLib P L) (hent : ∀ ys w, (callFunc f ys).run P w = .ok (.enter f ys) w) (hL : f = L.runlock) (hr : m.reg h = some (.box cells sz e)) (hh : Nat.blt h m.nh = true)
    (h0 : nth cells k = some x0) (h2 : nth cells (k + 2) = some x2) (h4 : nth cells (k + 4) = some (.n .i32 1)) (hl : setAt cells (k + 4) [.n .i32 0] = l) (hK : m.cs fun rs nh ds => forceL l fun l => K (.tup []) ⟨(h, .box l sz e) :: rs, nh, ds⟩) : SDefer P f [.one (.ptr h k)] m K := by
  rw [M.cs_eq, forceL_eq] at hK
  refine ⟨hent, fun B w0 ρ w ys hm hys => ?_⟩
  obtain ⟨⟨y0, a1, a2⟩, a3⟩ := box_cellS hm hr h0
  obtain ⟨⟨y2, b1, b2⟩, b3⟩ := box_cellS hm hr h2
  obtain ⟨⟨y4, c1, c2⟩, c3⟩ := box_cellS hm hr h4
  cases c2
  have hy := hys ρ (Agree.refl _ _)
  match ys, hy with
  | [y1], ⟨q1, _⟩ =>
    have q1 : y1 = ptrVal ρ h k := q1
    rw [q1, ptrVal_box hm hr, hL]
    refine (Go.RwLone.runlock_deferred H _ _ 1 y0 y2 .returning w a1 b1 c1 c3 (by rw [w10]; decide)).mono ?_
    rintro e u w' ⟨rfl, rfl, rfl⟩
    rw [w10]
    exact ⟨_, .tup [], ρ, ⟨(h, .box l sz _) :: m.regs, m.nh, m.ds⟩, rfl, rfl, Agree.refl _ _, Nat.le_refl _, hm.setC (s := .n .i32 0) hr (Nat.le_of_ble_eq_true hh) (fun _ => rfl) hl, fun _ _ => ⟨[], rfl, trivial⟩, hK⟩

theorem reg_over {m : M} {h : Nat} {r r' : Reg} (j : Nat) : M.reg ⟨(h, r) :: (h, r') :: m.regs, m.nh, m.ds⟩ j = M.reg ⟨(h, r) :: m.regs, m.nh, m.ds⟩ j := by
  simp only [M.reg, regGet]
  cases Nat.beq h j <;> rfl
theorem MemL.over {P : Program} {B : Nat} {w0 : World} {ρ : Rho} {m : M} {w : World} {h : Nat} {r r' : Reg} (hm : MemL P B w0 ρ ⟨(h, r) :: (h, r') :: m.regs, m.nh, m.ds⟩ w) : MemL P B w0 ρ ⟨(h, r) :: m.regs, m.nh, m.ds⟩ w := by
  intro ρ'' hag
  have h9 := hm ρ'' hag
  exact ⟨fun j z hj => h9.regs j z ((reg_over j).trans hj), fun j j' z z' hj hj' => h9.dist j j' z z' ((reg_over j).trans hj) ((reg_over j').trans hj'), fun j z hj => h9.base j z ((reg_over j).trans hj), h9.below, h9.hB⟩

/-- '(*sync.RWMutex).Lock' of a lock that is free. -/
theorem call_wlock {P : Program} {L : RwLink} {f : FuncId} {h k : Nat} {m : M} {K : X → M → Prop} {cells l : List S} {sz : Nat} {e : TypeId} {x2 x3 : S} (H : RwWLib P L) (hent : ∀ ys w, (callFunc f ys).run P w = .ok (.enter f ys) w) (hL : f = L.wlock) (hr : m.reg h = some (.box cells sz e)) (hh : Nat.blt h m.nh = true)
    (h0 : nth cells k = some (.n .i32 0)) (h2 : nth cells (k + 2) = some x2) (h3 : nth cells (k + 3) = some x3) (h4 : nth cells (k + 4) = some (.n .i32 0)) (hl : setAt (setAt cells k [.n .i32 1]) (k + 4) [.n .i32 (-1073741824)] = l) (hK : m.cs fun rs nh ds => forceL l fun l => K (.tup []) ⟨(h, .box l sz e) :: rs, nh, ds⟩) : SCall P f [.one (.ptr h k)] m K := by
  rw [M.cs_eq, forceL_eq] at hK
  refine ⟨hent, fun n B w0 ρ w ys hm hys => ?_⟩
  obtain ⟨⟨y0, a1, a2⟩, a3⟩ := box_cellS hm hr h0
  cases a2
  obtain ⟨⟨y2, b1, b2⟩, b3⟩ := box_cellS hm hr h2
  obtain ⟨⟨y3, d1, d2⟩, d3⟩ := box_cellS hm hr h3
  obtain ⟨⟨y4, c1, c2⟩, c3⟩ := box_cellS hm hr h4
  cases c2
  have hy := hys ρ (Agree.refl _ _)
  match ys, hy with
  | [y1], ⟨q1, _⟩ =>
    have q1 : y1 = ptrVal ρ h k := q1
    rw [q1, ptrVal_box hm hr, hL]
    refine (callsIn_wide.2 (Go.RwLone.wlock_free H _ _ y2 y3 w a1 b1 d1 c1 a3 c3)).mono ?_
    rintro e' w' ⟨rfl, rfl⟩
    have s1 := hm.setC (k := k) (s := .n .i32 1) (v := .int .i32 1) hr (Nat.le_of_ble_eq_true hh) (fun _ => rfl) rfl
    have r2 : M.reg ⟨(h, .box (setAt cells k [.n .i32 1]) sz e) :: m.regs, m.nh, m.ds⟩ h = some (.box (setAt cells k [.n .i32 1]) sz e) := by simp [M.reg, regGet]
    have s2 := s1.setC (k := k + 4) (s := .n .i32 (-1073741824)) (v := .int .i32 (-1073741824)) r2 (Nat.le_of_ble_eq_true hh) (fun _ => rfl) hl
    exact ⟨_, .tup [], ρ, ⟨(h, .box l sz e) :: m.regs, m.nh, m.ds⟩, rfl, Agree.refl _ _, Nat.le_refl _, MemL.over s2, fun _ _ => ⟨[], rfl, trivial⟩, hK⟩

/-- '(*sync.RWMutex).Unlock', deferred, of a lock that a writer holds. -/
theorem defer_wunlock {P : Program} {L : RwLink} {f : FuncId} {h k : Nat} {m : M} {K : X → M → Prop} {cells l : List S} {sz : Nat} {e : TypeId} {x2 x3 : S} (H : RwWLib P L) (hent : ∀ ys w, (callFunc f ys).run P w = .ok (.enter f ys) w) (hL : f = L.wunlock) (hr : m.reg h = some (.box cells sz e)) (hh : Nat.blt h m.nh = true)
    (h0 : nth cells k = some (.n .i32 1)) (h2 : nth cells (k + 2) = some x2) (h3 : nth cells (k + 3) = some x3) (h4 : nth cells (k + 4) = some (.n .i32 (-1073741824))) (hl : setAt (setAt cells (k + 4) [.n .i32 0]) k [.n .i32 0] = l) (hK : m.cs fun rs nh ds => forceL l fun l => K (.tup []) ⟨(h, .box l sz e) :: rs, nh, ds⟩) : SDefer P f [.one (.ptr h k)] m K := by
  rw [M.cs_eq, forceL_eq] at hK
  refine ⟨hent, fun B w0 ρ w ys hm hys => ?_⟩
  obtain ⟨⟨y0, a1, a2⟩, a3⟩ := box_cellS hm hr h0
  cases a2
  obtain ⟨⟨y2, b1, b2⟩, b3⟩ := box_cellS hm hr h2
  obtain ⟨⟨y3, d1, d2⟩, d3⟩ := box_cellS hm hr h3
  obtain ⟨⟨y4, c1, c2⟩, c3⟩ := box_cellS hm hr h4
  cases c2
  have hy := hys ρ (Agree.refl _ _)
  match ys, hy with
  | [y1], ⟨q1, _⟩ =>
    have q1 : y1 = ptrVal ρ h k := q1
    rw [q1, ptrVal_box hm hr, hL]
    refine (Go.RwLone.wunlock_deferred H _ _ y2 y3 .returning w a1 b1 d1 c1 a3 c3).mono ?_
    rintro e' u w' ⟨rfl, rfl, rfl⟩
    have s1 := hm.setC (k := k + 4) (s := .n .i32 0) (v := .int .i32 0) hr (Nat.le_of_ble_eq_true hh) (fun _ => rfl) rfl
    have r2 : M.reg ⟨(h, .box (setAt cells (k + 4) [.n .i32 0]) sz e) :: m.regs, m.nh, m.ds⟩ h = some (.box (setAt cells (k + 4) [.n .i32 0]) sz e) := by simp [M.reg, regGet]
    have s2 := s1.setC (k := k) (s := .n .i32 0) (v := .int .i32 0) r2 (Nat.le_of_ble_eq_true hh) (fun _ => rfl) hl
    exact ⟨_, .tup [], ρ, ⟨(h, .box l sz e) :: m.regs, m.nh, m.ds⟩, rfl, rfl, Agree.refl _ _, Nat.le_refl _, MemL.over s2, fun _ _ => ⟨[], rfl, trivial⟩, hK⟩
end Go.SE
