/- Contracts of functions of the program, or a row of the seat, proved out of them. No condition beyond those that stand in each statement. -/
import Derived.Test.YtlefpinmgabmfaaGreatS14p3b
import Derived.Test.YtlefpinmgabmfaaGreatS14p2b
namespace Go.Proofs.S14.K5
open Go Go.SE
set_option maxRecDepth 100000
set_option maxHeartbeats 4000000

theorem mixed : Tryz.prog.follows .mixedOrders = true := T3.mixed
theorem and8 {f : Int} (h : 0 ≤ f ∧ f ≤ 255) (m : Nat) (g : Nat → Nat) (hm : m < 256) (hg : ∀ x : Fin 256, x.val &&& m = g x.val) : specI .and .u8 f (m : Int) (g f.toNat : Nat) := by
  have h1 := sp_and (k := .u8) (a := f) (b := (m : Int)) h.1 h.2 (by omega) (by show (m : Int) ≤ 255; omega)
  have h2 := hg ⟨f.toNat, by omega⟩
  simp only at h2
  rw [show ((m : Int)).toNat = m by omega, h2] at h1
  exact h1
theorem and7 {f : Int} (h : 0 ≤ f ∧ f ≤ 255) : specI .and .u8 f 7 (f % 8) := by
  have := and8 h 7 (fun x => x % 8) (by decide) (by decide)
  rwa [show ((f.toNat % 8 : Nat) : Int) = f % 8 by omega] at this
theorem and5 {f : Int} (h : 0 ≤ f ∧ f ≤ 255) : specI .and .u8 f 5 (f % 2 + f / 4 % 2 * 4) := by
  have := and8 h 5 (fun x => x % 2 + x / 4 % 2 * 4) (by decide) (by decide)
  rwa [show ((f.toNat % 2 + f.toNat / 4 % 2 * 4 : Nat) : Int) = f % 2 + f / 4 % 2 * 4 by omega] at this
theorem and2 {f : Int} (h : 0 ≤ f ∧ f ≤ 255) : specI .and .u8 f 2 (f / 2 % 2 * 2) := by
  have := and8 h 2 (fun x => x / 2 % 2 * 2) (by decide) (by decide)
  rwa [show ((f.toNat / 2 % 2 * 2 : Nat) : Int) = f / 2 % 2 * 2 by omega] at this
theorem and4 {f : Int} (h : 0 ≤ f ∧ f ≤ 255) : specI .and .u8 f 4 (f / 4 % 2 * 4) := by
  have := and8 h 4 (fun x => x / 4 % 2 * 4) (by decide) (by decide)
  rwa [show ((f.toNat / 4 % 2 * 4 : Nat) : Int) = f / 4 % 2 * 4 by omega] at this
theorem and1 {f : Int} (h : 0 ≤ f ∧ f ≤ 255) : specI .and .u8 f 1 (f % 2) := by
  have := and8 h 1 (fun x => x % 2) (by decide) (by decide)
  rwa [show ((f.toNat % 2 : Nat) : Int) = f % 2 by omega] at this
attribute [local irreducible] specI

structure Pk where
  src : Int
  dst : Int
  sport : Int
  dport : Int
  flags : Int
  bytes : List Int
  deriving DecidableEq
def zeroPk : Pk := ⟨0, 0, 0, 0, 0, []⟩
structure Pk.Wf (p : Pk) : Prop where
  flags : 0 ≤ p.flags ∧ p.flags ≤ 255
  bytes : ∀ x ∈ p.bytes, 0 ≤ x ∧ x ≤ 255
def pkT (p : Pk) (h : Nat) : T := .agg [.v (.int .u32 p.src), .v (.int .u32 p.dst), .v (.int .u16 p.sport), .v (.int .u16 p.dport), .v (.int .u8 p.flags), .sl h 0 p.bytes.length]
def synP (p : Pk) : Prop := p.flags / 2 % 2 = 1 ∧ p.flags % 2 = 0 ∧ p.flags / 4 % 2 = 0
def closesP (p : Pk) : Prop := p.flags % 2 = 1 ∨ p.flags / 4 % 2 = 1
instance (p : Pk) : Decidable (synP p) := by unfold synP; infer_instance
instance (p : Pk) : Decidable (closesP p) := by unfold closesP; infer_instance
end Go.Proofs.S14.K5

namespace Go.Proofs.S14.K5
open Go Go.SE
set_option maxRecDepth 100000
set_option maxHeartbeats 4000000
attribute [local irreducible] specI

/-! ### memory of one's own -/

structure Tu where
  src : Int
  dst : Int
  sport : Int
  dport : Int
structure Tu.Wf (t : Tu) : Prop where
  src : 0 ≤ t.src ∧ t.src ≤ 4294967295
  dst : 0 ≤ t.dst ∧ t.dst ≤ 4294967295
  sport : 0 ≤ t.sport ∧ t.sport ≤ 65535
  dport : 0 ≤ t.dport ∧ t.dport ≤ 65535
def tuT (t : Tu) : T := .agg [.v (.int .u32 t.src), .v (.int .u32 t.dst), .v (.int .u16 t.sport), .v (.int .u16 t.dport)]
def segOf (t : Tu) (flags : Int) (data : List Int) : T3.Seg := ⟨t.sport, t.dport, flags, 20, data⟩
def hdOf (t : Tu) (b : List Int) : I2.Hd := ⟨0, 0, 0, 64, 6, t.src, t.dst, [], b⟩
def tcpL (t : Tu) (flags : Int) (data : List Int) : List Int := T3.putL t.src t.dst (segOf t flags data)
def makeL (t : Tu) (flags : Int) (data : List Int) : List Int := I2.putL (hdOf t (tcpL t flags data))

theorem seg_wf {t : Tu} {f : Int} {d : List Int} (h : t.Wf) (hf : 0 ≤ f ∧ f ≤ 255) (hd : ∀ x ∈ d, 0 ≤ x ∧ x ≤ 255) (hl : d.length ≤ 3000) : (segOf t f d).Wf := ⟨h.sport, h.dport, hf, (show (-9223372036854775808 : Int) ≤ 20 ∧ (20 : Int) ≤ 9223372036854775807 by decide), hd, by show d.length ≤ 4000; omega⟩
theorem seg_ok (t : Tu) (f : Int) (d : List Int) : T3.okSeg (segOf t f d) := (show ((20 : Int) ≤ 20 ∧ (20 : Int) ≤ 60) ∧ (20 : Int) % 4 = 0 by decide)
theorem tcp_len {t : Tu} {f : Int} {d : List Int} : (tcpL t f d).length = 20 + d.length := by
  unfold tcpL T3.putL
  rw [if_pos (seg_ok t f d), T3.seg_len (seg_ok t f d)]
  rfl
theorem tcp_bytes {t : Tu} {f : Int} {d : List Int} (h : t.Wf) (hf : 0 ≤ f ∧ f ≤ 255) (hd : ∀ x ∈ d, 0 ≤ x ∧ x ≤ 255) (hl : d.length ≤ 3000) : ∀ x ∈ tcpL t f d, 0 ≤ x ∧ x ≤ 255 := T3.put_bytes (seg_wf h hf hd hl)
theorem hd_wf {t : Tu} {b : List Int} (h : t.Wf) (hb : ∀ x ∈ b, 0 ≤ x ∧ x ≤ 255) (hl : b.length ≤ 4000) : (hdOf t b).Wf := ⟨⟨(show (0 : Int) ≤ 0 ∧ (0 : Int) ≤ 255 by decide), (show (0 : Int) ≤ 0 ∧ (0 : Int) ≤ 65535 by decide), (show (0 : Int) ≤ 0 ∧ (0 : Int) ≤ 65535 by decide), (show (0 : Int) ≤ 64 ∧ (64 : Int) ≤ 255 by decide), (show (0 : Int) ≤ 6 ∧ (6 : Int) ≤ 255 by decide), h.src, h.dst, by simp [hdOf], hb⟩, (show 0 ≤ 4000 by decide), hl⟩
theorem hd_ok (t : Tu) (b : List Int) : I2.okHd (hdOf t b) := ⟨.inl rfl, (show 0 ≤ 40 by decide), (show 0 % 4 = 0 by decide)⟩
theorem make_len {t : Tu} {f : Int} {d : List Int} : (makeL t f d).length = 40 + d.length := by
  unfold makeL
  rw [I2.put_len, if_pos (hd_ok _ _)]
  show 20 + 0 + (tcpL t f d).length = _
  rw [tcp_len]; omega
theorem make_bytes {t : Tu} {f : Int} {d : List Int} (h : t.Wf) (hf : 0 ≤ f ∧ f ≤ 255) (hd : ∀ x ∈ d, 0 ≤ x ∧ x ≤ 255) (hl : d.length ≤ 3000) : ∀ x ∈ makeL t f d, 0 ≤ x ∧ x ≤ 255 := I2.put_bytes (hd_wf h (tcp_bytes h hf hd hl) (by rw [tcp_len]; omega))

def hdN (t : Tu) (b : List Int) : T := .agg [.v (.int .u8 0), .v (.int .u16 0), .v (.int .u16 0), .v (.int .u8 64), .v (.int .u8 6), .v (.int .u32 t.src), .v (.int .u32 t.dst), .v (.slice none 0 0), .sl 0 0 b.length]
theorem ipput_con {t : Tu} {b : List Int} (h : t.Wf) (hb : ∀ x ∈ b, 0 ≤ x ∧ x ≤ 255) (hl : b.length ≤ 4000) : CallCon Tryz.prog 127 [hdN t b] [.row (ints .u8 b) 1 5 false] (.tup [.one (.sl 0 0 (I2.putL (hdOf t b)).length), .one (.v (.bool true))]) [.row (ints .u8 (I2.putL (hdOf t b))) 1 5 true] := by
  have h1 := I2.put_con (hd_wf h hb hl)
  rw [decide_eq_true (hd_ok t b)] at h1
  exact con_nil0 [hdN t b] (con_known2 h1) (by repeat' (first | exact trivial | exact rfl | exact Or.inl rfl | apply And.intro))
theorem refipput_con {t : Tu} {b : List Int} (h : t.Wf) (hb : ∀ x ∈ b, 0 ≤ x ∧ x ≤ 255) (hl : b.length ≤ 4000) : CallCon Tryz.prog 57 [hdN t b] [.row (ints .u8 b) 1 5 false] (.tup [.one (.sl 0 0 (I2.putL (hdOf t b)).length), .one (.v (.bool true))]) [.row (ints .u8 (I2.putL (hdOf t b))) 1 5 true] := by
  have h1 := I2.refput_con (hd_wf h hb hl)
  rw [decide_eq_true (hd_ok t b)] at h1
  exact con_nil0 [hdN t b] (con_known2 h1) (by repeat' (first | exact trivial | exact rfl | exact Or.inl rfl | apply And.intro))
theorem refmake_con {t : Tu} {f : Int} {d : List Int} (h : t.Wf) (hf : 0 ≤ f ∧ f ≤ 255) (hd : ∀ x ∈ d, 0 ≤ x ∧ x ≤ 255) (hl : d.length ≤ 3000) : CallCon Tryz.prog 28 [tuT t, .one (.v (.int .u8 f)), .one (.sl 0 0 d.length)] [.row (ints .u8 d) 1 5 false] (.tup [.one (.sl 0 0 (makeL t f d).length), .one (.v (.bool true))]) [.row (ints .u8 (makeL t f d)) 1 5 true] := by
  have h1 := T3.refput_con h.src h.dst (seg_wf h hf hd hl)
  rw [decide_eq_true (seg_ok t f d)] at h1
  have h2 := con_known2 h1
  have h3 := refipput_con h (tcp_bytes h hf hd hl) (by rw [tcp_len]; omega)
  refine con_of_call2 rfl ?_
  refine call_inline Tryz.func28 rfl rfl ?_
  intro _
  repeat' (refine is_call ?_; (first | refine call_le (by (repeat' (first | exact trivial | apply And.intro | exact rfl)); (first | done | fail)) (h2) (by exact ⟨⟨_, rfl, rfl, rfl⟩, trivial⟩) rfl ?_ | refine call_le (by (repeat' (first | exact trivial | apply And.intro | exact rfl)); (first | done | fail)) (h3) (by exact ⟨⟨_, rfl, rfl, rfl⟩, trivial⟩) rfl ?_); intro u; clear u)
  (refine con_end ?_ rfl; intro u; clear u; refine ⟨rfl, rfl, EntGoal.mk ?_ ?_⟩ <;> (repeat' (first | exact trivial | (with_reducible rfl) | apply And.intro | rfl)))
end Go.Proofs.S14.K5

namespace Go.Proofs.S14.K5
open Go Go.SE
set_option maxRecDepth 100000
set_option maxHeartbeats 4000000
attribute [local irreducible] specI

def tcpE (l : List Int) : Int := T3.parseE (I2.parseS l).src (I2.parseS l).dst (I2.parseS l).pay
def tcpS (l : List Int) : T3.Seg := T3.parseS (I2.parseS l).src (I2.parseS l).dst (I2.parseS l).pay
def pkE (l : List Int) : Int := if ¬ I2.parseE l = 0 then I2.parseE l else if ¬ (I2.parseS l).protocol = 6 then 7 else tcpE l
def pkR (l : List Int) : Pk := ⟨(I2.parseS l).src, (I2.parseS l).dst, (tcpS l).src, (tcpS l).dst, (tcpS l).flags, l⟩
def pkS (l : List Int) : Pk := if pkE l = 0 then pkR l else zeroPk

theorem tcp_le (a b : Int) (l : List Int) : T3.parseE a b l = 0 ∨ T3.parseE a b l = 8 ∨ T3.parseE a b l = 9 := by
  unfold T3.parseE
  split
  · exact .inr (.inl rfl)
  · split
    · exact .inl rfl
    · exact .inr (.inr rfl)
theorem pk_cases (l : List Int) : (¬ I2.parseE l = 0 ∧ pkE l = I2.parseE l ∧ pkS l = zeroPk) ∨ (I2.parseE l = 0 ∧ ¬ (I2.parseS l).protocol = 6 ∧ pkE l = 7 ∧ pkS l = zeroPk) ∨
    (I2.parseE l = 0 ∧ (I2.parseS l).protocol = 6 ∧ ¬ tcpE l = 0 ∧ pkE l = tcpE l ∧ pkS l = zeroPk) ∨ (I2.parseE l = 0 ∧ (I2.parseS l).protocol = 6 ∧ tcpE l = 0 ∧ pkE l = 0 ∧ pkS l = pkR l) := by
  by_cases h1 : I2.parseE l = 0
  rotate_left
  · have e : pkE l = I2.parseE l := by unfold pkE; rw [if_pos h1]
    exact .inl ⟨h1, e, by unfold pkS; rw [if_neg (by rw [e]; exact h1)]⟩
  by_cases h2 : (I2.parseS l).protocol = 6
  rotate_left
  · have e : pkE l = 7 := by unfold pkE; rw [if_neg (fun h => h h1), if_pos h2]
    exact .inr (.inl ⟨h1, h2, e, by unfold pkS; rw [if_neg (by rw [e]; decide)]⟩)
  have e : pkE l = tcpE l := by unfold pkE; rw [if_neg (fun h => h h1), if_neg (fun h => h h2)]
  by_cases h3 : tcpE l = 0
  · exact .inr (.inr (.inr ⟨h1, h2, h3, by rw [e, h3], by unfold pkS; rw [if_pos (by rw [e, h3])]⟩))
  · exact .inr (.inr (.inl ⟨h1, h2, h3, e, by unfold pkS; rw [if_neg (by rw [e]; exact h3)]⟩))

theorem parse_con {l : List Int} (hb : ∀ x ∈ l, 0 ≤ x ∧ x ≤ 255) (hl : l.length ≤ 4000) :
    CallCon Tryz.prog 59 [.one (.sl 0 0 l.length)] [.row (ints .u8 l) 1 5 false] (.tup [pkT (pkS l) 0, .one (.v (.int .u8 (pkE l)))]) [.row (ints .u8 (pkS l).bytes) 1 5 true] := by
  have hI := I2.parse_con hb hl
  have hw := I2.parse_wf hb hl
  have hT := T3.parse_con hw.src hw.dst hw.pay hw.plen
  have hle := tcp_le (I2.parseS l).src (I2.parseS l).dst (I2.parseS l).pay
  change T3.parseE _ _ _ = _ ∨ _ at hle
  rcases pk_cases l with ⟨c1, e1, e2⟩ | ⟨c1, c2, e1, e2⟩ | ⟨c1, c2, c3, e1, e2⟩ | ⟨c1, c2, c3, e1, e2⟩ <;> rw [e1, e2]
  · generalize I2.parseE l = q at *
    generalize I2.parseS l = h at *
    refine con_of_call2 rfl ?_
    refine call_inline Tryz.func59 rfl rfl ?_
    intro _
    repeat' (first | (refine is_split ?_; refine sp_yes (by exact ndec_t (by omega)) ?_ <;> (intro u; clear u)) | (refine is_loop ?_; refine loop_step ?_; intro u; clear u) | (refine is_yield ?_; refine yield_step rfl rfl rfl rfl ?_; intro u; clear u) | (refine is_draw ?_; refine draw_step mixed (by kernel_rfl) ?_; intro u; clear u) | (refine is_range ?_; refine range_step rfl rfl ?_; intro u; clear u) | (refine is_scope ?_; refine scope_step ?_; intro u; clear u) | (refine is_call ?_; (first | refine call_auto (hI) (lets_rfl rfl) (by exact ⟨⟨_, rfl, rfl, rfl⟩, trivial⟩) rfl ?_ | refine call_inline Tryz.func122 rfl rfl ?_ | refine call_inline Tryz.func160 rfl rfl ?_ | refine call_inline Tryz.func117 rfl rfl ?_); intro u; clear u))
    all_goals (refine con_end ?_ rfl; intro u; clear u; refine ⟨rfl, rfl, EntGoal.mk ?_ ?_⟩ <;> (repeat' (first | exact trivial | (with_reducible rfl) | apply And.intro | rfl)))
  · rw [c1] at hI
    generalize I2.parseS l = h at *
    refine con_of_call2 rfl ?_
    refine call_inline Tryz.func59 rfl rfl ?_
    intro _
    repeat' (first | (refine is_split ?_; (first | refine sp_yes (by exact ndec_t (by omega)) ?_ | refine sp_no (by rfl) ?_) <;> (intro u; clear u)) | (refine is_loop ?_; refine loop_step ?_; intro u; clear u) | (refine is_yield ?_; refine yield_step rfl rfl rfl rfl ?_; intro u; clear u) | (refine is_draw ?_; refine draw_step mixed (by kernel_rfl) ?_; intro u; clear u) | (refine is_range ?_; refine range_step rfl rfl ?_; intro u; clear u) | (refine is_scope ?_; refine scope_step ?_; intro u; clear u) | (refine is_call ?_; (first | refine call_auto (hI) (lets_rfl rfl) (by exact ⟨⟨_, rfl, rfl, rfl⟩, trivial⟩) rfl ?_ | refine call_inline Tryz.func122 rfl rfl ?_ | refine call_inline Tryz.func160 rfl rfl ?_ | refine call_inline Tryz.func117 rfl rfl ?_ | refine call_inline Tryz.func119 rfl rfl ?_); intro u; clear u))
    all_goals (refine con_end ?_ rfl; intro u; clear u; refine ⟨rfl, rfl, EntGoal.mk ?_ ?_⟩ <;> (repeat' (first | exact trivial | (with_reducible rfl) | apply And.intro | rfl)))
  · rw [c1] at hI
    unfold tcpE at c3 ⊢
    generalize I2.parseS l = h at *
    generalize T3.parseE h.src h.dst h.pay = q at *
    refine con_of_call2 rfl ?_
    refine call_inline Tryz.func59 rfl rfl ?_
    intro _
    repeat' (first | (refine is_split ?_; (first | refine sp_yes (by exact ndec_t (by omega)) ?_ | refine sp_no (by (first | rfl | exact ndec_f (by omega))) ?_) <;> (intro u; clear u)) | (refine is_loop ?_; refine loop_step ?_; intro u; clear u) | (refine is_yield ?_; refine yield_step rfl rfl rfl rfl ?_; intro u; clear u) | (refine is_draw ?_; refine draw_step mixed (by kernel_rfl) ?_; intro u; clear u) | (refine is_range ?_; refine range_step rfl rfl ?_; intro u; clear u) | (refine is_scope ?_; refine scope_step ?_; intro u; clear u) | (refine is_call ?_; (first | refine call_auto (hI) (lets_rfl rfl) (by exact ⟨⟨_, rfl, rfl, rfl⟩, trivial⟩) rfl ?_ | refine call_inline Tryz.func122 rfl rfl ?_ | refine call_inline Tryz.func160 rfl rfl ?_ | refine call_inline Tryz.func117 rfl rfl ?_ | refine call_inline Tryz.func119 rfl rfl ?_ | refine call_inline Tryz.func120 rfl rfl ?_ | refine call_auto (hT) (lets_rfl rfl) (by exact ⟨⟨_, rfl, rfl, rfl⟩, trivial⟩) rfl ?_); intro u; clear u))
    all_goals (refine con_end ?_ rfl; intro u; clear u; refine ⟨rfl, rfl, EntGoal.mk ?_ ?_⟩ <;> (repeat' (first | exact trivial | (with_reducible rfl) | apply And.intro | rfl)))
  · rw [c1] at hI
    unfold tcpE at c3
    rw [c3] at hT
    unfold pkR tcpS
    generalize I2.parseS l = h at *
    generalize T3.parseS h.src h.dst h.pay = t at *
    have k1 := I2.clone_all (l := l) (by omega)
    refine con_of_call2 rfl ?_
    refine call_inline Tryz.func59 rfl rfl ?_
    intro _
    repeat' (first | (refine is_split ?_; refine sp_no (by (first | rfl | exact ndec_f (by omega))) ?_ <;> (intro u; clear u)) | (refine is_loop ?_; refine loop_step ?_; intro u; clear u) | (refine is_yield ?_; refine yield_step rfl rfl rfl rfl ?_; intro u; clear u) | (refine is_draw ?_; refine draw_step mixed (by kernel_rfl) ?_; intro u; clear u) | (refine is_range ?_; refine range_step rfl rfl ?_; intro u; clear u) | (refine is_scope ?_; refine scope_step ?_; intro u; clear u) | (refine is_call ?_; (first | refine call_auto (hI) (lets_rfl rfl) (by exact ⟨⟨_, rfl, rfl, rfl⟩, trivial⟩) rfl ?_ | refine call_inline Tryz.func122 rfl rfl ?_ | refine call_inline Tryz.func160 rfl rfl ?_ | refine call_inline Tryz.func117 rfl rfl ?_ | refine call_inline Tryz.func119 rfl rfl ?_ | refine call_inline Tryz.func120 rfl rfl ?_ | refine call_auto (hT) (lets_rfl rfl) (by exact ⟨⟨_, rfl, rfl, rfl⟩, trivial⟩) rfl ?_); intro u; clear u) | (refine is_dcall ?_; refine dcall_auto (k1) (lets_rfl rfl) (by exact ⟨⟨_, rfl, rfl, rfl⟩, trivial⟩) rfl ?_; intro u; clear u))
    all_goals (refine con_end ?_ rfl; intro u; clear u; refine ⟨rfl, rfl, EntGoal.mk ?_ ?_⟩ <;> (repeat' (first | exact trivial | (with_reducible rfl) | apply And.intro | rfl)))
theorem refparse_con {l : List Int} (hb : ∀ x ∈ l, 0 ≤ x ∧ x ≤ 255) (hl : l.length ≤ 4000) :
    CallCon Tryz.prog 11 [.one (.sl 0 0 l.length)] [.row (ints .u8 l) 1 5 false] (.tup [pkT (pkS l) 0, .one (.v (.int .u8 (pkE l)))]) [.row (ints .u8 (pkS l).bytes) 1 5 true] := by
  have hI := I2.refparse_con hb hl
  have hw := I2.parse_wf hb hl
  have hT := T3.refparse_con hw.src hw.dst hw.pay hw.plen
  have hle := tcp_le (I2.parseS l).src (I2.parseS l).dst (I2.parseS l).pay
  change T3.parseE _ _ _ = _ ∨ _ at hle
  rcases pk_cases l with ⟨c1, e1, e2⟩ | ⟨c1, c2, e1, e2⟩ | ⟨c1, c2, c3, e1, e2⟩ | ⟨c1, c2, c3, e1, e2⟩ <;> rw [e1, e2]
  · generalize I2.parseE l = q at *
    generalize I2.parseS l = h at *
    refine con_of_call2 rfl ?_
    refine call_inline Tryz.func11 rfl rfl ?_
    intro _
    repeat' (first | (refine is_split ?_; refine sp_yes (by exact ndec_t (by omega)) ?_ <;> (intro u; clear u)) | (refine is_call ?_; refine call_auto (hI) (lets_rfl rfl) (by exact ⟨⟨_, rfl, rfl, rfl⟩, trivial⟩) rfl ?_; intro u; clear u))
    all_goals (refine con_end ?_ rfl; intro u; clear u; refine ⟨rfl, rfl, EntGoal.mk ?_ ?_⟩ <;> (repeat' (first | exact trivial | (with_reducible rfl) | apply And.intro | rfl)))
  · rw [c1] at hI
    generalize I2.parseS l = h at *
    refine con_of_call2 rfl ?_
    refine call_inline Tryz.func11 rfl rfl ?_
    intro _
    repeat' (first | (refine is_split ?_; (first | refine sp_yes (by exact ndec_t (by omega)) ?_ | refine sp_no (by rfl) ?_) <;> (intro u; clear u)) | (refine is_call ?_; refine call_auto (hI) (lets_rfl rfl) (by exact ⟨⟨_, rfl, rfl, rfl⟩, trivial⟩) rfl ?_; intro u; clear u))
    all_goals (refine con_end ?_ rfl; intro u; clear u; refine ⟨rfl, rfl, EntGoal.mk ?_ ?_⟩ <;> (repeat' (first | exact trivial | (with_reducible rfl) | apply And.intro | rfl)))
  · rw [c1] at hI
    unfold tcpE at c3 ⊢
    generalize I2.parseS l = h at *
    generalize T3.parseE h.src h.dst h.pay = q at *
    refine con_of_call2 rfl ?_
    refine call_inline Tryz.func11 rfl rfl ?_
    intro _
    repeat' (first | (refine is_split ?_; (first | refine sp_yes (by exact ndec_t (by omega)) ?_ | refine sp_no (by (first | rfl | exact ndec_f (by omega))) ?_) <;> (intro u; clear u)) | (refine is_call ?_; (first | refine call_auto (hI) (lets_rfl rfl) (by exact ⟨⟨_, rfl, rfl, rfl⟩, trivial⟩) rfl ?_ | refine call_auto (hT) (lets_rfl rfl) (by exact ⟨⟨_, rfl, rfl, rfl⟩, trivial⟩) rfl ?_); intro u; clear u))
    all_goals (refine con_end ?_ rfl; intro u; clear u; refine ⟨rfl, rfl, EntGoal.mk ?_ ?_⟩ <;> (repeat' (first | exact trivial | (with_reducible rfl) | apply And.intro | rfl)))
  · rw [c1] at hI
    unfold tcpE at c3
    rw [c3] at hT
    unfold pkR tcpS
    generalize I2.parseS l = h at *
    generalize T3.parseS h.src h.dst h.pay = t at *
    refine con_of_call2 rfl ?_
    refine call_inline Tryz.func11 rfl rfl ?_
    intro _
    repeat' (first | (refine is_split ?_; refine sp_no (by (first | rfl | exact ndec_f (by omega))) ?_ <;> (intro u; clear u)) | (refine is_asked ?_; (refine asked (ints .u8 l) ⟨by rw [I2.ints_all]; rfl, rfl, by rw [I2.ints_all, ints_length]; show _ = _ * 1; omega, by unfold maxLen; omega, by show _ * 1 ≤ _; omega⟩ ?_); intro u; clear u) | (refine is_draw ?_; refine draw_step mixed (by kernel_rfl) ?_; intro u; clear u) | (refine is_call ?_; (first | refine call_auto (hI) (lets_rfl rfl) (by exact ⟨⟨_, rfl, rfl, rfl⟩, trivial⟩) rfl ?_ | refine call_auto (hT) (lets_rfl rfl) (by exact ⟨⟨_, rfl, rfl, rfl⟩, trivial⟩) rfl ?_); intro u; clear u))
    all_goals (refine con_end ?_ rfl; intro u; clear u; refine ⟨rfl, rfl, EntGoal.mk ?_ ?_⟩ <;> (repeat' (first | exact trivial | (with_reducible rfl) | apply And.intro | rfl)))
    all_goals (show 0 + l.length = l.length; omega)
end Go.Proofs.S14.K5
