/- Contracts of functions of the program, or a row of the seat, proved out of them. No condition beyond those that stand in each statement. -/
import Derived.Test.YtcnijhilkemplaaS07h2E
namespace Go.Proofs.S07.I2
open Go Go.SE
set_option maxRecDepth 100000
set_option maxHeartbeats 4000000

theorem andNot14 {x : Int} (h : 0 ≤ x ∧ x ≤ 65535) : specI .andNot .u16 x 16384 (x % 16384 + x / 32768 * 32768) := by
  have key : ∀ n : Nat, n < 65536 → (BitVec.ofNat 16 n &&& ~~~ (16384#16)).toNat = n % 16384 + n / 32768 * 32768 := by
    intro n hn
    have e : (BitVec.ofNat 16 n &&& ~~~ (16384#16)).toNat = n &&& 49151 := by
      rw [BitVec.toNat_and, BitVec.toNat_ofNat, Nat.mod_eq_of_lt hn]
      rfl
    rw [e]
    have e2 : n &&& 49151 = ((n >>> 15) &&& (2 ^ 1 - 1)) <<< 15 ||| (n &&& (2 ^ 14 - 1)) := by
      apply Nat.eq_of_testBit_eq
      intro i
      rw [show (49151 : Nat) = (2 ^ 14 - 1) ||| (2 ^ 1 - 1) <<< 15 by decide]
      simp only [Nat.testBit_and, Nat.testBit_or, Nat.testBit_shiftLeft, Nat.testBit_shiftRight, Nat.testBit_two_pow_sub_one]
      by_cases hi : 15 ≤ i
      · have : ¬ i < 14 := by omega
        rw [show 15 + (i - 15) = i by omega]
        simp [hi, this, Bool.and_comm]
      · simp [hi, Bool.and_comm]
    rw [e2, or_add (n := 15) (by rw [Nat.shiftLeft_eq]; exact Nat.mul_mod_left _ _) (by rw [Nat.and_two_pow_sub_one_eq_mod]; omega), Nat.and_two_pow_sub_one_eq_mod, Nat.and_two_pow_sub_one_eq_mod, Nat.shiftRight_eq_div_pow, Nat.shiftLeft_eq]
    omega
  unfold specI
  have e1 : (BitVec.ofInt IntKind.u16.bits x) = BitVec.ofNat 16 x.toNat := by
    obtain ⟨n, rfl⟩ := Int.eq_ofNat_of_zero_le h.1
    show BitVec.ofInt 16 (n : Int) = BitVec.ofNat 16 (n : Int).toNat
    rw [Int.toNat_natCast, BitVec.ofInt_natCast]
  have e2 : (BitVec.ofInt IntKind.u16.bits 16384) = 16384#16 := by rfl
  rw [e1, e2]
  have := key x.toNat (by omega)
  show (((BitVec.ofNat 16 x.toNat &&& ~~~ (16384#16)).toNat : Nat) : Int) % 65536 = _
  rw [this]
  omega

attribute [local irreducible] specI

structure Hd where
  service : Int
  number : Int
  flags : Int
  hops : Int
  protocol : Int
  src : Int
  dst : Int
  opts : List Int
  pay : List Int
  deriving DecidableEq

def zeroHd : Hd := ⟨0, 0, 0, 0, 0, 0, 0, [], []⟩
structure Hd.Wf0 (t : Hd) : Prop where
  service : 0 ≤ t.service ∧ t.service ≤ 255
  number : 0 ≤ t.number ∧ t.number ≤ 65535
  flags : 0 ≤ t.flags ∧ t.flags ≤ 65535
  hops : 0 ≤ t.hops ∧ t.hops ≤ 255
  protocol : 0 ≤ t.protocol ∧ t.protocol ≤ 255
  src : 0 ≤ t.src ∧ t.src ≤ 4294967295
  dst : 0 ≤ t.dst ∧ t.dst ≤ 4294967295
  opts : ∀ x ∈ t.opts, 0 ≤ x ∧ x ≤ 255
  pay : ∀ x ∈ t.pay, 0 ≤ x ∧ x ≤ 255
structure Hd.Wf (t : Hd) : Prop extends Hd.Wf0 t where
  olen : t.opts.length ≤ 4000
  plen : t.pay.length ≤ 4000
def hdT (t : Hd) (h k : Nat) : T := .agg [.v (.int .u8 t.service), .v (.int .u16 t.number), .v (.int .u16 t.flags), .v (.int .u8 t.hops), .v (.int .u8 t.protocol), .v (.int .u32 t.src), .v (.int .u32 t.dst), .sl h 0 t.opts.length, .sl k 0 t.pay.length]
def okHd (t : Hd) : Prop := (t.flags = 0 ∨ t.flags = 16384) ∧ t.opts.length ≤ 40 ∧ t.opts.length % 4 = 0
instance (t : Hd) : Decidable (okHd t) := by unfold okHd; infer_instance
def sizeN (t : Hd) : Int := if okHd t then 20 + t.opts.length + t.pay.length else 0

theorem hright_con {t : Hd} (h : t.Wf) : CallCon Try.prog 44 [hdT t 0 1] [.row (ints .u8 t.opts) 1 5 false, .row (ints .u8 t.pay) 1 5 false] (.t (.one (.b (okHd t)))) [] := by
  have h1 := h.flags
  have h2 := h.olen
  have h3 := h.plen
  refine con_of_call2 rfl ?_
  refine call_inline Try.func44 rfl rfl ?_
  intro _
  repeat' (first | (refine is_split ?_; refine sp_dec (fun g => ?_) (fun g => ?_) <;> (intro u; clear u)) | (refine is_asked ?_; (refine is_spec ?_; (first | (refine asked _ (andNot14 (by omega)) ?_) | (with_reducible refine asked _ (sp_add (by simp only [lo, hi]; omega) (by simp only [lo, hi]; omega)) ?_) | (with_reducible refine asked _ (sp_maskL 2 4 (by decide) (by decide) (by decide) (by simp only [lo, hi]; omega)) ?_))); intro u; clear u))
  all_goals first
    | (have hd : okHd t := by unfold okHd; omega
       rw [decide_eq_true hd]; (try rw [show decide (20 + (t.opts.length : Int) + (t.pay.length : Int) ≤ 65535) = true from decide_eq_true (by omega)]); (refine con_end ?_ rfl; intro u; clear u; refine ⟨rfl, rfl, EntGoal.mk ?_ ?_⟩ <;> (repeat' (first | exact trivial | (with_reducible rfl) | apply And.intro | rfl))); done)
    | (have hd : ¬ okHd t := by unfold okHd; omega
       rw [decide_eq_false hd]; (refine con_end ?_ rfl; intro u; clear u; refine ⟨rfl, rfl, EntGoal.mk ?_ ?_⟩ <;> (repeat' (first | exact trivial | (with_reducible rfl) | apply And.intro | rfl))); done)
    | skip
theorem hrefright_con {t : Hd} (h : t.Wf) : CallCon Try.prog 50 [hdT t 0 1] [.row (ints .u8 t.opts) 1 5 false, .row (ints .u8 t.pay) 1 5 false] (.t (.one (.b (okHd t)))) [] := by
  have h1 := h.flags
  have h2 := h.olen
  have h3 := h.plen
  refine con_of_call2 rfl ?_
  refine call_inline Try.func50 rfl rfl ?_
  intro _
  repeat' (first | (refine is_split ?_; refine sp_dec (fun g => ?_) (fun g => ?_) <;> (intro u; clear u)) | (refine is_asked ?_; (refine is_spec ?_; (first | (refine asked _ (sp_rem (by omega) (by omega)) ?_) | (with_reducible refine asked _ (sp_add (by simp only [lo, hi]; omega) (by simp only [lo, hi]; omega)) ?_))); intro u; clear u))
  all_goals first
    | (have hd : okHd t := by unfold okHd; omega
       rw [decide_eq_true hd]; (try rw [show decide (20 + (t.opts.length : Int) + (t.pay.length : Int) ≤ 65535) = true from decide_eq_true (by omega)]); (refine con_end ?_ rfl; intro u; clear u; refine ⟨rfl, rfl, EntGoal.mk ?_ ?_⟩ <;> (repeat' (first | exact trivial | (with_reducible rfl) | apply And.intro | rfl))); done)
    | (have hd : ¬ okHd t := by unfold okHd; omega
       rw [decide_eq_false hd]; (refine con_end ?_ rfl; intro u; clear u; refine ⟨rfl, rfl, EntGoal.mk ?_ ?_⟩ <;> (repeat' (first | exact trivial | (with_reducible rfl) | apply And.intro | rfl))); done)
    | skip
theorem size_con {t : Hd} (h : t.Wf) : CallCon Try.prog 45 [hdT t 0 1] [.row (ints .u8 t.opts) 1 5 false, .row (ints .u8 t.pay) 1 5 false] (.t (.one (.v (.int .i64 (sizeN t))))) [] := by
  have h2 := h.olen
  have h3 := h.plen
  have hr := hright_con h
  unfold sizeN
  by_cases hok : okHd t
  · have hr2 := con_yes hr hok
    rw [if_pos hok]
    refine con_of_call2 rfl ?_
    refine call_inline Try.func45 rfl rfl ?_
    intro _
    repeat' (first | (refine is_asked ?_; (refine is_spec ?_; (with_reducible refine asked _ (sp_add (by simp only [lo, hi]; omega) (by simp only [lo, hi]; omega)) ?_)); intro u; clear u) | (refine is_call ?_; refine call_auto (hr2) (lets_rfl rfl) (by exact ⟨⟨_, rfl, rfl, rfl⟩, ⟨_, rfl, rfl, rfl⟩, trivial⟩) rfl ?_; intro u; clear u))
    (refine con_end ?_ rfl; intro u; clear u; refine ⟨rfl, rfl, EntGoal.mk ?_ ?_⟩ <;> (repeat' (first | exact trivial | (with_reducible rfl) | apply And.intro | rfl)))
  · have hr2 := con_no hr hok
    rw [if_neg hok]
    refine con_of_call2 rfl ?_
    refine call_inline Try.func45 rfl rfl ?_
    intro _
    repeat' (refine is_call ?_; refine call_auto (hr2) (lets_rfl rfl) (by exact ⟨⟨_, rfl, rfl, rfl⟩, ⟨_, rfl, rfl, rfl⟩, trivial⟩) rfl ?_; intro u; clear u)
    (refine con_end ?_ rfl; intro u; clear u; refine ⟨rfl, rfl, EntGoal.mk ?_ ?_⟩ <;> (repeat' (first | exact trivial | (with_reducible rfl) | apply And.intro | rfl)))
theorem refsize_con {t : Hd} (h : t.Wf) : CallCon Try.prog 52 [hdT t 0 1] [.row (ints .u8 t.opts) 1 5 false, .row (ints .u8 t.pay) 1 5 false] (.t (.one (.v (.int .i64 (sizeN t))))) [] := by
  have h2 := h.olen
  have h3 := h.plen
  have hr := hrefright_con h
  unfold sizeN
  by_cases hok : okHd t
  · have hr2 := con_yes hr hok
    rw [if_pos hok]
    refine con_of_call2 rfl ?_
    refine call_inline Try.func52 rfl rfl ?_
    intro _
    repeat' (first | (refine is_asked ?_; (refine is_spec ?_; (with_reducible refine asked _ (sp_add (by simp only [lo, hi]; omega) (by simp only [lo, hi]; omega)) ?_)); intro u; clear u) | (refine is_call ?_; refine call_auto (hr2) (lets_rfl rfl) (by exact ⟨⟨_, rfl, rfl, rfl⟩, ⟨_, rfl, rfl, rfl⟩, trivial⟩) rfl ?_; intro u; clear u))
    (refine con_end ?_ rfl; intro u; clear u; refine ⟨rfl, rfl, EntGoal.mk ?_ ?_⟩ <;> (repeat' (first | exact trivial | (with_reducible rfl) | apply And.intro | rfl)))
  · have hr2 := con_no hr hok
    rw [if_neg hok]
    refine con_of_call2 rfl ?_
    refine call_inline Try.func52 rfl rfl ?_
    intro _
    repeat' (refine is_call ?_; refine call_auto (hr2) (lets_rfl rfl) (by exact ⟨⟨_, rfl, rfl, rfl⟩, ⟨_, rfl, rfl, rfl⟩, trivial⟩) rfl ?_; intro u; clear u)
    (refine con_end ?_ rfl; intro u; clear u; refine ⟨rfl, rfl, EntGoal.mk ?_ ?_⟩ <;> (repeat' (first | exact trivial | (with_reducible rfl) | apply And.intro | rfl)))
