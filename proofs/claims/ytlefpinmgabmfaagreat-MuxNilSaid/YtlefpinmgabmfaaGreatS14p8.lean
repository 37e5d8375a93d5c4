/- Contracts of functions of the program, or a row of the seat, proved out of them. No condition beyond those that stand in each statement. -/
import Derived.Test.YtlefpinmgabmfaaGreatSeD
import Derived.Test.YtlefpinmgabmfaaGreatSeE
import Derived.KernelRfl
import Derived.Test.YtlefpinmgabmfaaGreatProg
namespace Go.Proofs.S14.H8
open Go Go.SE
set_option maxRecDepth 100000
set_option maxHeartbeats 4000000
attribute [local irreducible] specI
theorem mixed : Tryz.prog.follows .mixedOrders = true := by kernel_rfl

def byte (c : Int) : Prop := 0 ≤ c ∧ c ≤ 255
def turnN (n : Nat) : Nat := (167 * n + 13) % 256 % 16 * 16 + (167 * n + 13) % 256 / 16
def unN (n : Nat) : Nat := (n % 16 * 16 + n / 16 + 243) * 23 % 256
def turn (c : Int) : Int := (turnN c.toNat : Nat)
def unturn (c : Int) : Int := (unN c.toNat : Nat)
theorem turnN_lt : ∀ n, n < 256 → turnN n < 256 := by decide +kernel
theorem unN_lt : ∀ n, n < 256 → unN n < 256 := by decide +kernel
theorem unN_turn : ∀ n, n < 256 → unN (turnN n) = n := by decide +kernel
theorem turnN_un : ∀ n, n < 256 → turnN (unN n) = n := by decide +kernel
theorem byte_nat {c : Int} (h : byte c) : ∃ n : Nat, c = n ∧ n < 256 := by
  obtain ⟨n, rfl⟩ := Int.eq_ofNat_of_zero_le h.1
  have := h.2
  exact ⟨n, rfl, by omega⟩
theorem turn_byte {c : Int} (h : byte c) : byte (turn c) := by
  obtain ⟨n, rfl, hn⟩ := byte_nat h
  have := turnN_lt n hn
  show 0 ≤ ((turnN n : Nat) : Int) ∧ ((turnN n : Nat) : Int) ≤ 255
  omega
theorem unturn_byte {c : Int} (h : byte c) : byte (unturn c) := by
  obtain ⟨n, rfl, hn⟩ := byte_nat h
  have := unN_lt n hn
  show 0 ≤ ((unN n : Nat) : Int) ∧ ((unN n : Nat) : Int) ≤ 255
  omega
theorem unturn_turn {c : Int} (h : byte c) : unturn (turn c) = c := by
  obtain ⟨n, rfl, hn⟩ := byte_nat h
  have := unN_turn n hn
  show ((unN (turnN n) : Nat) : Int) = n
  omega
theorem turn_unturn {c : Int} (h : byte c) : turn (unturn c) = c := by
  obtain ⟨n, rfl, hn⟩ := byte_nat h
  have := turnN_un n hn
  show ((turnN (unN n) : Nat) : Int) = n
  omega
theorem turn_inj {a b : Int} (ha : byte a) (hb : byte b) : turn a = turn b ↔ a = b := by
  constructor
  · intro h
    rw [← unturn_turn ha, ← unturn_turn hb, h]
  · intro h; rw [h]
/-- Two bytes, one upon the other. -/
def xr (a b : Int) : Int := ((a.toNat ^^^ b.toNat : Nat) : Int)
theorem xr_byte {a b : Int} (ha : byte a) (hb : byte b) : byte (xr a b) := by
  obtain ⟨a, rfl, ha⟩ := byte_nat ha
  obtain ⟨b, rfl, hb⟩ := byte_nat hb
  have h : a ^^^ b < 2 ^ 8 := Nat.xor_lt_two_pow (by omega) (by omega)
  show 0 ≤ ((a ^^^ b : Nat) : Int) ∧ ((a ^^^ b : Nat) : Int) ≤ 255
  omega
theorem xr_inj {a b c : Int} (ha : byte a) (hb : byte b) : xr a c = xr b c ↔ a = b := by
  obtain ⟨a, rfl, hA⟩ := byte_nat ha
  obtain ⟨b, rfl, hB⟩ := byte_nat hb
  unfold xr
  constructor
  · intro h
    have h : a ^^^ c.toNat = b ^^^ c.toNat := Int.ofNat_inj.1 (by simpa using h)
    have := congrArg (· ^^^ c.toNat) h
    simp only [Nat.xor_assoc, Nat.xor_self, Nat.xor_zero] at this
    omega
  · intro h; rw [show a = b by omega]
/-- The state behind bytes. -/
def goB (s : Int) : List Int → Int
  | [] => s
  | c :: l => goB (turn (xr s c)) l
theorem goB_byte {s : Int} (hs : byte s) : ∀ {l : List Int}, Bytes l → byte (goB s l)
  | [], _ => hs
  | c :: _, h => goB_byte (turn_byte (xr_byte hs (h c (by simp)))) fun x hx => h x (by simp [hx])
theorem goB_append (s : Int) : ∀ (l r : List Int), goB s (l ++ r) = goB (goB s l) r
  | [], _ => rfl
  | _ :: l, r => goB_append _ l r
theorem goB_inj {s o : Int} (hs : byte s) (ho : byte o) : ∀ {l : List Int}, Bytes l → (goB s l = goB o l ↔ s = o)
  | [], _ => Iff.rfl
  | c :: l, h => by
    have hc := h c (by simp)
    show goB _ l = goB _ l ↔ _
    rw [goB_inj (turn_byte (xr_byte hs hc)) (turn_byte (xr_byte ho hc)) (fun x hx => h x (by simp [hx])), turn_inj (xr_byte hs hc) (xr_byte ho hc), xr_inj hs ho]

theorem turn_con {c : Int} (hc : byte c) : CallCon Tryz.prog 169 [.one (.v (.int .u8 c))] [] (.t (.one (.v (.int .u8 (turn c))))) [] := by
  obtain ⟨n, rfl, hn⟩ := byte_nat hc
  refine con_of_call2 rfl ?_
  refine call_inline Tryz.func169 rfl rfl ?_
  intro _
  repeat' (first | (refine is_asked ?_; (refine is_spec ?_; (first | (refine asked _ (sp_mulW _ _ _) ?_) | (refine asked _ (sp_addW _ _ _) ?_) | (refine asked _ (sp_orW _ _ _) ?_) | (refine asked _ (sp_shlW _ _ (by decide)) ?_) | (refine asked _ (sp_shrW _ _ (by decide)) ?_))); intro u; clear u) | (refine is_call ?_; refine call_inline Tryz.func189 rfl rfl ?_; intro u; clear u))
  (refine con_end ?_ rfl; intro u; clear u; refine ⟨rfl, rfl, EntGoal.mk ?_ ?_⟩ <;> (repeat' (first | exact trivial | (with_reducible rfl) | apply And.intro | rfl)))
  clear hc; revert n; decide +kernel
theorem refturn_con {c : Int} (hc : byte c) : CallCon Tryz.prog 131 [.one (.v (.int .u8 c))] [] (.t (.one (.v (.int .u8 (turn c))))) [] := by
  obtain ⟨n, rfl, hn⟩ := byte_nat hc
  refine con_of_call2 rfl ?_
  refine call_inline Tryz.func131 rfl rfl ?_
  intro _
  repeat' (refine is_asked ?_; (first | (refine is_spec ?_; (first | (refine asked _ (sp_mulW _ _ _) ?_) | (refine asked _ (sp_addW _ _ _) ?_) | (refine asked _ (sp_quoW _ _ (by decide)) ?_) | (refine asked _ (sp_remW _ _ (by decide)) ?_))) | (refine is_wrap ?_; (first | refine asked _ (wrap_lohi (by simp only [lo, hi]; omega) (by simp only [lo, hi]; omega)) ?_ | refine asked _ (wrap_u8' _) ?_))); intro u; clear u)
  (refine con_end ?_ rfl; intro u; clear u; refine ⟨rfl, rfl, EntGoal.mk ?_ ?_⟩ <;> (repeat' (first | exact trivial | (with_reducible rfl) | apply And.intro | rfl)))
  clear hc; revert n; decide +kernel
def fld (s : Int) : Int := (((s.toNat ^^^ (s.toNat / 16)) % 16 : Nat) : Int)
theorem folded_con {c : Int} (hc : byte c) : CallCon Tryz.prog 63 [.one (.v (.int .u8 c))] [] (.t (.one (.v (.int .i64 (fld c))))) [] := by
  obtain ⟨n, rfl, hn⟩ := byte_nat hc
  refine con_of_call2 rfl ?_
  refine call_inline Tryz.func63 rfl rfl ?_
  intro _
  repeat' (refine is_asked ?_; (first | (refine is_spec ?_; (first | (refine asked _ (sp_andW _ _ _) ?_) | (refine asked _ (sp_xorW _ _ _) ?_) | (refine asked _ (sp_shrW _ _ (by decide)) ?_))) | (refine asked _ rfl ?_)); intro u; clear u)
  (refine con_end ?_ rfl; intro u; clear u; refine ⟨rfl, rfl, EntGoal.mk ?_ ?_⟩ <;> (repeat' (first | exact trivial | (with_reducible rfl) | apply And.intro | rfl)))
  clear hc; revert n; decide +kernel
end Go.Proofs.S14.H8

namespace Go.Proofs.S14.H8
open Go Go.SE
set_option maxRecDepth 100000
set_option maxHeartbeats 4000000
attribute [local irreducible] specI

theorem goB_succ {s : Int} {l : List Int} {k : Nat} (h : k < l.length) : goB s (l.take (k + 1)) = turn (xr (goB s (l.take k)) (l.getD k 0)) := by
  rw [List.take_succ_eq_append_getElem h, goB_append]
  rw [show l.getD k 0 = l[k] by simp [List.getD_eq_getElem?_getD, List.getElem?_eq_getElem h]]
  rfl
theorem getD_byte {l : List Int} (h : Bytes l) (k : Nat) : byte (l.getD k 0) := by
  rw [List.getD_eq_getElem?_getD]
  cases e : l[k]? with
  | none => exact ⟨by simp, by simp⟩
  | some x => exact h x (List.mem_of_getElem? e)
theorem bytes_take {l : List Int} (h : Bytes l) (k : Nat) : Bytes (l.take k) := fun x hx => h x (List.mem_of_mem_take hx)

/-- A part of some bytes. -/
def sub (l : List Int) (off n : Nat) : List Int := (l.drop off).take n
theorem sub_len {l : List Int} {off n : Nat} (h : off + n ≤ l.length) : (sub l off n).length = n := by simp [sub]; omega
theorem sub_bytes {l : List Int} (h : Bytes l) (off n : Nat) : Bytes (sub l off n) := fun x hx => h x (List.mem_of_mem_drop (List.mem_of_mem_take hx))
theorem sub_all (l : List Int) : sub l 0 l.length = l := by simp [sub]
theorem ix_sub {l : List Int} {off n k p : Nat} (h : off + n ≤ l.length) (hk : k < n) (hp : p = off + k) : (ints .u8 l)[p]? = some (.int .u8 ((sub l off n).getD k 0)) := by
  subst hp
  rw [ix_eq (off + k) rfl (by omega)]
  congr 2
  simp only [sub, List.getD_eq_getElem?_getD]
  rw [List.getElem?_take, if_pos hk, List.getElem?_drop]
theorem last_con {s : Int} (hs : byte s) {l : List Int} (hl : Bytes l) {off n : Nat} (hn : off + n ≤ l.length) (hm : l.length ≤ 1000000) : CallCon Tryz.prog 147 [.one (.fn 169 []), .one (.v (.int .u8 s)), .one (.sl 0 off n)] [.row (ints .u8 l) 1 5 false] (.t (.one (.v (.int .u8 (goB s (sub l off n)))))) [] := by
  have hr := sub_bytes hl off n
  have hrl := sub_len hn
  have hix := fun k p => @ix_sub l off n k p hn
  generalize sub l off n = r at *
  refine con_of_call2 rfl ?_
  refine call_inline Tryz.func147 rfl rfl ?_
  intro _
  repeat' (first | (refine is_range ?_; refine range_step rfl rfl ?_; intro u; clear u) | (refine is_call ?_; (first | refine call_inline Tryz.func175 rfl rfl ?_ | refine call_inline Tryz.func198 rfl rfl ?_); intro u; clear u))
  refine loop_keep (fun k : Nat => n - k) (fun k => k ≤ n) [0, 2, 3, 7, 8] (fun k => [(9, .t (.one (.v (.int .i64 k))))]) (fun k => [(1, .box [.v (.int .u8 (goB s (r.take k)))] 1 5), (3, .box [.v (.int .u8 (goB s (r.take k)))] 1 5)]) (fun _ => [(6, [], [4, 10])]) [] 0 0 (Nat.zero_le _) ?_ ?_
  · (intro u; clear u; refine ⟨rfl, rfl, EntGoal.mk ?_ ?_⟩ <;> (repeat' (first | exact trivial | (with_reducible rfl) | apply And.intro | rfl)))
  intro k hk u
  clear u
  have ha := goB_byte hs (bytes_take hr k)
  have hx := getD_byte hr k
  obtain ⟨a1, a2⟩ := ha
  obtain ⟨x1, x2⟩ := hx
  have hT := turn_con (xr_byte ⟨a1, a2⟩ ⟨x1, x2⟩)
  repeat' (first | (refine is_split ?_; refine sp_dec (fun g => ?_) (fun g => ?_) <;> (intro u; clear u)) | (refine is_asked ?_; (first | (refine is_spec ?_; (first | (refine asked (xr _ _) (sp_xor rfl (by omega) (by simp only [hi]; omega) (by omega) (by simp only [hi]; omega)) ?_) | (with_reducible refine asked _ (sp_add (by simp only [lo, hi]; omega) (by simp only [lo, hi]; omega)) ?_))) | (refine asked _ (hix k _ (by omega) (by show (off + Int.toNat (k : Int)) * 1 = _; omega)) ?_) | refine asked () ⟨by omega, by omega⟩ ?_); intro u; clear u) | (refine is_yield ?_; refine yield_step rfl rfl rfl rfl ?_; intro u; clear u) | (refine is_call ?_; refine call_auto (hT) (lets_rfl rfl) (by exact trivial) rfl ?_; intro u; clear u))
  · refine again (k + 1) (by omega) (by omega) ?_
    (intro u; clear u; refine ⟨rfl, rfl, EntGoal.mk ?_ ?_⟩ <;> (repeat' (first | exact trivial | (with_reducible rfl) | apply And.intro | rfl)))
    all_goals exact (goB_succ (by omega)).symm
  · (refine con_end ?_ rfl; intro u; clear u; refine ⟨rfl, rfl, EntGoal.mk ?_ ?_⟩ <;> (repeat' (first | exact trivial | (with_reducible rfl) | apply And.intro | rfl)))
    rw [List.take_of_length_le (by omega)]
end Go.Proofs.S14.H8

namespace Go.Proofs.S14.H8
open Go Go.SE
set_option maxRecDepth 100000
set_option maxHeartbeats 4000000
attribute [local irreducible] specI

structure Tu where
  a : Int
  b : Int
  c : Int
  d : Int
  deriving DecidableEq
structure Tu.Wf (t : Tu) : Prop where
  a : 0 ≤ t.a ∧ t.a ≤ 4294967295
  b : 0 ≤ t.b ∧ t.b ≤ 4294967295
  c : 0 ≤ t.c ∧ t.c ≤ 65535
  d : 0 ≤ t.d ∧ t.d ≤ 65535
def tuS (t : Tu) : List S := [.v (.int .u32 t.a), .v (.int .u32 t.b), .v (.int .u16 t.c), .v (.int .u16 t.d)]
def tuT (t : Tu) : T := .agg (tuS t)
def zeroTu : Tu := ⟨0, 0, 0, 0⟩
theorem zeroTu_wf : zeroTu.Wf := ⟨by decide, by decide, by decide, by decide⟩
def be4 (n : Int) : List Int := [n / 16777216 % 256, n / 65536 % 256, n / 256 % 256, n % 256]
def be2 (n : Int) : List Int := [n / 256 % 256, n % 256]
def tuB (t : Tu) : List Int := be4 t.a ++ (be4 t.b ++ (be2 t.c ++ be2 t.d))
theorem be4_bytes (n : Int) : Bytes (be4 n) := by
  intro x hx
  simp only [be4, List.mem_cons, List.not_mem_nil, or_false] at hx
  rcases hx with rfl | rfl | rfl | rfl <;> omega
theorem be2_bytes (n : Int) : Bytes (be2 n) := by
  intro x hx
  simp only [be2, List.mem_cons, List.not_mem_nil, or_false] at hx
  rcases hx with rfl | rfl <;> omega
theorem tuB_bytes (t : Tu) : Bytes (tuB t) := by
  intro x hx
  unfold tuB at hx
  rcases List.mem_append.1 hx with h | h
  · exact be4_bytes _ x h
  rcases List.mem_append.1 h with h | h
  · exact be4_bytes _ x h
  rcases List.mem_append.1 h with h | h
  · exact be2_bytes _ x h
  · exact be2_bytes _ x h
theorem tuB_len (t : Tu) : (tuB t).length = 12 := rfl

theorem refbytes4_con {n : Int} (h : 0 ≤ n ∧ n ≤ 4294967295) : CallCon Tryz.prog 132 [.one (.v (.int .i64 n)), .one (.n .i64 4)] [] (.t (.one (.sl 0 0 4))) [.row (ints .u8 (be4 n)) 1 5 true] := by
  obtain ⟨h1, h2⟩ := h
  refine con_of_call2 rfl ?_
  refine call_inline Tryz.func132 rfl rfl ?_
  intro _
  repeat' (first | (refine is_asked ?_; (first | (refine is_spec ?_; (first | (refine is_op (op := .shr) ?_; (first | refine asked _ (sp_shrL 8 256 (by decide) (by rfl) (by decide)) ?_ | refine asked _ (sp_shrL 16 65536 (by decide) (by rfl) (by decide)) ?_ | refine asked _ (sp_shrL 24 16777216 (by decide) (by rfl) (by decide)) ?_ | refine asked _ (sp_shrL 0 1 (by decide) (by rfl) (by decide)) ?_)) | (with_reducible refine asked _ (sp_maskL 8 256 (by decide) (by decide) (by decide) (by simp only [lo, hi]; omega)) ?_))) | (refine is_wrap ?_; refine asked _ (wrap_lohi (by simp only [lo, hi]; omega) (by simp only [lo, hi]; omega)) ?_) | refine asked _ (append_ask rfl rfl (by decide) (by decide)) ?_); intro u; clear u) | (refine is_loop ?_; refine loop_step ?_; intro u; clear u))
  (refine con_end ?_ rfl; intro u; clear u; refine ⟨rfl, rfl, EntGoal.mk ?_ ?_⟩ <;> (repeat' (first | exact trivial | (with_reducible rfl) | apply And.intro | rfl)))
  rw [Int.ediv_one]; rfl
theorem refbytes2_con {n : Int} (h : 0 ≤ n ∧ n ≤ 65535) : CallCon Tryz.prog 132 [.one (.v (.int .i64 n)), .one (.n .i64 2)] [] (.t (.one (.sl 0 0 2))) [.row (ints .u8 (be2 n)) 1 5 true] := by
  obtain ⟨h1, h2⟩ := h
  refine con_of_call2 rfl ?_
  refine call_inline Tryz.func132 rfl rfl ?_
  intro _
  repeat' (first | (refine is_asked ?_; (first | (refine is_spec ?_; (first | (refine is_op (op := .shr) ?_; (first | refine asked _ (sp_shrL 8 256 (by decide) (by rfl) (by decide)) ?_ | refine asked _ (sp_shrL 0 1 (by decide) (by rfl) (by decide)) ?_)) | (with_reducible refine asked _ (sp_maskL 8 256 (by decide) (by decide) (by decide) (by simp only [lo, hi]; omega)) ?_))) | (refine is_wrap ?_; refine asked _ (wrap_lohi (by simp only [lo, hi]; omega) (by simp only [lo, hi]; omega)) ?_) | refine asked _ (append_ask rfl rfl (by decide) (by decide)) ?_); intro u; clear u) | (refine is_loop ?_; refine loop_step ?_; intro u; clear u))
  (refine con_end ?_ rfl; intro u; clear u; refine ⟨rfl, rfl, EntGoal.mk ?_ ?_⟩ <;> (repeat' (first | exact trivial | (with_reducible rfl) | apply And.intro | rfl)))
  rw [Int.ediv_one]; rfl
theorem reftu_con {t : Tu} (h : t.Wf) : CallCon Tryz.prog 69 [tuT t] [] (.t (.one (.sl 0 0 12))) [.row (ints .u8 (tuB t)) 1 5 true] := by
  obtain ⟨⟨a1, a2⟩, ⟨b1, b2⟩, ⟨c1, c2⟩, ⟨d1, d2⟩⟩ := h
  have ha := refbytes4_con ⟨a1, a2⟩
  have hb := refbytes4_con ⟨b1, b2⟩
  have hc := refbytes2_con ⟨c1, c2⟩
  have hd := refbytes2_con ⟨d1, d2⟩
  refine con_of_call2 rfl ?_
  refine call_inline Tryz.func69 rfl rfl ?_
  intro _
  repeat' (first | (refine is_asked ?_; (first | (refine is_wrap ?_; refine asked _ (wrap_lohi (by simp only [lo, hi]; omega) (by simp only [lo, hi]; omega)) ?_) | refine asked _ (append_ask rfl rfl (by decide) (by decide)) ?_); intro u; clear u) | (refine is_draw ?_; refine draw_step mixed (by kernel_rfl) ?_; intro u; clear u) | (refine is_dcall ?_; (first | refine dcall_auto (ha) (lets_rfl rfl) (by exact trivial) rfl ?_ | refine dcall_auto (hb) (lets_rfl rfl) (by exact trivial) rfl ?_ | refine dcall_auto (hc) (lets_rfl rfl) (by exact trivial) rfl ?_ | refine dcall_auto (hd) (lets_rfl rfl) (by exact trivial) rfl ?_); intro u; clear u))
  (refine con_end ?_ rfl; intro u; clear u; refine ⟨rfl, rfl, EntGoal.mk ?_ ?_⟩ <;> (repeat' (first | exact trivial | (with_reducible rfl) | apply And.intro | rfl)))
theorem tubytes_con {t : Tu} (h : t.Wf) : CallCon Tryz.prog 129 [tuT t] [] (.t (.one (.sl 0 0 12))) [.row (ints .u8 (tuB t)) 1 5 true] := by
  obtain ⟨⟨a1, a2⟩, ⟨b1, b2⟩, ⟨c1, c2⟩, ⟨d1, d2⟩⟩ := h
  refine con_of_call2 rfl ?_
  refine call_inline Tryz.func129 rfl rfl ?_
  intro _
  repeat' (first | (refine is_asked ?_; (first | (refine is_spec ?_; (refine is_op (op := .shr) ?_; (first | refine asked _ (sp_shrL 8 256 (by decide) (by rfl) (by decide)) ?_ | refine asked _ (sp_shrL 16 65536 (by decide) (by rfl) (by decide)) ?_ | refine asked _ (sp_shrL 24 16777216 (by decide) (by rfl) (by decide)) ?_ | refine asked _ (sp_shrL 0 1 (by decide) (by rfl) (by decide)) ?_))) | (refine is_wrap ?_; (first | refine asked _ (wrap_lohi (by simp only [lo, hi]; omega) (by simp only [lo, hi]; omega)) ?_ | refine asked _ (wrap_u8' _) ?_)) | (refine asked ((0 : Nat), (12 : Nat), ([] : List Value)) ⟨rfl, rfl, by decide, by decide, by decide, rfl⟩ ?_) | refine asked _ (append_ask rfl rfl (by decide) (by decide)) ?_); intro u; clear u) | (refine is_loop ?_; refine loop_step ?_; intro u; clear u) | (refine is_yield ?_; refine yield_step rfl rfl rfl rfl ?_; intro u; clear u) | (refine is_draw ?_; refine draw_step mixed (by kernel_rfl) ?_; intro u; clear u) | (refine is_range ?_; refine range_step rfl rfl ?_; intro u; clear u) | (refine is_call ?_; (first | refine call_inline Tryz.func170 rfl rfl ?_ | refine call_inline Tryz.func190 rfl rfl ?_); intro u; clear u))
  (refine con_end ?_ rfl; intro u; clear u; refine ⟨rfl, rfl, EntGoal.mk ?_ ?_⟩ <;> (repeat' (first | exact trivial | (with_reducible rfl) | apply And.intro | rfl)))
  show _ = ints .u8 (tuB t)
  have e1 : t.a / 16777216 % 256 = t.a / 16777216 := by omega
  have e2 : t.b / 16777216 % 256 = t.b / 16777216 := by omega
  have e3 : t.c / 256 % 256 = t.c / 256 := by omega
  have e4 : t.d / 256 % 256 = t.d / 256 := by omega
  unfold tuB be4 be2
  rw [e1, e2, e3, e4]
  simp only [Int.ediv_one]; rfl

def n2 (l : List Int) (o : Nat) : Int := 256 * (0 + l.getD o 0) + l.getD (o + 1) 0
def n4 (l : List Int) (o : Nat) : Int := 256 * (256 * (256 * (0 + l.getD o 0) + l.getD (o + 1) 0) + l.getD (o + 2) 0) + l.getD (o + 3) 0
theorem n2_bd {l : List Int} (hl : Bytes l) (o : Nat) : 0 ≤ n2 l o ∧ n2 l o ≤ 65535 := by
  have h0 := getD_byte hl o
  have h1 := getD_byte hl (o + 1)
  unfold byte at h0 h1
  unfold n2
  omega
theorem n4_bd {l : List Int} (hl : Bytes l) (o : Nat) : 0 ≤ n4 l o ∧ n4 l o ≤ 4294967295 := by
  have h0 := getD_byte hl o
  have h1 := getD_byte hl (o + 1)
  have h2 := getD_byte hl (o + 2)
  have h3 := getD_byte hl (o + 3)
  unfold byte at h0 h1 h2 h3
  unfold n4
  omega
def tuOf (l : List Int) : Tu := ⟨n4 l 0, n4 l 4, n2 l 8, n2 l 10⟩
theorem tuOf_wf {l : List Int} (hl : Bytes l) : (tuOf l).Wf := ⟨n4_bd hl 0, n4_bd hl 4, n2_bd hl 8, n2_bd hl 10⟩
theorem tuB_of {l : List Int} (hl : Bytes l) (h : l.length = 12) : tuB (tuOf l) = l := by
  match l, h with
  | [x0, x1, x2, x3, x4, x5, x6, x7, x8, x9, x10, x11], _ =>
    have g0 := hl x0 (by simp)
    have g1 := hl x1 (by simp)
    have g2 := hl x2 (by simp)
    have g3 := hl x3 (by simp)
    have g4 := hl x4 (by simp)
    have g5 := hl x5 (by simp)
    have g6 := hl x6 (by simp)
    have g7 := hl x7 (by simp)
    have g8 := hl x8 (by simp)
    have g9 := hl x9 (by simp)
    have g10 := hl x10 (by simp)
    have g11 := hl x11 (by simp)
    simp only [tuB, tuOf, be4, be2, n4, n2, List.getD_eq_getElem?_getD, List.getElem?_cons_zero, List.getElem?_cons_succ, Option.getD_some, List.cons_append, List.nil_append, List.cons.injEq, and_true]
    refine ⟨?_, ?_, ?_, ?_, ?_, ?_, ?_, ?_, ?_, ?_, ?_, ?_⟩ <;> omega
end Go.Proofs.S14.H8

namespace Go.Proofs.S14.H8
open Go Go.SE
set_option maxRecDepth 100000
set_option maxHeartbeats 4000000
attribute [local irreducible] specI

theorem gosub_con {s : Int} (hs : byte s) {l : List Int} (hl : Bytes l) {off n : Nat} (hn : off + n ≤ l.length) (hm : l.length ≤ 1000000) : CallCon Tryz.prog 128 [.one (.v (.int .u8 s)), .one (.sl 0 off n)] [.row (ints .u8 l) 1 5 false] (.t (.one (.v (.int .u8 (goB s (sub l off n)))))) [] := by
  have hL := last_con hs hl hn hm
  refine con_of_call2 rfl ?_
  refine call_inline Tryz.func128 rfl rfl ?_
  intro _
  repeat' (refine is_call ?_; refine call_auto (hL) (lets_rfl rfl) (by exact ⟨⟨_, rfl, rfl, rfl⟩, trivial⟩) rfl ?_; intro u; clear u)
  (refine con_end ?_ rfl; intro u; clear u; refine ⟨rfl, rfl, EntGoal.mk ?_ ?_⟩ <;> (repeat' (first | exact trivial | (with_reducible rfl) | apply And.intro | rfl)))
theorem go_con {s : Int} (hs : byte s) {l : List Int} (hl : Bytes l) (hn : l.length ≤ 1000000) (off n : Nat) (ho : off = 0) (hln : n = l.length) : CallCon Tryz.prog 128 [.one (.v (.int .u8 s)), .one (.sl 0 off n)] [.row (ints .u8 l) 1 5 false] (.t (.one (.v (.int .u8 (goB s l))))) [] := by
  subst ho hln
  have := gosub_con hs hl (off := 0) (n := l.length) (by omega) hn
  rwa [sub_all] at this
theorem refgo_con {s : Int} (hs : byte s) {l : List Int} (hl : Bytes l) (hn : l.length ≤ 1000000) (n : Nat) (hln : n = l.length) : CallCon Tryz.prog 68 [.one (.v (.int .u8 s)), .one (.sl 0 0 n)] [.row (ints .u8 l) 1 5 false] (.t (.one (.v (.int .u8 (goB s l))))) [] := by
  subst hln
  refine con_of_call2 rfl ?_
  refine call_inline Tryz.func68 rfl rfl ?_
  intro _
  refine loop_keep (fun k : Nat => l.length - k) (fun k => k ≤ l.length) [1] (fun k => [(0, .t (.one (.v (.int .u8 (goB s (l.take k)))))), (5, .t (.one (.v (.int .i64 k))))]) (fun k => []) (fun _ => []) [] 0 0 (Nat.zero_le _) ?_ ?_
  · (intro u; clear u; refine ⟨rfl, rfl, EntGoal.mk ?_ ?_⟩ <;> (repeat' (first | exact trivial | (with_reducible rfl) | apply And.intro | rfl)))
  intro k hk u
  clear u
  have ha := goB_byte hs (bytes_take hl k)
  have hx := getD_byte hl k
  obtain ⟨a1, a2⟩ := ha
  obtain ⟨x1, x2⟩ := hx
  have hT := refturn_con (xr_byte ⟨a1, a2⟩ ⟨x1, x2⟩)
  repeat' (first | (refine is_split ?_; refine sp_dec (fun g => ?_) (fun g => ?_) <;> (intro u; clear u)) | (refine is_asked ?_; (first | (refine is_spec ?_; (first | (refine asked (xr _ _) (sp_xor rfl (by omega) (by simp only [hi]; omega) (by omega) (by simp only [hi]; omega)) ?_) | (with_reducible refine asked _ (sp_add (by simp only [lo, hi]; omega) (by simp only [lo, hi]; omega)) ?_))) | refine asked () ⟨by omega, by omega⟩ ?_ | refine asked _ (ix_ints (by omega)) ?_); intro u; clear u) | (refine is_call ?_; refine call_auto (hT) (lets_rfl rfl) (by exact trivial) rfl ?_; intro u; clear u))
  · refine again (k + 1) (by omega) (by omega) ?_
    (intro u; clear u; refine ⟨rfl, rfl, EntGoal.mk ?_ ?_⟩ <;> (repeat' (first | exact trivial | (with_reducible rfl) | apply And.intro | rfl)))
    all_goals exact (goB_succ (by omega)).symm
  · (refine con_end ?_ rfl; intro u; clear u; refine ⟨rfl, rfl, EntGoal.mk ?_ ?_⟩ <;> (repeat' (first | exact trivial | (with_reducible rfl) | apply And.intro | rfl)))
    rw [List.take_of_length_le (by omega)]
def sumT (t : Tu) : Int := goB 0 (tuB t)
theorem sumT_byte (t : Tu) : byte (sumT t) := goB_byte ⟨by decide, by decide⟩ (tuB_bytes t)
theorem sum_con {t : Tu} (h : t.Wf) : CallCon Tryz.prog 64 [tuT t] [] (.t (.one (.v (.int .u8 (sumT t))))) [] := by
  have h1 := tubytes_con h
  have h2 := go_con (s := 0) ⟨by decide, by decide⟩ (tuB_bytes t) (by rw [tuB_len]; decide) 0 12 rfl rfl
  refine con_of_call2 rfl ?_
  refine call_inline Tryz.func64 rfl rfl ?_
  intro _
  repeat' (refine is_call ?_; (first | refine call_auto (h1) (lets_rfl rfl) (by exact trivial) rfl ?_ | refine call_le (by (repeat' (first | exact trivial | apply And.intro | exact rfl)); (first | done | fail)) (h2) (by exact ⟨⟨_, rfl, rfl, rfl⟩, trivial⟩) rfl ?_); intro u; clear u)
  (refine con_end ?_ rfl; intro u; clear u; refine ⟨rfl, rfl, EntGoal.mk ?_ ?_⟩ <;> (repeat' (first | exact trivial | (with_reducible rfl) | apply And.intro | rfl)))
theorem of_con {t : Tu} (h : t.Wf) : CallCon Tryz.prog 31 [tuT t] [] (.t (.one (.v (.int .i64 (fld (sumT t)))))) [] := by
  have h1 := sum_con h
  have h2 := folded_con (sumT_byte t)
  refine con_of_call2 rfl ?_
  refine call_inline Tryz.func31 rfl rfl ?_
  intro _
  repeat' (refine is_call ?_; (first | refine call_auto (h1) (lets_rfl rfl) (by exact trivial) rfl ?_ | refine call_auto (h2) (lets_rfl rfl) (by exact trivial) rfl ?_); intro u; clear u)
  (refine con_end ?_ rfl; intro u; clear u; refine ⟨rfl, rfl, EntGoal.mk ?_ ?_⟩ <;> (repeat' (first | exact trivial | (with_reducible rfl) | apply And.intro | rfl)))
theorem refsum_con {t : Tu} (h : t.Wf) : CallCon Tryz.prog 34 [tuT t] [] (.t (.one (.v (.int .u8 (sumT t))))) [] := by
  have h1 := reftu_con h
  have h2 := refgo_con (s := 0) ⟨by decide, by decide⟩ (tuB_bytes t) (by rw [tuB_len]; decide) 12 rfl
  refine con_of_call2 rfl ?_
  refine call_inline Tryz.func34 rfl rfl ?_
  intro _
  repeat' (refine is_call ?_; (first | refine call_auto (h1) (lets_rfl rfl) (by exact trivial) rfl ?_ | refine call_le (by (repeat' (first | exact trivial | apply And.intro | exact rfl)); (first | done | fail)) (h2) (by exact ⟨⟨_, rfl, rfl, rfl⟩, trivial⟩) rfl ?_); intro u; clear u)
  (refine con_end ?_ rfl; intro u; clear u; refine ⟨rfl, rfl, EntGoal.mk ?_ ?_⟩ <;> (repeat' (first | exact trivial | (with_reducible rfl) | apply And.intro | rfl)))
theorem refof_con {t : Tu} (h : t.Wf) : CallCon Tryz.prog 12 [tuT t] [] (.t (.one (.v (.int .i64 (fld (sumT t)))))) [] := by
  have h1 := refsum_con h
  obtain ⟨n, hn, hlt⟩ := byte_nat (sumT_byte t)
  rw [hn] at h1 ⊢
  refine con_of_call2 rfl ?_
  refine call_inline Tryz.func12 rfl rfl ?_
  intro _
  repeat' (first | (refine is_asked ?_; (first | (refine is_spec ?_; (first | (refine asked _ (sp_quoW _ _ (by decide)) ?_) | (refine asked _ (sp_remW _ _ (by decide)) ?_) | (refine asked _ (sp_xorW _ _ _) ?_))) | (refine is_wrap ?_; refine asked _ (wrap_lohi (by simp only [lo, hi]; omega) (by simp only [lo, hi]; omega)) ?_)); intro u; clear u) | (refine is_call ?_; refine call_auto (h1) (lets_rfl rfl) (by exact trivial) rfl ?_; intro u; clear u))
  (refine con_end ?_ rfl; intro u; clear u; refine ⟨rfl, rfl, EntGoal.mk ?_ ?_⟩ <;> (repeat' (first | exact trivial | (with_reducible rfl) | apply And.intro | rfl)))
  clear h1 hn h; revert n; decide +kernel
end Go.Proofs.S14.H8
