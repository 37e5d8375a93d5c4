/- Contracts of functions of the program, or a row of the seat, proved out of them. No condition beyond those that stand in each statement. -/
import Derived.Test.YtlefpinmgabmfaaGreatS14p3a
namespace Go.Proofs.S14.T3
open Go Go.SE
set_option maxRecDepth 100000
set_option maxHeartbeats 4000000
attribute [local irreducible] specI

structure Seg where
  src : Int
  dst : Int
  flags : Int
  head : Int
  data : List Int
  deriving DecidableEq

def zeroSeg : Seg := ⟨0, 0, 0, 0, []⟩
def Seg.Wf (t : Seg) : Prop := (0 ≤ t.src ∧ t.src ≤ 65535) ∧ (0 ≤ t.dst ∧ t.dst ≤ 65535) ∧ (0 ≤ t.flags ∧ t.flags ≤ 255) ∧ (-9223372036854775808 ≤ t.head ∧ t.head ≤ 9223372036854775807) ∧ (∀ x ∈ t.data, 0 ≤ x ∧ x ≤ 255) ∧ t.data.length ≤ 4000
def segT (t : Seg) (h : Nat) : T := .agg [.v (.int .u16 t.src), .v (.int .u16 t.dst), .v (.int .u8 t.flags), .v (.int .i64 t.head), .sl h 0 t.data.length]

def headN (l : List Int) : Int := l.getD 12 0 / 16 * 4
def okSum (a b : Int) (l : List Int) : Prop := sumW (pseudoL a b l.length ++ l) = 65535
instance (a b : Int) (l : List Int) : Decidable (okSum a b l) := by unfold okSum; infer_instance
def badHead (l : List Int) : Prop := l.length < 20 ∨ headN l < 20 ∨ headN l > l.length
instance (l : List Int) : Decidable (badHead l) := by unfold badHead; infer_instance
def parseE (a b : Int) (l : List Int) : Int := if badHead l then 8 else if okSum a b l then 0 else 9
def parseS (a b : Int) (l : List Int) : Seg := if badHead l then zeroSeg else if okSum a b l then ⟨l.getD 0 0 * 256 + l.getD 1 0, l.getD 2 0 * 256 + l.getD 3 0, l.getD 13 0, headN l, l.drop (headN l).toNat⟩ else zeroSeg

theorem parse_con {l : List Int} {a b : Int} (ha : 0 ≤ a ∧ a ≤ 4294967295) (hc : 0 ≤ b ∧ b ≤ 4294967295) (hb : ∀ x ∈ l, 0 ≤ x ∧ x ≤ 255) (hl : l.length ≤ 4000) :
    CallCon Tryz.prog 121 [.one (.v (.int .u32 a)), .one (.v (.int .u32 b)), .one (.sl 0 0 l.length)] [.row (ints .u8 l) 1 5 false] (.tup [segT (parseS a b l) 0, .one (.v (.int .u8 (parseE a b l)))]) [.row (ints .u8 (parseS a b l).data) 1 5 true] := by
  have h0 := getD_bd hb (by decide) 0
  have h1 := getD_bd hb (by decide) 1
  have h2 := getD_bd hb (by decide) 2
  have h3 := getD_bd hb (by decide) 3
  have h12 := getD_bd hb (by decide) 12
  have h13 := getD_bd hb (by decide) 13
  by_cases hbad : badHead l
  · have e1 : parseE a b l = 8 := by simp [parseE, hbad]
    have e2 : parseS a b l = zeroSeg := by simp [parseS, hbad]
    rw [e1, e2]
    refine con_of_call2 rfl ?_
    refine call_inline Tryz.func121 rfl rfl ?_
    intro _
    unfold badHead headN at hbad
    repeat' (first | (refine is_split ?_; (first | refine sp_yes (by exact dec_t (by omega)) ?_ | refine sp_no (by exact dec_f (by omega)) ?_ | refine sp_dec (fun g => ?_) (fun g => ?_)) <;> (intro u; clear u)) | (refine is_asked ?_; (first | (refine is_spec ?_; (first | (refine is_op (op := .shr) ?_; refine asked _ (sp_shrL 4 16 (by decide) (by rfl) (by decide)) ?_) | (refine is_op (op := .shl) ?_; refine asked _ (sp_shlL 2 4 (by decide) (by rfl) (by decide) (by simp only [lo, hi]; omega) (by simp only [lo, hi]; omega)) ?_))) | (refine is_wrap ?_; refine asked _ (wrap_lohi (by simp only [lo, hi]; omega) (by simp only [lo, hi]; omega)) ?_) | (refine asked _ (ix_eq 12 (by omega) (by omega)) ?_) | refine asked () ⟨by omega, by omega⟩ ?_); intro u; clear u) | (refine is_scope ?_; refine scope_step ?_; intro u; clear u))
    all_goals (refine con_end ?_ rfl; intro u; clear u; refine ⟨rfl, rfl, EntGoal.mk ?_ ?_⟩ <;> (repeat' (first | exact trivial | (with_reducible rfl) | apply And.intro | rfl)))
  · by_cases hok : okSum a b l
    · have e1 : parseE a b l = 0 := by simp [parseE, hbad, hok]
      have e2 : parseS a b l = ⟨l.getD 0 0 * 256 + l.getD 1 0, l.getD 2 0 * 256 + l.getD 3 0, l.getD 13 0, headN l, l.drop (headN l).toNat⟩ := by simp [parseS, hbad, hok]
      rw [e1, e2]
      unfold badHead headN at hbad
      refine con_of_call2 rfl ?_
      refine call_inline Tryz.func121 rfl rfl ?_
      intro _
      have hR : ∀ x ∈ pseudoL a b l.length ++ l, 0 ≤ x ∧ x ≤ 255 := by
        intro x hx
        rcases List.mem_append.mp hx with h | h
        · exact pseudo_bytes _ _ _ x h
        · exact hb x h
      have hL : (pseudoL a b l.length ++ l).length = 12 + l.length := by simp [pseudo_len]
      have hr := right_con hR (by omega)
      rw [hL, show sumW (pseudoL a b l.length ++ l) = 65535 from hok] at hr
      have hcl := clone_con (l := l) (off := 0 + (l.getD 12 0 / 16 * 4).toNat) (n := l.length - (l.getD 12 0 / 16 * 4).toNat) (by omega) (by intro e; subst e; simp at hbad) hb (by omega)
      repeat' (first | (refine is_split ?_; refine sp_no (by (first | rfl | exact dec_f (by omega))) ?_ <;> (intro u; clear u)) | (refine is_asked ?_; (first | (refine is_spec ?_; (first | (refine is_op (op := .shr) ?_; refine asked _ (sp_shrL 4 16 (by decide) (by rfl) (by decide)) ?_) | (refine is_op (op := .shl) ?_; refine asked _ (sp_shlL 2 4 (by decide) (by rfl) (by decide) (by simp only [lo, hi]; omega) (by simp only [lo, hi]; omega)) ?_))) | (refine is_wrap ?_; refine asked _ (wrap_lohi (by simp only [lo, hi]; omega) (by simp only [lo, hi]; omega)) ?_) | (refine asked _ (ix_eq 12 (by omega) (by omega)) ?_) | (refine asked _ (ix_eq 13 (by omega) (by omega)) ?_) | refine asked _ (slice_ask (by omega) (by omega) (by omega)) ?_ | refine asked () ⟨by omega, by omega⟩ ?_); intro u; clear u) | (refine is_draw ?_; refine draw_step mixed (by kernel_rfl) ?_; intro u; clear u) | (refine is_scope ?_; refine scope_step ?_; intro u; clear u) | (refine is_call ?_; (first | refine call_auto (whole_con ha hc hb (by omega)) (lets_rfl rfl) (by exact ⟨⟨_, rfl, rfl, rfl⟩, trivial⟩) rfl ?_ | refine call_auto (hr) (lets_rfl rfl) (by exact ⟨⟨_, rfl, rfl, rfl⟩, trivial⟩) rfl ?_); intro u; clear u) | (refine is_dcall ?_; (first | refine dcall_auto (number2_con (l := l) (off := 0) (n := l.length) (by omega) (by omega) hb (by omega)) (lets_rfl rfl) (by exact ⟨⟨_, rfl, rfl, rfl⟩, trivial⟩) rfl ?_ | refine dcall_auto (number2_con (l := l) (off := 2) (n := l.length - 2) (by omega) (by omega) hb (by omega)) (lets_rfl rfl) (by exact ⟨⟨_, rfl, rfl, rfl⟩, trivial⟩) rfl ?_ | refine dcall_auto (hcl) (lets_rfl rfl) (by exact ⟨⟨_, rfl, rfl, rfl⟩, trivial⟩) rfl ?_); intro u; clear u))
      (refine con_end ?_ rfl; intro u; clear u; refine ⟨rfl, rfl, EntGoal.mk ?_ ?_⟩ <;> (repeat' (first | exact trivial | (with_reducible rfl) | apply And.intro | rfl)))
      all_goals first
        | (simp [headN]; done)
        | (simp [headN]; omega)
        | (simp only [headN]; omega)
        | (simp only [headN, Nat.zero_add]; rw [Int.mul_comm 4]; done)
    · have e1 : parseE a b l = 9 := by simp [parseE, hbad, hok]
      have e2 : parseS a b l = zeroSeg := by simp [parseS, hbad, hok]
      rw [e1, e2]
      unfold badHead headN at hbad
      refine con_of_call2 rfl ?_
      refine call_inline Tryz.func121 rfl rfl ?_
      intro _
      have hR : ∀ x ∈ pseudoL a b l.length ++ l, 0 ≤ x ∧ x ≤ 255 := by
        intro x hx
        rcases List.mem_append.mp hx with h | h
        · exact pseudo_bytes _ _ _ x h
        · exact hb x h
      have hL : (pseudoL a b l.length ++ l).length = 12 + l.length := by simp [pseudo_len]
      have hr := right_con hR (by omega)
      rw [hL] at hr
      unfold okSum at hok
      repeat' (first | (refine is_split ?_; (first | refine sp_yes (by exact ndec_t (by omega)) ?_ | refine sp_no (by exact dec_f (by omega)) ?_) <;> (intro u; clear u)) | (refine is_asked ?_; (first | (refine is_spec ?_; (first | (refine is_op (op := .shr) ?_; refine asked _ (sp_shrL 4 16 (by decide) (by rfl) (by decide)) ?_) | (refine is_op (op := .shl) ?_; refine asked _ (sp_shlL 2 4 (by decide) (by rfl) (by decide) (by simp only [lo, hi]; omega) (by simp only [lo, hi]; omega)) ?_))) | (refine is_wrap ?_; refine asked _ (wrap_lohi (by simp only [lo, hi]; omega) (by simp only [lo, hi]; omega)) ?_) | (refine asked _ (ix_eq 12 (by omega) (by omega)) ?_) | refine asked () ⟨by omega, by omega⟩ ?_); intro u; clear u) | (refine is_scope ?_; refine scope_step ?_; intro u; clear u) | (refine is_call ?_; (first | refine call_auto (whole_con ha hc hb (by omega)) (lets_rfl rfl) (by exact ⟨⟨_, rfl, rfl, rfl⟩, trivial⟩) rfl ?_ | refine call_auto (hr) (lets_rfl rfl) (by exact ⟨⟨_, rfl, rfl, rfl⟩, trivial⟩) rfl ?_); intro u; clear u))
      all_goals (refine con_end ?_ rfl; intro u; clear u; refine ⟨rfl, rfl, EntGoal.mk ?_ ?_⟩ <;> (repeat' (first | exact trivial | (with_reducible rfl) | apply And.intro | rfl)))

theorem refparse_con {l : List Int} {a b : Int} (ha : 0 ≤ a ∧ a ≤ 4294967295) (hc : 0 ≤ b ∧ b ≤ 4294967295) (hb : ∀ x ∈ l, 0 ≤ x ∧ x ≤ 255) (hl : l.length ≤ 4000) :
    CallCon Tryz.prog 33 [.one (.v (.int .u32 a)), .one (.v (.int .u32 b)), .one (.sl 0 0 l.length)] [.row (ints .u8 l) 1 5 false] (.tup [segT (parseS a b l) 0, .one (.v (.int .u8 (parseE a b l)))]) [.row (ints .u8 (parseS a b l).data) 1 5 true] := by
  have h0 := getD_bd hb (by decide) 0
  have h1 := getD_bd hb (by decide) 1
  have h2 := getD_bd hb (by decide) 2
  have h3 := getD_bd hb (by decide) 3
  have h12 := getD_bd hb (by decide) 12
  have h13 := getD_bd hb (by decide) 13
  by_cases hbad : badHead l
  · have e1 : parseE a b l = 8 := by simp [parseE, hbad]
    have e2 : parseS a b l = zeroSeg := by simp [parseS, hbad]
    rw [e1, e2]
    refine con_of_call2 rfl ?_
    refine call_inline Tryz.func33 rfl rfl ?_
    intro _
    unfold badHead headN at hbad
    repeat' (first | (refine is_split ?_; (first | refine sp_yes (by exact dec_t (by omega)) ?_ | refine sp_no (by exact dec_f (by omega)) ?_ | refine sp_dec (fun g => ?_) (fun g => ?_)) <;> (intro u; clear u)) | (refine is_asked ?_; (first | (refine is_spec ?_; (first | (with_reducible refine asked _ (sp_mul (by simp only [lo, hi]; omega) (by simp only [lo, hi]; omega)) ?_) | (refine is_op (op := .shr) ?_; refine asked _ (sp_shrL 4 16 (by decide) (by rfl) (by decide)) ?_))) | (refine is_wrap ?_; refine asked _ (wrap_lohi (by simp only [lo, hi]; omega) (by simp only [lo, hi]; omega)) ?_) | (refine asked _ (ix_eq 12 (by omega) (by omega)) ?_) | refine asked () ⟨by omega, by omega⟩ ?_); intro u; clear u))
    all_goals (refine con_end ?_ rfl; intro u; clear u; refine ⟨rfl, rfl, EntGoal.mk ?_ ?_⟩ <;> (repeat' (first | exact trivial | (with_reducible rfl) | apply And.intro | rfl)))
  · have hr := refwright_con (l := l) ha hc hb (by omega)
    by_cases hok : okSum a b l
    · have e1 : parseE a b l = 0 := by simp [parseE, hbad, hok]
      have e2 : parseS a b l = ⟨l.getD 0 0 * 256 + l.getD 1 0, l.getD 2 0 * 256 + l.getD 3 0, l.getD 13 0, headN l, l.drop (headN l).toNat⟩ := by simp [parseS, hbad, hok]
      rw [e1, e2]
      unfold badHead headN at hbad
      refine con_of_call2 rfl ?_
      refine call_inline Tryz.func33 rfl rfl ?_
      intro _
      rw [show sumW (pseudoL a b l.length ++ l) = 65535 from hok] at hr
      repeat' (first | (refine is_split ?_; refine sp_no (by (first | rfl | exact dec_f (by omega))) ?_ <;> (intro u; clear u)) | (refine is_asked ?_; (first | (refine is_spec ?_; (first | (with_reducible refine asked _ (sp_add (by simp only [lo, hi]; omega) (by simp only [lo, hi]; omega)) ?_) | (with_reducible refine asked _ (sp_mul (by simp only [lo, hi]; omega) (by simp only [lo, hi]; omega)) ?_) | (refine is_op (op := .shr) ?_; refine asked _ (sp_shrL 4 16 (by decide) (by rfl) (by decide)) ?_))) | (refine is_wrap ?_; refine asked _ (wrap_lohi (by simp only [lo, hi]; omega) (by simp only [lo, hi]; omega)) ?_) | (refine asked _ (ix_eq 12 (by omega) (by omega)) ?_) | (refine asked _ (ix_eq 13 (by omega) (by omega)) ?_) | (refine asked _ (ix_eq 0 (by omega) (by omega)) ?_) | (refine asked _ (ix_eq 1 (by omega) (by omega)) ?_) | (refine asked _ (ix_eq 2 (by omega) (by omega)) ?_) | (refine asked _ (ix_eq 3 (by omega) (by omega)) ?_) | (refine asked (ints .u8 (l.drop (0 + (4 * (l.getD 12 0 / 16)).toNat))) ⟨by rw [ints_view (by simp only; omega)]; rfl, rfl, by rw [ints_view (by simp only; omega), ints_length, List.length_drop]; show _ = _ * 1; simp only; omega, by unfold maxLen; simp only; omega, by show _ * 1 ≤ _; simp only; omega⟩ ?_) | refine asked _ (slice_ask (by omega) (by omega) (by omega)) ?_ | refine asked () ⟨by omega, by omega⟩ ?_); intro u; clear u) | (refine is_draw ?_; refine draw_step mixed (by kernel_rfl) ?_; intro u; clear u) | (refine is_call ?_; refine call_auto (hr) (lets_rfl rfl) (by exact ⟨⟨_, rfl, rfl, rfl⟩, trivial⟩) rfl ?_; intro u; clear u))
      (refine con_end ?_ rfl; intro u; clear u; refine ⟨rfl, rfl, EntGoal.mk ?_ ?_⟩ <;> (repeat' (first | exact trivial | (with_reducible rfl) | apply And.intro | rfl)))
      all_goals first
        | (simp [headN]; done)
        | (simp [headN]; omega)
        | (simp only [headN]; omega)
        | (simp only [headN, Nat.zero_add]; rw [Int.mul_comm 4]; done)
    · have e1 : parseE a b l = 9 := by simp [parseE, hbad, hok]
      have e2 : parseS a b l = zeroSeg := by simp [parseS, hbad, hok]
      rw [e1, e2]
      unfold badHead headN at hbad
      refine con_of_call2 rfl ?_
      refine call_inline Tryz.func33 rfl rfl ?_
      intro _
      unfold okSum at hok
      repeat' (first | (refine is_split ?_; (first | refine sp_yes (by exact ndec_t (by omega)) ?_ | refine sp_no (by exact dec_f (by omega)) ?_) <;> (intro u; clear u)) | (refine is_asked ?_; (first | (refine is_spec ?_; (first | (with_reducible refine asked _ (sp_mul (by simp only [lo, hi]; omega) (by simp only [lo, hi]; omega)) ?_) | (refine is_op (op := .shr) ?_; refine asked _ (sp_shrL 4 16 (by decide) (by rfl) (by decide)) ?_))) | (refine is_wrap ?_; refine asked _ (wrap_lohi (by simp only [lo, hi]; omega) (by simp only [lo, hi]; omega)) ?_) | (refine asked _ (ix_eq 12 (by omega) (by omega)) ?_) | refine asked () ⟨by omega, by omega⟩ ?_); intro u; clear u) | (refine is_call ?_; refine call_auto (hr) (lets_rfl rfl) (by exact ⟨⟨_, rfl, rfl, rfl⟩, trivial⟩) rfl ?_; intro u; clear u))
      all_goals (refine con_end ?_ rfl; intro u; clear u; refine ⟨rfl, rfl, EntGoal.mk ?_ ?_⟩ <;> (repeat' (first | exact trivial | (with_reducible rfl) | apply And.intro | rfl)))
end Go.Proofs.S14.T3

namespace Go.Proofs.S14.T3
open Go Go.SE
set_option maxRecDepth 100000
set_option maxHeartbeats 4000000
attribute [local irreducible] specI

def zeroLit : T := .agg [.n .u16 0, .n .u16 0, .n .u8 0, .n .i64 0, .v (.slice none 0 0)]
end Go.Proofs.S14.T3

namespace Go.Proofs.S14.T3
open Go Go.SE
set_option maxRecDepth 100000
set_option maxHeartbeats 4000000
attribute [local irreducible] specI

def okSeg (t : Seg) : Prop := (20 ≤ t.head ∧ t.head ≤ 60) ∧ t.head % 4 = 0
instance (t : Seg) : Decidable (okSeg t) := by unfold okSeg; infer_instance
def baseL (t : Seg) (k : Int) : List Int := [t.src / 256, t.src % 256, t.dst / 256, t.dst % 256, 0, 0, 0, 0, 0, 0, 0, 0, t.head * 4, t.flags, 0, 0, k / 256, k % 256, 0, 0]
def zsL (t : Seg) : List Int := List.replicate (t.head.toNat - 20) 0
def segL (t : Seg) (k : Int) : List Int := baseL t k ++ (zsL t ++ t.data)
def putK (a b : Int) (t : Seg) : Int := 65535 - sumW (pseudoL a b (t.head.toNat + t.data.length : Nat) ++ segL t 0)
def putL (a b : Int) (t : Seg) : List Int := if okSeg t then segL t (putK a b t) else []

theorem seg_len {t : Seg} {k : Int} (h : okSeg t) : (segL t k).length = t.head.toNat + t.data.length := by
  obtain ⟨⟨h1, h2⟩, h3⟩ := h
  simp [segL, baseL, zsL]; omega
theorem seg_bytes {t : Seg} {k : Int} (hw : t.Wf) (h : okSeg t) (hk : 0 ≤ k ∧ k ≤ 65535) : ∀ x ∈ segL t k, 0 ≤ x ∧ x ≤ 255 := by
  obtain ⟨⟨h1, h2⟩, h3⟩ := h
  obtain ⟨g1, g2, g3, g4, g5, g6⟩ := hw
  intro x hx
  rcases List.mem_append.mp hx with hx | hx
  · simp only [baseL, List.mem_cons, List.not_mem_nil, or_false] at hx
    omega
  · rcases List.mem_append.mp hx with hx | hx
    · have := List.eq_of_mem_replicate hx; omega
    · exact g5 x hx
theorem zerosV_ints : ∀ n : Nat, zerosV [.int .u8 0] n = ints .u8 (List.replicate n 0)
  | 0 => rfl
  | n + 1 => by show _ :: zerosV _ n = _; rw [zerosV_ints n]; rfl
theorem setVals_app : ∀ (A ds vs : List Value), ds.length = vs.length → setVals (A ++ ds) A.length vs = A ++ vs
  | [], [], [], _ => rfl
  | [], d :: ds, v :: vs, h => by
    show v :: setVals ds 0 vs = _
    have := setVals_app [] ds vs (by simpa using h)
    simpa using this
  | [], [], v :: vs, h => by simp at h
  | [], d :: ds, [], h => by simp at h
  | a :: A, ds, vs, h => by
    show setVals (a :: (A ++ ds)) (A.length + 1) vs = _
    cases vs with
    | nil => simp at h; subst h; rw [setVals_nil]; rfl
    | cons v vs =>
      show a :: setVals (A ++ ds) A.length (v :: vs) = _
      rw [setVals_app A ds _ h]; rfl
theorem ints_cons (k : IntKind) (x : Int) (l : List Int) : ints k (x :: l) = .int k x :: ints k l := rfl
theorem rep20 {n m : Nat} (h : n = 20 + m) : List.replicate n (0 : Int) = [0, 0, 0, 0, 0, 0, 0, 0, 0, 0, 0, 0, 0, 0, 0, 0, 0, 0, 0, 0] ++ List.replicate m 0 := by
  subst h
  rw [← List.replicate_append_replicate]; rfl
end Go.Proofs.S14.T3

namespace Go.Proofs.S14.T3
open Go Go.SE
set_option maxRecDepth 100000
set_option maxHeartbeats 4000000
attribute [local irreducible] specI

theorem refput_con {t : Seg} {a b : Int} (ha : 0 ≤ a ∧ a ≤ 4294967295) (hc : 0 ≤ b ∧ b ≤ 4294967295) (hw : t.Wf) :
    CallCon Tryz.prog 56 [.one (.v (.int .u32 a)), .one (.v (.int .u32 b)), segT t 0] [.row (ints .u8 t.data) 1 5 false] (.tup [.one (.sl 0 0 (putL a b t).length), .one (.b (decide (okSeg t)))]) [.row (ints .u8 (putL a b t)) 1 5 true] := by
  have hw' := hw
  obtain ⟨g1, g2, g3, g4, g5, g6⟩ := hw
  by_cases hok : okSeg t
  · have hok' := hok
    unfold okSeg at hok
    have hz : (zsL t).length = t.head.toNat - 20 := by simp [zsL]
    have e1 : putL a b t = segL t (putK a b t) := by simp [putL, hok']
    have hlen : (putL a b t).length = t.head.toNat + t.data.length := by rw [e1, seg_len hok']
    rw [hlen, e1, decide_eq_true hok']
    have hs0 := seg_bytes (k := 0) hw' hok' (by omega)
    have hl0 := seg_len (k := 0) hok'
    have hP : ∀ x ∈ pseudoL a b (t.head.toNat + t.data.length : Nat) ++ segL t 0, 0 ≤ x ∧ x ≤ 255 := by
      intro x hx
      rcases List.mem_append.mp hx with h | h
      · exact pseudo_bytes _ _ _ x h
      · exact hs0 x h
    have hC := refcheck_con hP (by rw [List.length_append, pseudo_len, hl0]; omega)
    rw [List.length_append, pseudo_len, hl0] at hC
    have hk : 0 ≤ putK a b t ∧ putK a b t ≤ 65535 := by have := sumW_bd hP; unfold putK; omega
    change CallCon _ _ _ _ (.t (.one (.v (.int .u16 (putK a b t))))) _ at hC
    generalize putK a b t = k at *
    have hZ : zerosV [.int .u8 0] t.head.toNat = ints .u8 ([0, 0, 0, 0, 0, 0, 0, 0, 0, 0, 0, 0, 0, 0, 0, 0, 0, 0, 0, 0] ++ zsL t) := by
      rw [zerosV_ints, show t.head.toNat = 20 + (t.head.toNat - 20) by omega, rep20 rfl]; rfl
    have e16 : t.head / 4 * 16 = t.head * 4 := by omega
    have hvw : List.take (t.data.length * (0 + 1)) (List.drop (0 * (0 + 1)) (ints .u8 t.data)) = ints .u8 t.data := by simp [← ints_length .u8 t.data]
    have hvs : List.take ((t.head.toNat + t.data.length) * (0 + 1)) (List.drop (0 * (0 + 1)) (ints .u8 (segL t 0))) = ints .u8 (segL t 0) := by rw [← hl0]; simp [← ints_length .u8 (segL t 0)]
    refine con_of_call2 rfl ?_
    refine call_inline Tryz.func56 rfl rfl ?_
    intro _
    repeat' (first | (refine is_split ?_; refine sp_no (by (first | exact dec_f (by omega) | exact ndec_f (by omega))) ?_ <;> (intro u; clear u)) | (refine is_asked ?_; (first | (refine is_spec ?_; (first | (refine asked _ (sp_rem (by omega) (by omega)) ?_) | (refine asked _ (sp_quo (by omega) (by omega) (by simp only [lo, hi]; omega)) ?_) | (with_reducible refine asked _ (sp_add (by simp only [lo, hi]; omega) (by simp only [lo, hi]; omega)) ?_) | (with_reducible refine asked _ (sp_mul (by simp only [lo, hi]; omega) (by simp only [lo, hi]; omega)) ?_) | (refine is_op (op := .shr) ?_; refine asked _ (sp_shrL 8 256 (by decide) (by rfl) (by decide)) ?_))) | (refine is_wrap ?_; (first | refine asked _ (wrap_lohi (by simp only [lo, hi]; omega) (by simp only [lo, hi]; omega)) ?_ | refine asked _ (wrap_u8' _) ?_)) | (refine asked (t.head.toNat, t.head.toNat, ints .u8 ([0, 0, 0, 0, 0, 0, 0, 0, 0, 0, 0, 0, 0, 0, 0, 0, 0, 0, 0, 0] ++ zsL t)) ⟨by simp only; omega, by simp only; omega, Nat.le_refl _, by show t.head.toNat * 1 ≤ _; omega, by unfold maxLen; simp only; omega, by rw [show (Value.int IntKind.u8 0).cells.toList = [.int .u8 0] from rfl]; exact hZ⟩ ?_) | (refine asked (ints .u8 ([t.src / 256, 0, 0, 0, 0, 0, 0, 0, 0, 0, 0, 0, 0, 0, 0, 0, 0, 0, 0, 0] ++ zsL t)) ⟨by rfl, by rw [ints_length]; show 1 ≤ _; simp only [List.length_append, List.length_cons, List.length_nil, hz]; omega⟩ ?_) | (refine asked (ints .u8 ([t.src / 256, t.src % 256, 0, 0, 0, 0, 0, 0, 0, 0, 0, 0, 0, 0, 0, 0, 0, 0, 0, 0] ++ zsL t)) ⟨by rfl, by rw [ints_length]; show 2 ≤ _; simp only [List.length_append, List.length_cons, List.length_nil, hz]; omega⟩ ?_) | (refine asked (ints .u8 ([t.src / 256, t.src % 256, t.dst / 256, 0, 0, 0, 0, 0, 0, 0, 0, 0, 0, 0, 0, 0, 0, 0, 0, 0] ++ zsL t)) ⟨by rfl, by rw [ints_length]; show 3 ≤ _; simp only [List.length_append, List.length_cons, List.length_nil, hz]; omega⟩ ?_) | (refine asked (ints .u8 ([t.src / 256, t.src % 256, t.dst / 256, t.dst % 256, 0, 0, 0, 0, 0, 0, 0, 0, 0, 0, 0, 0, 0, 0, 0, 0] ++ zsL t)) ⟨by rfl, by rw [ints_length]; show 4 ≤ _; simp only [List.length_append, List.length_cons, List.length_nil, hz]; omega⟩ ?_) | (refine asked (ints .u8 ([t.src / 256, t.src % 256, t.dst / 256, t.dst % 256, 0, 0, 0, 0, 0, 0, 0, 0, t.head * 4, 0, 0, 0, 0, 0, 0, 0] ++ zsL t)) ⟨by rw [e16]; rfl, by rw [ints_length]; show 13 ≤ _; simp only [List.length_append, List.length_cons, List.length_nil, hz]; omega⟩ ?_) | (refine asked (ints .u8 ([t.src / 256, t.src % 256, t.dst / 256, t.dst % 256, 0, 0, 0, 0, 0, 0, 0, 0, t.head * 4, t.flags, 0, 0, 0, 0, 0, 0] ++ zsL t)) ⟨by rfl, by rw [ints_length]; show 14 ≤ _; simp only [List.length_append, List.length_cons, List.length_nil, hz]; omega⟩ ?_) | (refine asked (ints .u8 (segL t 0)) ⟨by rw [hvw, ← ints_append, List.append_assoc]; rfl, by rw [ints_length]; show _ = _ * 1; simp only [List.length_append, List.length_cons, List.length_nil, hz]; omega, by rw [hvw, ints_length]; show _ = _ * 1; omega, by unfold maxLen; simp only; omega, by show _ * 1 ≤ _; simp only; omega⟩ ?_) | (refine asked (ints .u8 (pseudoL a b (t.head.toNat + t.data.length : Nat) ++ segL t 0)) ⟨by rw [hvs, ints_append]; rfl, rfl, by rw [hvs, ints_length, hl0]; show _ = _ * 1; omega, by unfold maxLen; simp only; omega, by show _ * 1 ≤ _; simp only; omega⟩ ?_) | (refine asked (ints .u8 (baseL t (k / 256 * 256) ++ (zsL t ++ t.data))) ⟨by unfold baseL; rw [show k / 256 * 256 / 256 = k / 256 by omega, show k / 256 * 256 % 256 = 0 by omega]; rfl, by rw [ints_length, hl0]; show 17 ≤ _; omega⟩ ?_) | (refine asked (ints .u8 (segL t k)) ⟨by unfold segL baseL; rw [show k / 256 * 256 / 256 = k / 256 by omega]; rfl, by rw [ints_length]; show 18 ≤ _; simp only [baseL, List.length_append, List.length_cons, List.length_nil, hz]; omega⟩ ?_) | refine asked () ⟨by omega, by omega⟩ ?_); intro u; clear u) | (refine is_draw ?_; refine draw_step mixed (by kernel_rfl) ?_; intro u; clear u) | (refine is_call ?_; (first | refine call_auto (hC) (lets_rfl rfl) (by exact ⟨⟨_, rfl, rfl, rfl⟩, trivial⟩) rfl ?_ | refine call_auto (refpseudo_con ha hc (by omega)) (lets_rfl rfl) (by exact trivial) rfl ?_); intro u; clear u))
    all_goals (refine con_end ?_ rfl; intro u; clear u; refine ⟨rfl, rfl, EntGoal.mk ?_ ?_⟩ <;> (repeat' (first | exact trivial | (with_reducible rfl) | apply And.intro | rfl)))
  · rw [decide_eq_false hok, show putL a b t = [] by simp [putL, hok]]
    unfold okSeg at hok
    refine con_of_call2 rfl ?_
    refine call_inline Tryz.func56 rfl rfl ?_
    intro _
    repeat' (first | (refine is_split ?_; (first | refine sp_yes (by exact ndec_t (by omega)) ?_ | refine sp_dec (fun g => ?_) (fun g => ?_)) <;> (intro u; clear u)) | (refine is_asked ?_; (refine is_spec ?_; (refine asked _ (sp_rem (by omega) (by omega)) ?_)); intro u; clear u))
    all_goals (refine con_end ?_ rfl; intro u; clear u; refine ⟨rfl, rfl, EntGoal.mk ?_ ?_⟩ <;> (repeat' (first | exact trivial | (with_reducible rfl) | apply And.intro | rfl)))
end Go.Proofs.S14.T3

namespace Go.Proofs.S14.T3
open Go Go.SE
set_option maxRecDepth 100000
set_option maxHeartbeats 4000000

def sumT (l : List Int) : Int := total (words l)

theorem sumT_set : ∀ (l : List Int) (i : Nat) (x : Int), i < l.length → sumT (l.set i x) = sumT l + (x - l.getD i 0) * (if i % 2 = 0 then 256 else 1)
  | [], i, x, h => by simp at h
  | [a], 0, x, _ => by simp [sumT, words, total]; omega
  | [a], i + 1, x, h => by simp at h
  | a :: b :: r, 0, x, _ => by simp [sumT, words, total]; omega
  | a :: b :: r, 1, x, _ => by simp [sumT, words, total]; omega
  | a :: b :: r, i + 2, x, h => by
    have := sumT_set r i x (by simpa using h)
    have e : (i + 2) % 2 = i % 2 := by omega
    simp only [sumT] at this
    simp only [List.set_cons_succ, sumT, words, total, List.getD_cons_succ, e, this]
    omega
theorem sumT_append {A B : List Int} (h : A.length % 2 = 0) : sumT (A ++ B) = sumT A + sumT B := by
  simp only [sumT]; rw [words_append A B h, total_append]
theorem sumT_pos {l : List Int} (hb : ∀ x ∈ l, 0 ≤ x ∧ x ≤ 255) : 0 ≤ sumT l := total_bd (words_bd hb).1
theorem sumT_pseudo (a b n : Int) : 6 ≤ sumT (pseudoL a b n) := by
  simp only [sumT, pseudoL, words, total]; omega
theorem sumT_turned (a b n : Int) : sumT (pseudoL a b n) = sumT (pseudoL b a n) := by
  simp only [sumT, pseudoL, words, total]; omega
theorem okSum_iff {a b : Int} {l : List Int} (hb : ∀ x ∈ l, 0 ≤ x ∧ x ≤ 255) : okSum a b l ↔ (sumT (pseudoL a b l.length) + sumT l) % 65535 = 0 := by
  have h1 := sumT_pseudo a b l.length
  have h2 := sumT_pos hb
  have e : sumW (pseudoL a b l.length ++ l) = fold (sumT (pseudoL a b l.length) + sumT l) := by
    rw [← sumT_append (by rw [pseudo_len])]; rfl
  unfold okSum
  rw [e]
  unfold fold
  generalize sumT (pseudoL a b l.length) = p at *
  generalize sumT l = s at *
  split <;> omega
theorem okSum_set {a b x : Int} {l : List Int} {i : Nat} (hb : ∀ x ∈ l, 0 ≤ x ∧ x ≤ 255) (hi : i < l.length) (hx : 0 ≤ x ∧ x ≤ 255) (hne : x ≠ l.getD i 0) (h : okSum a b l) : ¬ okSum a b (l.set i x) := by
  have hb2 : ∀ y ∈ l.set i x, 0 ≤ y ∧ y ≤ 255 := by
    intro y hy
    rcases List.mem_or_eq_of_mem_set hy with h | h
    · exact hb y h
    · rw [h]; exact hx
  have hg := getD_bd hb (by decide) i
  rw [okSum_iff hb] at h
  rw [okSum_iff hb2, List.length_set, sumT_set l i x hi]
  generalize sumT (pseudoL a b l.length) = p at *
  generalize sumT l = s at *
  split <;> omega
theorem okSum_pseudo {a b x y : Int} {l : List Int} (hb : ∀ x ∈ l, 0 ≤ x ∧ x ≤ 255) (h : okSum a b l) : okSum x y l ↔ sumW (pseudoL a b l.length) = sumW (pseudoL x y l.length) := by
  have h1 := sumT_pseudo a b l.length
  have h2 := sumT_pseudo x y l.length
  rw [okSum_iff hb] at h ⊢
  show _ ↔ fold (sumT (pseudoL a b l.length)) = fold (sumT (pseudoL x y l.length))
  unfold fold
  generalize sumT (pseudoL a b l.length) = p at *
  generalize sumT (pseudoL x y l.length) = q at *
  rw [if_neg (by omega), if_neg (by omega)]
  omega
theorem okSum_turned {a b : Int} {l : List Int} (hb : ∀ x ∈ l, 0 ≤ x ∧ x ≤ 255) (h : okSum a b l) : okSum b a l := by
  rw [okSum_iff hb] at h ⊢
  rw [sumT_turned]; exact h

theorem putK_bd {a b : Int} {t : Seg} (hw : t.Wf) (hok : okSeg t) : 0 ≤ putK a b t ∧ putK a b t ≤ 65535 := by
  have hP : ∀ x ∈ pseudoL a b (t.head.toNat + t.data.length : Nat) ++ segL t 0, 0 ≤ x ∧ x ≤ 255 := by
    intro x hx
    rcases List.mem_append.mp hx with h | h
    · exact pseudo_bytes _ _ _ x h
    · exact seg_bytes hw hok (by omega) x h
  have := sumW_bd hP
  unfold putK; omega
theorem sumT_seg {t : Seg} {k : Int} : sumT (segL t k) = sumT (segL t 0) + k := by
  have e : ∀ k, sumT (segL t k) = sumT (baseL t k) + sumT (zsL t ++ t.data) := fun k => sumT_append (by simp only [baseL, List.length_cons, List.length_nil])
  rw [e, e]
  simp only [sumT, baseL, words, total]
  omega
theorem okSum_seg {a b : Int} {t : Seg} (hw : t.Wf) (hok : okSeg t) : okSum a b (segL t (putK a b t)) := by
  have hk := putK_bd (a := a) (b := b) hw hok
  have hb := seg_bytes (k := putK a b t) hw hok hk
  have hb0 := seg_bytes (k := 0) hw hok (by omega)
  have hp := sumT_pos hb0
  rw [okSum_iff hb, seg_len hok, sumT_seg]
  have hq := sumT_pseudo a b (t.head.toNat + t.data.length : Nat)
  have e : putK a b t = 65535 - fold (sumT (pseudoL a b (t.head.toNat + t.data.length : Nat)) + sumT (segL t 0)) := by
    rw [← sumT_append (by rw [pseudo_len])]; rfl
  rw [e]
  unfold fold
  generalize sumT (pseudoL a b (t.head.toNat + t.data.length : Nat)) = p at *
  generalize sumT (segL t 0) = s at *
  rw [if_neg (by omega)]
  omega
theorem head_seg {t : Seg} {k : Int} (hok : okSeg t) : headN (segL t k) = t.head := by
  show t.head * 4 / 16 * 4 = t.head
  unfold okSeg at hok; omega
theorem parse_put {a b : Int} {t : Seg} (hw : t.Wf) (hok : okSeg t) : parseE a b (putL a b t) = 0 ∧ parseS a b (putL a b t) = t := by
  have hs := okSum_seg (a := a) (b := b) hw hok
  have hk := putK_bd (a := a) (b := b) hw hok
  have e : putL a b t = segL t (putK a b t) := by simp [putL, hok]
  rw [e]
  generalize putK a b t = k at *
  have hl := seg_len (k := k) hok
  have hh := head_seg (k := k) hok
  have hok' := hok
  unfold okSeg at hok'
  have hn : ¬ badHead (segL t k) := by unfold badHead; rw [hl, hh]; omega
  refine ⟨by simp [parseE, hn, hs], ?_⟩
  unfold parseS
  rw [if_neg hn, if_pos hs, hh]
  have hd : (segL t k).drop t.head.toNat = t.data := by
    have : t.head.toNat = (baseL t k ++ zsL t).length := by simp [baseL, zsL]; omega
    unfold segL
    rw [← List.append_assoc, this, List.drop_left]
  rw [hd]
  obtain ⟨s, d, f, h, l⟩ := t
  show Seg.mk (s / 256 * 256 + s % 256) (d / 256 * 256 + d % 256) f h l = _
  rw [show s / 256 * 256 + s % 256 = s by omega, show d / 256 * 256 + d % 256 = d by omega]
theorem put_bytes {a b : Int} {t : Seg} (hw : t.Wf) : ∀ x ∈ putL a b t, 0 ≤ x ∧ x ≤ 255 := by
  unfold putL
  split
  · rename_i h; exact seg_bytes hw h (putK_bd hw h)
  · simp
theorem put_len {a b : Int} {t : Seg} (hw : t.Wf) : (putL a b t).length ≤ 60 + t.data.length := by
  unfold putL
  split
  · rename_i h; rw [seg_len h]; unfold okSeg at h; omega
  · simp
theorem parse_wf {a b : Int} {l : List Int} (hb : ∀ x ∈ l, 0 ≤ x ∧ x ≤ 255) (hl : l.length ≤ 4000) : (parseS a b l).Wf := by
  have z : zeroSeg.Wf := ⟨by decide, by decide, by decide, by decide, by simp [zeroSeg], by decide⟩
  unfold parseS
  split
  · exact z
  · split
    · have h0 := getD_bd hb (by decide) 0
      have h1 := getD_bd hb (by decide) 1
      have h2 := getD_bd hb (by decide) 2
      have h3 := getD_bd hb (by decide) 3
      have h12 := getD_bd hb (by decide) 12
      have h13 := getD_bd hb (by decide) 13
      refine ⟨by simp only; omega, by simp only; omega, h13, by simp only [headN]; omega, fun x hx => hb x (List.mem_of_mem_drop hx), ?_⟩
      simp only [List.length_drop]; omega
    · exact z
theorem parse_zero {a b : Int} {l : List Int} (h : ¬ okSum a b l) : (parseE a b l = 8 ∨ parseE a b l = 9) ∧ parseS a b l = zeroSeg := by
  unfold parseE parseS
  by_cases hb : badHead l
  · simp [hb]
  · simp [hb, h]
end Go.Proofs.S14.T3
