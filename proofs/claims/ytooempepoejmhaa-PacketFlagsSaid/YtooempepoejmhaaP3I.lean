/- Contracts of functions of the program, or a row of the seat, proved out of them. No condition beyond those that stand in each statement. -/
import Derived.Test.YtooempepoejmhaaP3H
namespace Go.Proofs.P3
open Go Go.SE
set_option maxRecDepth 100000
set_option maxHeartbeats 4000000
attribute [local irreducible] specI

structure Seg where
  src : Int
  dst : Int
  flags : Int
  head : Int
  data : List Int
  deriving DecidableEq

def zeroSeg : Seg := ⟨0, 0, 0, 0, []⟩
def Seg.Wf (t : Seg) : Prop := (0 ≤ t.src ∧ t.src ≤ 65535) ∧ (0 ≤ t.dst ∧ t.dst ≤ 65535) ∧ (0 ≤ t.flags ∧ t.flags ≤ 255) ∧ (-9223372036854775808 ≤ t.head ∧ t.head ≤ 9223372036854775807) ∧ (∀ x ∈ t.data, 0 ≤ x ∧ x ≤ 255) ∧ t.data.length ≤ 4000
def segT (t : Seg) (h : Nat) : T := .agg [.v (.int .u16 t.src), .v (.int .u16 t.dst), .v (.int .u8 t.flags), .v (.int .i64 t.head), .sl h 0 t.data.length]

def headN (l : List Int) : Int := l.getD 12 0 / 16 * 4
def okSum (a b : Int) (l : List Int) : Prop := sumW (pseudoL a b l.length ++ l) = 65535
instance (a b : Int) (l : List Int) : Decidable (okSum a b l) := by unfold okSum; infer_instance
def badHead (l : List Int) : Prop := l.length < 20 ∨ headN l < 20 ∨ headN l > l.length
instance (l : List Int) : Decidable (badHead l) := by unfold badHead; infer_instance
def parseE (a b : Int) (l : List Int) : Int := if badHead l then 8 else if okSum a b l then 0 else 9
def parseS (a b : Int) (l : List Int) : Seg := if badHead l then zeroSeg else if okSum a b l then ⟨l.getD 0 0 * 256 + l.getD 1 0, l.getD 2 0 * 256 + l.getD 3 0, l.getD 13 0, headN l, l.drop (headN l).toNat⟩ else zeroSeg

theorem parse_con {l : List Int} {a b : Int} (ha : 0 ≤ a ∧ a ≤ 4294967295) (hc : 0 ≤ b ∧ b ≤ 4294967295) (hb : ∀ x ∈ l, 0 ≤ x ∧ x ≤ 255) (hl : l.length ≤ 4000) :
    CallCon Try.prog 27 [.one (.v (.int .u32 a)), .one (.v (.int .u32 b)), .one (.sl 0 0 l.length)] [.row (ints .u8 l) 1 5 false] (.tup [segT (parseS a b l) 0, .one (.v (.int .u8 (parseE a b l)))]) [.row (ints .u8 (parseS a b l).data) 1 5 true] := by
  have h0 := getD_bd hb (by decide) 0
  have h1 := getD_bd hb (by decide) 1
  have h2 := getD_bd hb (by decide) 2
  have h3 := getD_bd hb (by decide) 3
  have h12 := getD_bd hb (by decide) 12
  have h13 := getD_bd hb (by decide) 13
  by_cases hbad : badHead l
  · have e1 : parseE a b l = 8 := by simp [parseE, hbad]
    have e2 : parseS a b l = zeroSeg := by simp [parseS, hbad]
    rw [e1, e2]
    refine con_of_call2 rfl ?_
    refine call_inline Try.func27 rfl rfl ?_
    intro _
    unfold badHead headN at hbad
    repeat' (first | (refine is_split ?_; (first | refine sp_yes (by exact dec_t (by omega)) ?_ | refine sp_no (by exact dec_f (by omega)) ?_ | refine sp_dec (fun g => ?_) (fun g => ?_)) <;> (intro u; clear u)) | (refine is_asked ?_; (first | (refine is_spec ?_; (first | (refine is_op (op := .shr) ?_; refine asked _ (sp_shrL 4 16 (by decide) (by rfl) (by decide)) ?_) | (refine is_op (op := .shl) ?_; refine asked _ (sp_shlL 2 4 (by decide) (by rfl) (by decide) (by simp only [lo, hi]; omega) (by simp only [lo, hi]; omega)) ?_))) | (refine is_wrap ?_; refine asked _ (wrap_lohi (by simp only [lo, hi]; omega) (by simp only [lo, hi]; omega)) ?_) | (refine asked _ (ix_eq 12 (by omega) (by omega)) ?_) | refine asked () (by constructor <;> omega) ?_); intro u; clear u) | (refine is_scope ?_; refine scope_step ?_; intro u; clear u))
    all_goals (refine con_end ?_ rfl; intro u; clear u; refine ⟨rfl, rfl, EntGoal.mk ?_ ?_⟩ <;> (repeat' (first | exact trivial | (with_reducible rfl) | apply And.intro | rfl)))
  · by_cases hok : okSum a b l
    · have e1 : parseE a b l = 0 := by simp [parseE, hbad, hok]
      have e2 : parseS a b l = ⟨l.getD 0 0 * 256 + l.getD 1 0, l.getD 2 0 * 256 + l.getD 3 0, l.getD 13 0, headN l, l.drop (headN l).toNat⟩ := by simp [parseS, hbad, hok]
      rw [e1, e2]
      unfold badHead headN at hbad
      refine con_of_call2 rfl ?_
      refine call_inline Try.func27 rfl rfl ?_
      intro _
      have hR : ∀ x ∈ pseudoL a b l.length ++ l, 0 ≤ x ∧ x ≤ 255 := by
        intro x hx
        rcases List.mem_append.mp hx with h | h
        · exact pseudo_bytes _ _ _ x h
        · exact hb x h
      have hL : (pseudoL a b l.length ++ l).length = 12 + l.length := by simp [pseudo_len]
      have hr := right_con hR (by omega)
      rw [hL, show sumW (pseudoL a b l.length ++ l) = 65535 from hok] at hr
      have hcl := clone_con (l := l) (off := 0 + (l.getD 12 0 / 16 * 4).toNat) (n := l.length - (l.getD 12 0 / 16 * 4).toNat) (by omega) (by intro e; subst e; simp at hbad) hb (by omega)
      repeat' (first | (refine is_split ?_; refine sp_no (by (first | rfl | exact dec_f (by omega))) ?_ <;> (intro u; clear u)) | (refine is_asked ?_; (first | (refine is_spec ?_; (first | (refine is_op (op := .shr) ?_; refine asked _ (sp_shrL 4 16 (by decide) (by rfl) (by decide)) ?_) | (refine is_op (op := .shl) ?_; refine asked _ (sp_shlL 2 4 (by decide) (by rfl) (by decide) (by simp only [lo, hi]; omega) (by simp only [lo, hi]; omega)) ?_))) | (refine is_wrap ?_; refine asked _ (wrap_lohi (by simp only [lo, hi]; omega) (by simp only [lo, hi]; omega)) ?_) | (refine asked _ (ix_eq 12 (by omega) (by omega)) ?_) | (refine asked _ (ix_eq 13 (by omega) (by omega)) ?_) | refine asked _ (slice_ask (by omega) (by omega) (by omega)) ?_ | refine asked () (by constructor <;> omega) ?_); intro u; clear u) | (refine is_draw ?_; refine draw_step mixed (by kernel_rfl) ?_; intro u; clear u) | (refine is_scope ?_; refine scope_step ?_; intro u; clear u) | (refine is_call ?_; (first | refine call_auto (whole_con ha hc hb (by omega)) (lets_rfl rfl) (by exact ⟨⟨_, rfl, rfl, rfl⟩, trivial⟩) rfl ?_ | refine call_auto (hr) (lets_rfl rfl) (by exact ⟨⟨_, rfl, rfl, rfl⟩, trivial⟩) rfl ?_); intro u; clear u) | (refine is_dcall ?_; (first | refine dcall_auto (number2_con (l := l) (off := 0) (n := l.length) (by omega) (by omega) hb (by omega)) (lets_rfl rfl) (by exact ⟨⟨_, rfl, rfl, rfl⟩, trivial⟩) rfl ?_ | refine dcall_auto (number2_con (l := l) (off := 2) (n := l.length - 2) (by omega) (by omega) hb (by omega)) (lets_rfl rfl) (by exact ⟨⟨_, rfl, rfl, rfl⟩, trivial⟩) rfl ?_ | refine dcall_auto (hcl) (lets_rfl rfl) (by exact ⟨⟨_, rfl, rfl, rfl⟩, trivial⟩) rfl ?_); intro u; clear u))
      (refine con_end ?_ rfl; intro u; clear u; refine ⟨rfl, rfl, EntGoal.mk ?_ ?_⟩ <;> (repeat' (first | exact trivial | (with_reducible rfl) | apply And.intro | rfl)))
      all_goals first
        | (simp [headN]; done)
        | (simp [headN]; omega)
        | (simp only [headN]; omega)
        | (simp only [headN, Nat.zero_add]; rw [Int.mul_comm 4]; done)
    · have e1 : parseE a b l = 9 := by simp [parseE, hbad, hok]
      have e2 : parseS a b l = zeroSeg := by simp [parseS, hbad, hok]
      rw [e1, e2]
      unfold badHead headN at hbad
      refine con_of_call2 rfl ?_
      refine call_inline Try.func27 rfl rfl ?_
      intro _
      have hR : ∀ x ∈ pseudoL a b l.length ++ l, 0 ≤ x ∧ x ≤ 255 := by
        intro x hx
        rcases List.mem_append.mp hx with h | h
        · exact pseudo_bytes _ _ _ x h
        · exact hb x h
      have hL : (pseudoL a b l.length ++ l).length = 12 + l.length := by simp [pseudo_len]
      have hr := right_con hR (by omega)
      rw [hL] at hr
      unfold okSum at hok
      repeat' (first | (refine is_split ?_; (first | refine sp_yes (by exact ndec_t (by omega)) ?_ | refine sp_no (by exact dec_f (by omega)) ?_) <;> (intro u; clear u)) | (refine is_asked ?_; (first | (refine is_spec ?_; (first | (refine is_op (op := .shr) ?_; refine asked _ (sp_shrL 4 16 (by decide) (by rfl) (by decide)) ?_) | (refine is_op (op := .shl) ?_; refine asked _ (sp_shlL 2 4 (by decide) (by rfl) (by decide) (by simp only [lo, hi]; omega) (by simp only [lo, hi]; omega)) ?_))) | (refine is_wrap ?_; refine asked _ (wrap_lohi (by simp only [lo, hi]; omega) (by simp only [lo, hi]; omega)) ?_) | (refine asked _ (ix_eq 12 (by omega) (by omega)) ?_) | refine asked () (by constructor <;> omega) ?_); intro u; clear u) | (refine is_scope ?_; refine scope_step ?_; intro u; clear u) | (refine is_call ?_; (first | refine call_auto (whole_con ha hc hb (by omega)) (lets_rfl rfl) (by exact ⟨⟨_, rfl, rfl, rfl⟩, trivial⟩) rfl ?_ | refine call_auto (hr) (lets_rfl rfl) (by exact ⟨⟨_, rfl, rfl, rfl⟩, trivial⟩) rfl ?_); intro u; clear u))
      all_goals (refine con_end ?_ rfl; intro u; clear u; refine ⟨rfl, rfl, EntGoal.mk ?_ ?_⟩ <;> (repeat' (first | exact trivial | (with_reducible rfl) | apply And.intro | rfl)))

theorem refparse_con {l : List Int} {a b : Int} (ha : 0 ≤ a ∧ a ≤ 4294967295) (hc : 0 ≤ b ∧ b ≤ 4294967295) (hb : ∀ x ∈ l, 0 ≤ x ∧ x ≤ 255) (hl : l.length ≤ 4000) :
    CallCon Try.prog 21 [.one (.v (.int .u32 a)), .one (.v (.int .u32 b)), .one (.sl 0 0 l.length)] [.row (ints .u8 l) 1 5 false] (.tup [segT (parseS a b l) 0, .one (.v (.int .u8 (parseE a b l)))]) [.row (ints .u8 (parseS a b l).data) 1 5 true] := by
  have h0 := getD_bd hb (by decide) 0
  have h1 := getD_bd hb (by decide) 1
  have h2 := getD_bd hb (by decide) 2
  have h3 := getD_bd hb (by decide) 3
  have h12 := getD_bd hb (by decide) 12
  have h13 := getD_bd hb (by decide) 13
  by_cases hbad : badHead l
  · have e1 : parseE a b l = 8 := by simp [parseE, hbad]
    have e2 : parseS a b l = zeroSeg := by simp [parseS, hbad]
    rw [e1, e2]
    refine con_of_call2 rfl ?_
    refine call_inline Try.func21 rfl rfl ?_
    intro _
    unfold badHead headN at hbad
    repeat' (first | (refine is_split ?_; (first | refine sp_yes (by exact dec_t (by omega)) ?_ | refine sp_no (by exact dec_f (by omega)) ?_ | refine sp_dec (fun g => ?_) (fun g => ?_)) <;> (intro u; clear u)) | (refine is_asked ?_; (first | (refine is_spec ?_; (first | (with_reducible refine asked _ (sp_mul (by simp only [lo, hi]; omega) (by simp only [lo, hi]; omega)) ?_) | (refine is_op (op := .shr) ?_; refine asked _ (sp_shrL 4 16 (by decide) (by rfl) (by decide)) ?_))) | (refine is_wrap ?_; refine asked _ (wrap_lohi (by simp only [lo, hi]; omega) (by simp only [lo, hi]; omega)) ?_) | (refine asked _ (ix_eq 12 (by omega) (by omega)) ?_) | refine asked () (by constructor <;> omega) ?_); intro u; clear u))
    all_goals (refine con_end ?_ rfl; intro u; clear u; refine ⟨rfl, rfl, EntGoal.mk ?_ ?_⟩ <;> (repeat' (first | exact trivial | (with_reducible rfl) | apply And.intro | rfl)))
  · have hr := refwright_con (l := l) ha hc hb (by omega)
    by_cases hok : okSum a b l
    · have e1 : parseE a b l = 0 := by simp [parseE, hbad, hok]
      have e2 : parseS a b l = ⟨l.getD 0 0 * 256 + l.getD 1 0, l.getD 2 0 * 256 + l.getD 3 0, l.getD 13 0, headN l, l.drop (headN l).toNat⟩ := by simp [parseS, hbad, hok]
      rw [e1, e2]
      unfold badHead headN at hbad
      refine con_of_call2 rfl ?_
      refine call_inline Try.func21 rfl rfl ?_
      intro _
      rw [show sumW (pseudoL a b l.length ++ l) = 65535 from hok] at hr
      repeat' (first | (refine is_split ?_; refine sp_no (by (first | rfl | exact dec_f (by omega))) ?_ <;> (intro u; clear u)) | (refine is_asked ?_; (first | (refine is_spec ?_; (first | (with_reducible refine asked _ (sp_add (by simp only [lo, hi]; omega) (by simp only [lo, hi]; omega)) ?_) | (with_reducible refine asked _ (sp_mul (by simp only [lo, hi]; omega) (by simp only [lo, hi]; omega)) ?_) | (refine is_op (op := .shr) ?_; refine asked _ (sp_shrL 4 16 (by decide) (by rfl) (by decide)) ?_))) | (refine is_wrap ?_; refine asked _ (wrap_lohi (by simp only [lo, hi]; omega) (by simp only [lo, hi]; omega)) ?_) | (refine asked _ (ix_eq 12 (by omega) (by omega)) ?_) | (refine asked _ (ix_eq 13 (by omega) (by omega)) ?_) | (refine asked _ (ix_eq 0 (by omega) (by omega)) ?_) | (refine asked _ (ix_eq 1 (by omega) (by omega)) ?_) | (refine asked _ (ix_eq 2 (by omega) (by omega)) ?_) | (refine asked _ (ix_eq 3 (by omega) (by omega)) ?_) | (refine asked (ints .u8 (l.drop (0 + (4 * (l.getD 12 0 / 16)).toNat))) ⟨by rw [ints_view (by simp only; omega)]; rfl, rfl, by rw [ints_view (by simp only; omega), ints_length, List.length_drop]; show _ = _ * 1; simp only; omega, by unfold maxLen; simp only; omega, by show _ * 1 ≤ _; simp only; omega⟩ ?_) | refine asked _ (slice_ask (by omega) (by omega) (by omega)) ?_ | refine asked () (by constructor <;> omega) ?_); intro u; clear u) | (refine is_draw ?_; refine draw_step mixed (by kernel_rfl) ?_; intro u; clear u) | (refine is_call ?_; refine call_auto (hr) (lets_rfl rfl) (by exact ⟨⟨_, rfl, rfl, rfl⟩, trivial⟩) rfl ?_; intro u; clear u))
      (refine con_end ?_ rfl; intro u; clear u; refine ⟨rfl, rfl, EntGoal.mk ?_ ?_⟩ <;> (repeat' (first | exact trivial | (with_reducible rfl) | apply And.intro | rfl)))
      all_goals first
        | (simp [headN]; done)
        | (simp [headN]; omega)
        | (simp only [headN]; omega)
        | (simp only [headN, Nat.zero_add]; rw [Int.mul_comm 4]; done)
    · have e1 : parseE a b l = 9 := by simp [parseE, hbad, hok]
      have e2 : parseS a b l = zeroSeg := by simp [parseS, hbad, hok]
      rw [e1, e2]
      unfold badHead headN at hbad
      refine con_of_call2 rfl ?_
      refine call_inline Try.func21 rfl rfl ?_
      intro _
      unfold okSum at hok
      repeat' (first | (refine is_split ?_; (first | refine sp_yes (by exact ndec_t (by omega)) ?_ | refine sp_no (by exact dec_f (by omega)) ?_) <;> (intro u; clear u)) | (refine is_asked ?_; (first | (refine is_spec ?_; (first | (with_reducible refine asked _ (sp_mul (by simp only [lo, hi]; omega) (by simp only [lo, hi]; omega)) ?_) | (refine is_op (op := .shr) ?_; refine asked _ (sp_shrL 4 16 (by decide) (by rfl) (by decide)) ?_))) | (refine is_wrap ?_; refine asked _ (wrap_lohi (by simp only [lo, hi]; omega) (by simp only [lo, hi]; omega)) ?_) | (refine asked _ (ix_eq 12 (by omega) (by omega)) ?_) | refine asked () (by constructor <;> omega) ?_); intro u; clear u) | (refine is_call ?_; refine call_auto (hr) (lets_rfl rfl) (by exact ⟨⟨_, rfl, rfl, rfl⟩, trivial⟩) rfl ?_; intro u; clear u))
      all_goals (refine con_end ?_ rfl; intro u; clear u; refine ⟨rfl, rfl, EntGoal.mk ?_ ?_⟩ <;> (repeat' (first | exact trivial | (with_reducible rfl) | apply And.intro | rfl)))
