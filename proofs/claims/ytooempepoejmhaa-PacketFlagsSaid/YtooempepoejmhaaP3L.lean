/- Contracts of functions of the program, or a row of the seat, proved out of them. No condition beyond those that stand in each statement. -/
import Derived.Test.YtooempepoejmhaaP3K
namespace Go.Proofs.P3
open Go Go.SE
set_option maxRecDepth 100000
set_option maxHeartbeats 4000000
attribute [local irreducible] specI

theorem refput_con {t : Seg} {a b : Int} (ha : 0 ≤ a ∧ a ≤ 4294967295) (hc : 0 ≤ b ∧ b ≤ 4294967295) (hw : t.Wf) :
    CallCon Try.prog 32 [.one (.v (.int .u32 a)), .one (.v (.int .u32 b)), segT t 0] [.row (ints .u8 t.data) 1 5 false] (.tup [.one (.sl 0 0 (putL a b t).length), .one (.b (decide (okSeg t)))]) [.row (ints .u8 (putL a b t)) 1 5 true] := by
  have hw' := hw
  obtain ⟨g1, g2, g3, g4, g5, g6⟩ := hw
  by_cases hok : okSeg t
  · have hok' := hok
    unfold okSeg at hok
    have hz : (zsL t).length = t.head.toNat - 20 := by simp [zsL]
    have e1 : putL a b t = segL t (putK a b t) := by simp [putL, hok']
    have hlen : (putL a b t).length = t.head.toNat + t.data.length := by rw [e1, seg_len hok']
    rw [hlen, e1, decide_eq_true hok']
    have hs0 := seg_bytes (k := 0) hw' hok' (by omega)
    have hl0 := seg_len (k := 0) hok'
    have hP : ∀ x ∈ pseudoL a b (t.head.toNat + t.data.length : Nat) ++ segL t 0, 0 ≤ x ∧ x ≤ 255 := by
      intro x hx
      rcases List.mem_append.mp hx with h | h
      · exact pseudo_bytes _ _ _ x h
      · exact hs0 x h
    have hC := refcheck_con hP (by rw [List.length_append, pseudo_len, hl0]; omega)
    rw [List.length_append, pseudo_len, hl0] at hC
    have hk : 0 ≤ putK a b t ∧ putK a b t ≤ 65535 := by have := sumW_bd hP; unfold putK; omega
    change CallCon _ _ _ _ (.t (.one (.v (.int .u16 (putK a b t))))) _ at hC
    generalize putK a b t = k at *
    have hZ : zerosV [.int .u8 0] t.head.toNat = ints .u8 ([0, 0, 0, 0, 0, 0, 0, 0, 0, 0, 0, 0, 0, 0, 0, 0, 0, 0, 0, 0] ++ zsL t) := by
      rw [zerosV_ints, show t.head.toNat = 20 + (t.head.toNat - 20) by omega, rep20 rfl]; rfl
    have e16 : t.head / 4 * 16 = t.head * 4 := by omega
    have hvw : List.take (t.data.length * (0 + 1)) (List.drop (0 * (0 + 1)) (ints .u8 t.data)) = ints .u8 t.data := by simp [← ints_length .u8 t.data]
    have hvs : List.take ((t.head.toNat + t.data.length) * (0 + 1)) (List.drop (0 * (0 + 1)) (ints .u8 (segL t 0))) = ints .u8 (segL t 0) := by rw [← hl0]; simp [← ints_length .u8 (segL t 0)]
    refine con_of_call2 rfl ?_
    refine call_inline Try.func32 rfl rfl ?_
    intro _
    repeat' (first | (refine is_split ?_; refine sp_no (by (first | exact dec_f (by omega) | exact ndec_f (by omega))) ?_ <;> (intro u; clear u)) | (refine is_asked ?_; (first | (refine is_spec ?_; (first | (refine asked _ (sp_rem (by omega) (by omega)) ?_) | (refine asked _ (sp_quo (by omega) (by omega) (by simp only [lo, hi]; omega)) ?_) | (with_reducible refine asked _ (sp_add (by simp only [lo, hi]; omega) (by simp only [lo, hi]; omega)) ?_) | (with_reducible refine asked _ (sp_mul (by simp only [lo, hi]; omega) (by simp only [lo, hi]; omega)) ?_) | (refine is_op (op := .shr) ?_; refine asked _ (sp_shrL 8 256 (by decide) (by rfl) (by decide)) ?_))) | (refine is_wrap ?_; (first | refine asked _ (wrap_lohi (by simp only [lo, hi]; omega) (by simp only [lo, hi]; omega)) ?_ | refine asked _ (wrap_u8' _) ?_)) | (refine asked (t.head.toNat, t.head.toNat, ints .u8 ([0, 0, 0, 0, 0, 0, 0, 0, 0, 0, 0, 0, 0, 0, 0, 0, 0, 0, 0, 0] ++ zsL t)) ⟨by simp only; omega, by simp only; omega, Nat.le_refl _, by show t.head.toNat * 1 ≤ _; omega, by unfold maxLen; simp only; omega, by rw [show (Value.int IntKind.u8 0).cells.toList = [.int .u8 0] from rfl]; exact hZ⟩ ?_) | (refine asked (ints .u8 ([t.src / 256, 0, 0, 0, 0, 0, 0, 0, 0, 0, 0, 0, 0, 0, 0, 0, 0, 0, 0, 0] ++ zsL t)) ⟨by rfl, by rw [ints_length]; show 1 ≤ _; simp only [List.length_append, List.length_cons, List.length_nil, hz]; omega⟩ ?_) | (refine asked (ints .u8 ([t.src / 256, t.src % 256, 0, 0, 0, 0, 0, 0, 0, 0, 0, 0, 0, 0, 0, 0, 0, 0, 0, 0] ++ zsL t)) ⟨by rfl, by rw [ints_length]; show 2 ≤ _; simp only [List.length_append, List.length_cons, List.length_nil, hz]; omega⟩ ?_) | (refine asked (ints .u8 ([t.src / 256, t.src % 256, t.dst / 256, 0, 0, 0, 0, 0, 0, 0, 0, 0, 0, 0, 0, 0, 0, 0, 0, 0] ++ zsL t)) ⟨by rfl, by rw [ints_length]; show 3 ≤ _; simp only [List.length_append, List.length_cons, List.length_nil, hz]; omega⟩ ?_) | (refine asked (ints .u8 ([t.src / 256, t.src % 256, t.dst / 256, t.dst % 256, 0, 0, 0, 0, 0, 0, 0, 0, 0, 0, 0, 0, 0, 0, 0, 0] ++ zsL t)) ⟨by rfl, by rw [ints_length]; show 4 ≤ _; simp only [List.length_append, List.length_cons, List.length_nil, hz]; omega⟩ ?_) | (refine asked (ints .u8 ([t.src / 256, t.src % 256, t.dst / 256, t.dst % 256, 0, 0, 0, 0, 0, 0, 0, 0, t.head * 4, 0, 0, 0, 0, 0, 0, 0] ++ zsL t)) ⟨by rw [e16]; rfl, by rw [ints_length]; show 13 ≤ _; simp only [List.length_append, List.length_cons, List.length_nil, hz]; omega⟩ ?_) | (refine asked (ints .u8 ([t.src / 256, t.src % 256, t.dst / 256, t.dst % 256, 0, 0, 0, 0, 0, 0, 0, 0, t.head * 4, t.flags, 0, 0, 0, 0, 0, 0] ++ zsL t)) ⟨by rfl, by rw [ints_length]; show 14 ≤ _; simp only [List.length_append, List.length_cons, List.length_nil, hz]; omega⟩ ?_) | (refine asked (ints .u8 (segL t 0)) ⟨by rw [hvw, ← ints_append, List.append_assoc]; rfl, by rw [ints_length]; show _ = _ * 1; simp only [List.length_append, List.length_cons, List.length_nil, hz]; omega, by rw [hvw, ints_length]; show _ = _ * 1; omega, by unfold maxLen; simp only; omega, by show _ * 1 ≤ _; simp only; omega⟩ ?_) | (refine asked (ints .u8 (pseudoL a b (t.head.toNat + t.data.length : Nat) ++ segL t 0)) ⟨by rw [hvs, ints_append]; rfl, rfl, by rw [hvs, ints_length, hl0]; show _ = _ * 1; omega, by unfold maxLen; simp only; omega, by show _ * 1 ≤ _; simp only; omega⟩ ?_) | (refine asked (ints .u8 (baseL t (k / 256 * 256) ++ (zsL t ++ t.data))) ⟨by unfold baseL; rw [show k / 256 * 256 / 256 = k / 256 by omega, show k / 256 * 256 % 256 = 0 by omega]; rfl, by rw [ints_length, hl0]; show 17 ≤ _; omega⟩ ?_) | (refine asked (ints .u8 (segL t k)) ⟨by unfold segL baseL; rw [show k / 256 * 256 / 256 = k / 256 by omega]; rfl, by rw [ints_length]; show 18 ≤ _; simp only [baseL, List.length_append, List.length_cons, List.length_nil, hz]; omega⟩ ?_) | refine asked () (by constructor <;> omega) ?_); intro u; clear u) | (refine is_draw ?_; refine draw_step mixed (by kernel_rfl) ?_; intro u; clear u) | (refine is_call ?_; (first | refine call_auto (hC) (lets_rfl rfl) (by exact ⟨⟨_, rfl, rfl, rfl⟩, trivial⟩) rfl ?_ | refine call_auto (refpseudo_con ha hc (by omega)) (lets_rfl rfl) (by exact trivial) rfl ?_); intro u; clear u))
    all_goals (refine con_end ?_ rfl; intro u; clear u; refine ⟨rfl, rfl, EntGoal.mk ?_ ?_⟩ <;> (repeat' (first | exact trivial | (with_reducible rfl) | apply And.intro | rfl)))
  · rw [decide_eq_false hok, show putL a b t = [] by simp [putL, hok]]
    unfold okSeg at hok
    refine con_of_call2 rfl ?_
    refine call_inline Try.func32 rfl rfl ?_
    intro _
    repeat' (first | (refine is_split ?_; (first | refine sp_yes (by exact ndec_t (by omega)) ?_ | refine sp_dec (fun g => ?_) (fun g => ?_)) <;> (intro u; clear u)) | (refine is_asked ?_; (refine is_spec ?_; (refine asked _ (sp_rem (by omega) (by omega)) ?_)); intro u; clear u))
    all_goals (refine con_end ?_ rfl; intro u; clear u; refine ⟨rfl, rfl, EntGoal.mk ?_ ?_⟩ <;> (repeat' (first | exact trivial | (with_reducible rfl) | apply And.intro | rfl)))
