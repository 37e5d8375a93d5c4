/- Contracts of functions of the program, or a row of the seat, proved out of them. No condition beyond those that stand in each statement. -/
import Derived.Test.YtooempepoejmhaaP3J
namespace Go.Proofs.P3
open Go Go.SE
set_option maxRecDepth 100000
set_option maxHeartbeats 4000000
attribute [local irreducible] specI

def okSeg (t : Seg) : Prop := (20 ≤ t.head ∧ t.head ≤ 60) ∧ t.head % 4 = 0
instance (t : Seg) : Decidable (okSeg t) := by unfold okSeg; infer_instance
def baseL (t : Seg) (k : Int) : List Int := [t.src / 256, t.src % 256, t.dst / 256, t.dst % 256, 0, 0, 0, 0, 0, 0, 0, 0, t.head * 4, t.flags, 0, 0, k / 256, k % 256, 0, 0]
def zsL (t : Seg) : List Int := List.replicate (t.head.toNat - 20) 0
def segL (t : Seg) (k : Int) : List Int := baseL t k ++ (zsL t ++ t.data)
def putK (a b : Int) (t : Seg) : Int := 65535 - sumW (pseudoL a b (t.head.toNat + t.data.length : Nat) ++ segL t 0)
def putL (a b : Int) (t : Seg) : List Int := if okSeg t then segL t (putK a b t) else []

theorem seg_len {t : Seg} {k : Int} (h : okSeg t) : (segL t k).length = t.head.toNat + t.data.length := by
  obtain ⟨⟨h1, h2⟩, h3⟩ := h
  simp [segL, baseL, zsL]; omega
theorem seg_bytes {t : Seg} {k : Int} (hw : t.Wf) (h : okSeg t) (hk : 0 ≤ k ∧ k ≤ 65535) : ∀ x ∈ segL t k, 0 ≤ x ∧ x ≤ 255 := by
  obtain ⟨⟨h1, h2⟩, h3⟩ := h
  obtain ⟨g1, g2, g3, g4, g5, g6⟩ := hw
  intro x hx
  rcases List.mem_append.mp hx with hx | hx
  · simp only [baseL, List.mem_cons, List.not_mem_nil, or_false] at hx
    omega
  · rcases List.mem_append.mp hx with hx | hx
    · have := List.eq_of_mem_replicate hx; omega
    · exact g5 x hx
theorem zerosV_ints : ∀ n : Nat, zerosV [.int .u8 0] n = ints .u8 (List.replicate n 0)
  | 0 => rfl
  | n + 1 => by show _ :: zerosV _ n = _; rw [zerosV_ints n]; rfl
theorem setVals_app : ∀ (A ds vs : List Value), ds.length = vs.length → setVals (A ++ ds) A.length vs = A ++ vs
  | [], [], [], _ => rfl
  | [], d :: ds, v :: vs, h => by
    show v :: setVals ds 0 vs = _
    have := setVals_app [] ds vs (by simpa using h)
    simpa using this
  | [], [], v :: vs, h => by simp at h
  | [], d :: ds, [], h => by simp at h
  | a :: A, ds, vs, h => by
    show setVals (a :: (A ++ ds)) (A.length + 1) vs = _
    cases vs with
    | nil => simp at h; subst h; rw [setVals_nil]; rfl
    | cons v vs =>
      show a :: setVals (A ++ ds) A.length (v :: vs) = _
      rw [setVals_app A ds _ h]; rfl
theorem ints_cons (k : IntKind) (x : Int) (l : List Int) : ints k (x :: l) = .int k x :: ints k l := rfl
theorem rep20 {n m : Nat} (h : n = 20 + m) : List.replicate n (0 : Int) = [0, 0, 0, 0, 0, 0, 0, 0, 0, 0, 0, 0, 0, 0, 0, 0, 0, 0, 0, 0] ++ List.replicate m 0 := by
  subst h
  rw [← List.replicate_append_replicate]; rfl

theorem put_con {t : Seg} {a b : Int} (ha : 0 ≤ a ∧ a ≤ 4294967295) (hc : 0 ≤ b ∧ b ≤ 4294967295) (hw : t.Wf) :
    CallCon Try.prog 30 [.one (.v (.int .u32 a)), .one (.v (.int .u32 b)), segT t 0] [.row (ints .u8 t.data) 1 5 false] (.tup [.one (.sl 0 0 (putL a b t).length), .one (.b (decide (okSeg t)))]) [.row (ints .u8 (putL a b t)) 1 5 true] := by
  have hw' := hw
  obtain ⟨g1, g2, g3, g4, g5, g6⟩ := hw
  by_cases hok : okSeg t
  · have hok' := hok
    unfold okSeg at hok
    have hz : (zsL t).length = t.head.toNat - 20 := by simp [zsL]
    have e1 : putL a b t = segL t (putK a b t) := by simp [putL, hok']
    have hlen : (putL a b t).length = t.head.toNat + t.data.length := by rw [e1, seg_len hok']
    rw [hlen, e1, decide_eq_true hok']
    have hs0 := seg_bytes (k := 0) hw' hok' (by omega)
    have hl0 := seg_len (k := 0) hok'
    have hW := whole_con (l := segL t 0) ha hc hs0 (by omega)
    rw [hl0] at hW
    have hP : ∀ x ∈ pseudoL a b (t.head.toNat + t.data.length : Nat) ++ segL t 0, 0 ≤ x ∧ x ≤ 255 := by
      intro x hx
      rcases List.mem_append.mp hx with h | h
      · exact pseudo_bytes _ _ _ x h
      · exact hs0 x h
    have hC := check_con hP (by rw [List.length_append, pseudo_len, hl0]; omega)
    rw [List.length_append, pseudo_len, hl0] at hC
    have hk : 0 ≤ putK a b t ∧ putK a b t ≤ 65535 := by have := sumW_bd hP; unfold putK; omega
    change CallCon _ _ _ _ (.t (.one (.v (.int .u16 (putK a b t))))) _ at hC
    generalize putK a b t = k at *
    have hZ : zerosV [.int .u8 0] (t.head.toNat + t.data.length) = ints .u8 ([0, 0, 0, 0, 0, 0, 0, 0, 0, 0, 0, 0, 0, 0, 0, 0, 0, 0, 0, 0] ++ (zsL t ++ List.replicate t.data.length 0)) := by
      rw [zerosV_ints, show t.head.toNat + t.data.length = 20 + ((t.head.toNat - 20) + t.data.length) by omega, rep20 rfl, ← List.replicate_append_replicate]; rfl
    refine con_of_call2 rfl ?_
    refine call_inline Try.func30 rfl rfl ?_
    intro _
    have hcp : ∀ B : List Int, B.length = 20 → setVals (ints .u8 (B ++ (zsL t ++ List.replicate t.data.length 0))) t.head.toNat (ints .u8 t.data) = ints .u8 (B ++ (zsL t ++ t.data)) := by
      intro B hB
      have := setVals_app (ints .u8 (B ++ zsL t)) (ints .u8 (List.replicate t.data.length 0)) (ints .u8 t.data) (by simp [ints_length])
      rw [ints_length, List.length_append, hB, hz, show 20 + (t.head.toNat - 20) = t.head.toNat by omega, ← ints_append, ← ints_append] at this
      rwa [List.append_assoc, List.append_assoc] at this
    have hvw : List.take (t.data.length * (0 + 1)) (List.drop (0 * (0 + 1)) (ints .u8 t.data)) = ints .u8 t.data := by simp [← ints_length .u8 t.data]
    repeat' (first | (refine is_draw (id := 7) ?_; refine mask_start mixed rfl ?_) | (refine is_mask ?_; (first | (refine mask_end (by decide +kernel) ?_; intro u; clear u) | (refine mask_take 0 (by rfl) (by decide +kernel) (by decide +kernel) ?_; intro u; clear u) | (refine mask_take 1 (by rfl) (by decide +kernel) (by decide +kernel) ?_; intro u; clear u) | (refine mask_take 2 (by rfl) (by decide +kernel) (by decide +kernel) ?_; intro u; clear u) | (refine mask_take 3 (by rfl) (by decide +kernel) (by decide +kernel) ?_; intro u; clear u) | (refine mask_take 4 (by rfl) (by decide +kernel) (by decide +kernel) ?_; intro u; clear u) | (refine mask_step 5 (by rfl) (by decide +kernel) ?_; intro u; clear u) | (refine mask_step 6 (by rfl) (by decide +kernel) ?_; intro u; clear u) | (refine mask_step 7 (by rfl) (by decide +kernel) ?_; intro u; clear u) | (refine mask_step 8 (by rfl) (by decide +kernel) ?_; intro u; clear u) | (refine mask_step 9 (by rfl) (by decide +kernel) ?_; intro u; clear u) | (refine mask_step 10 (by rfl) (by decide +kernel) ?_; intro u; clear u))) | (refine is_split ?_; refine sp_no (by (first | exact dec_f (by omega) | exact ndec_f (by omega))) ?_ <;> (intro u; clear u)) | (refine is_asked ?_; (first | (refine is_spec ?_; (first | (with_reducible refine asked _ (sp_add (by simp only [lo, hi]; omega) (by simp only [lo, hi]; omega)) ?_) | (refine is_op (op := .shr) ?_; refine asked _ (sp_shrL 8 256 (by decide) (by rfl) (by decide)) ?_) | (refine is_op (op := .shl) ?_; refine asked _ (sp_shlL 2 4 (by decide) (by rfl) (by decide) (by simp only [lo, hi]; omega) (by simp only [lo, hi]; omega)) ?_) | (with_reducible refine asked _ (sp_maskL 2 4 (by decide) (by decide) (by decide) (by simp only [lo, hi]; omega)) ?_))) | (refine is_wrap ?_; (first | refine asked _ (wrap_lohi (by simp only [lo, hi]; omega) (by simp only [lo, hi]; omega)) ?_ | refine asked _ (wrap_u8' _) ?_)) | (refine asked (t.head.toNat + t.data.length, t.head.toNat + t.data.length, ints .u8 ([0, 0, 0, 0, 0, 0, 0, 0, 0, 0, 0, 0, 0, 0, 0, 0, 0, 0, 0, 0] ++ (zsL t ++ List.replicate t.data.length 0))) ⟨by simp only; omega, by simp only; omega, Nat.le_refl _, by show (t.head.toNat + t.data.length) * 1 ≤ _; omega, by unfold maxLen; simp only; omega, by rw [show (Value.int IntKind.u8 0).cells.toList = [.int .u8 0] from rfl]; exact hZ⟩ ?_) | (refine asked (4, ints .u8 ([t.src / 256, t.src % 256, t.dst / 256, t.dst % 256, 0, 0, 0, 0, 0, 0, 0, 0, 0, 0, 0, 0, 0, 0, 0, 0] ++ (zsL t ++ List.replicate t.data.length 0))) ⟨by show min 4 (t.head.toNat + t.data.length) = 4; omega, by rfl, by rw [ints_length]; show 4 * 1 ≤ _; simp only [List.length_append, List.length_cons, List.length_nil, List.length_replicate, hz]; omega, by rfl⟩ ?_) | (refine asked (ints .u8 ([t.src / 256, t.src % 256, t.dst / 256, t.dst % 256, 0, 0, 0, 0, 0, 0, 0, 0, t.head * 4, 0, 0, 0, 0, 0, 0, 0] ++ (zsL t ++ List.replicate t.data.length 0))) ⟨by rfl, by rw [ints_length]; show 13 ≤ _; simp only [List.length_append, List.length_cons, List.length_nil, List.length_replicate, hz]; omega⟩ ?_) | (refine asked (ints .u8 ([t.src / 256, t.src % 256, t.dst / 256, t.dst % 256, 0, 0, 0, 0, 0, 0, 0, 0, t.head * 4, t.flags, 0, 0, 0, 0, 0, 0] ++ (zsL t ++ List.replicate t.data.length 0))) ⟨by rfl, by rw [ints_length]; show 14 ≤ _; simp only [List.length_append, List.length_cons, List.length_nil, List.length_replicate, hz]; omega⟩ ?_) | (refine asked (t.data.length, ints .u8 (segL t 0)) ⟨by show min _ _ = _; simp only; omega, by rw [hvw, ints_length]; show _ = _ * 1; omega, by rw [ints_length]; show (0 + t.head.toNat + t.data.length) * 1 ≤ _; simp only [List.length_append, List.length_cons, List.length_nil, List.length_replicate, hz]; omega, by rw [hvw]; show setVals _ ((0 + t.head.toNat) * 1) (List.take (t.data.length * 1) _) = _; rw [List.take_of_length_le (by rw [ints_length]; omega), Nat.zero_add, Nat.mul_one]; exact hcp _ rfl⟩ ?_) | (refine asked (2, ints .u8 (segL t k)) ⟨by show min 2 _ = 2; simp only; omega, by rfl, by rw [ints_length, hl0]; show 18 * 1 ≤ _; omega, by rfl⟩ ?_) | refine asked _ (slice_ask (by omega) (by omega) (by omega)) ?_ | refine asked () (by constructor <;> omega) ?_ | refine asked _ (append_ask rfl rfl (by decide) (by decide)) ?_); intro u; clear u) | (refine is_loop ?_; refine loop_step ?_; intro u; clear u) | (refine is_yield ?_; refine yield_step rfl rfl rfl rfl ?_; intro u; clear u) | (refine is_draw ?_; refine draw_step mixed (by kernel_rfl) ?_; intro u; clear u) | (refine is_range ?_; refine range_step rfl rfl ?_; intro u; clear u) | (refine is_call ?_; (first | refine call_inline Try.func45 rfl rfl ?_ | refine call_inline Try.func46 rfl rfl ?_ | refine call_inline Try.func60 rfl rfl ?_ | refine call_inline Try.func61 rfl rfl ?_ | refine call_auto (hW) (lets_rfl rfl) (by exact ⟨⟨_, rfl, rfl, rfl⟩, trivial⟩) rfl ?_ | refine call_auto (hC) (lets_rfl rfl) (by exact ⟨⟨_, rfl, rfl, rfl⟩, trivial⟩) rfl ?_); intro u; clear u))
    all_goals (refine con_end ?_ rfl; intro u; clear u; refine ⟨rfl, rfl, EntGoal.mk ?_ ?_⟩ <;> (repeat' (first | exact trivial | (with_reducible rfl) | apply And.intro | rfl)))
  · rw [decide_eq_false hok, show putL a b t = [] by simp [putL, hok]]
    unfold okSeg at hok
    refine con_of_call2 rfl ?_
    refine call_inline Try.func30 rfl rfl ?_
    intro _
    repeat' (first | (refine is_split ?_; (first | refine sp_yes (by exact ndec_t (by omega)) ?_ | refine sp_dec (fun g => ?_) (fun g => ?_)) <;> (intro u; clear u)) | (refine is_asked ?_; (refine is_spec ?_; (with_reducible refine asked _ (sp_maskL 2 4 (by decide) (by decide) (by decide) (by simp only [lo, hi]; omega)) ?_)); intro u; clear u))
    all_goals (refine con_end ?_ rfl; intro u; clear u; refine ⟨rfl, rfl, EntGoal.mk ?_ ?_⟩ <;> (repeat' (first | exact trivial | (with_reducible rfl) | apply And.intro | rfl)))
