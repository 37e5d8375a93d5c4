/- Contracts of functions of the program, or a row of the seat, proved out of them. No condition beyond those that stand in each statement. -/
import Derived.Test.YtahoihfbjlgpgaaS08gHg
namespace Go.Proofs.S08
open Go Go.SE
set_option maxRecDepth 100000
set_option maxHeartbeats 40000000
attribute [local irreducible] specI

def ofT (t : Tu) : Int := fld (sumT t)
def ofs (l : List Tu) : List Int := l.map ofT
theorem ofs_len (l : List Tu) : (ofs l).length = l.length := by simp [ofs]
theorem ints_two (k : IntKind) : ∀ (A B : List Int), ints k (A ++ B) = ints k A ++ ints k B
  | [], _ => rfl
  | x :: A, B => by simp only [List.cons_append, ints, ints_two k A B]
theorem int_app {L : List Int} {x : Int} {n : Nat} (hn : L.length = n) (h : n ≤ 100000) : ints .i64 L ++ [Value.int .i64 x] = ints .i64 (L ++ [x]) ∧ (ints .i64 L).length = n * 1 ∧ [Value.int .i64 x].length = 1 * 1 ∧ n + 1 ≤ maxLen ∧ (n + 1) * 8 ≤ 140737488355328 :=
  ⟨by rw [ints_two]; rfl, by rw [ints_length]; omega, rfl, by unfold maxLen; omega, by omega⟩
theorem int_app0 {x : Int} : [] ++ [Value.int .i64 x] = ints .i64 [x] ∧ ([] : List Value).length = 0 * 1 ∧ [Value.int .i64 x].length = 1 * 1 ∧ 0 + 1 ≤ maxLen ∧ (0 + 1) * 8 ≤ 140737488355328 :=
  ⟨rfl, rfl, rfl, by unfold maxLen; omega, by omega⟩
theorem ofs_take {l : List Tu} {k : Nat} (h : k < l.length) : (ofs l).take (k + 1) = (ofs l).take k ++ [ofT (tuAt l k)] := by
  rw [List.take_succ_eq_append_getElem (by rw [ofs_len]; exact h)]
  simp [ofs, ofT, tuAt, List.getD_eq_getElem?_getD, List.getElem?_eq_getElem h]
theorem ofs_ix {l : List Tu} {k p : Nat} (h : k < l.length) (hp : p = k) : (ints .i64 (ofs l))[p]? = some (.int .i64 (ofT (tuAt l k))) := by
  subst hp
  have e : ∀ (L : List Int) (i : Nat), (ints .i64 L)[i]? = (L[i]?).map fun x => Value.int .i64 x := by
    intro L
    induction L with
    | nil => intro i; simp [ints]
    | cons x L ih => intro i; cases i with
      | zero => simp [ints]
      | succ i => simp [ints, ih]
  rw [e]
  simp [ofs, ofT, tuAt, List.getD_eq_getElem?_getD, List.getElem?_eq_getElem h]

theorem tells1_con {c s : Int} (hc : byte c) (hs : byte s) {b : List Int} (hb : Bytes b) (hl : b.length ≤ 100) {t u : Tu} (ht : t.Wf) (hu : u.Wf) {l : List Tu} (hw : ∀ x ∈ l, x.Wf) (h1 : 1 ≤ l.length) (h40 : l.length ≤ 40) : CallCon Try.prog 6 [.one (.v (.int .u8 c)), .one (.v (.int .u8 s)), .one (.sl 0 0 b.length), tuT t, tuT u, .one (.sl 1 0 l.length)] [.row (ints .u8 b) 1 5 false, .row (tusV l) 4 31 false] (.t (.one (.v (.bool true)))) [] := by
  have hx0 : (tuAt l 0).Wf := hw _ (by unfold tuAt; rw [List.getD_eq_getElem?_getD, List.getElem?_eq_getElem (by omega)]; exact List.getElem_mem _)
  have hB0 := tubytes_con hx0
  refine con_of_call2 rfl ?_
  refine call_inline Try.func6 rfl rfl ?_
  intro _
  repeat' (first | (refine is_split ?_; refine sp_no (by exact dec_f (by omega)) ?_ <;> (intro u; clear u)) | (refine is_call ?_; (first | refine call_inline Try.func18 rfl rfl ?_ | refine call_inline Try.func19 rfl rfl ?_); intro u; clear u))
  refine is_loop ?_
  refine loop_step ?_
  intro u
  clear u
  repeat' (first | (refine is_draw (id := 3) ?_; refine mask_start mixed rfl ?_) | (refine is_mask ?_; (first | (refine mask_take 0 (by rfl) (by show still Try.prog _ = true; decide +kernel) (by decide +kernel) ?_; intro u; clear u) | (refine held_start [2] ?_; refine is_held ?_))) | (refine is_held ?_; (first | (refine held_load [2] 2 _ (by rfl) (.head _) rfl (by decide +kernel) ?_; intro u; clear u) | (refine held_step [2] 1 (by rfl) rfl (by decide +kernel) ?_; intro u; clear u))) | (refine is_call (f := 56) ?_; refine once_first (.n .u32 0 :: .n .i32 1 :: .n .u32 0 :: .n .i32 0 :: rep [.n .u8 0] 256) onceFirst rfl rfl rfl rfl (by rfl) ?_; intro u; clear u) | (refine is_split ?_; refine sp_yes (by exact dec_t (by omega)) ?_ <;> (intro u; clear u)) | (refine is_asked ?_; (first | (refine asked _ (tu_ask l 0 (by show (0 + Int.toNat 0) * 4 = _; omega) (by omega)) ?_) | refine asked () ⟨by omega, by omega⟩ ?_); intro u; clear u) | (refine is_call ?_; (first | refine call_inline Try.func21 rfl rfl ?_ | refine call_inline Try.func38 rfl rfl ?_ | refine call_inline Try.func57 rfl rfl ?_); intro u; clear u))
  refine loop_keep (fun k : Nat => 256 - k) (fun k => k ≤ 256) [0] (fun k => [(2, .t (.one (.v (.int .i64 k))))]) (fun k => [(4, .box (hshS 0 1 0 k) 1 76)]) (fun _ => []) [] 0 0 (Nat.zero_le _) ?_ ?_
  · (intro u; clear u; refine ⟨rfl, rfl, EntGoal.mk ?_ ?_⟩ <;> (repeat' (first | exact trivial | (with_reducible rfl) | apply And.intro | rfl)))
  intro k hk u
  clear u
  by_cases hc2 : k < 256
  · have hT := turn_con (c := (k : Int)) ⟨by omega, by omega⟩
    repeat' (first | (refine is_split ?_; refine sp_yes (by exact dec_t (by omega)) ?_ <;> (intro u; clear u)) | (refine is_asked ?_; (first | (refine is_spec ?_; (with_reducible refine asked _ (sp_add (by simp only [lo, hi]; omega) (by simp only [lo, hi]; omega)) ?_)) | (refine is_wrap ?_; refine asked _ (wrap_lohi (by simp only [lo, hi]; omega) (by simp only [lo, hi]; omega)) ?_) | (refine asked _ (tab_put (d := 0) (m := 1) (n := 0) k hc2 (by rfl) (by show 0 + 4 + Int.toNat (k : Int) * 1 = 4 + k; omega)) ?_) | refine asked () ⟨by omega, by omega⟩ ?_); intro u; clear u) | (refine is_draw ?_; refine draw_step mixed (by kernel_rfl) ?_; intro u; clear u) | (refine is_dcall ?_; refine dcall_auto (hT) (lets_rfl rfl) (by exact trivial) rfl ?_; intro u; clear u))
    refine again (k + 1) (by omega) (by omega) ?_
    (intro u; clear u; refine ⟨rfl, rfl, EntGoal.mk ?_ ?_⟩ <;> (repeat' (first | exact trivial | (with_reducible rfl) | apply And.intro | rfl)))
  obtain rfl : k = 256 := by omega
  repeat' (first | (refine is_held ?_; (first | (refine held_step [2] 3 (by rfl) rfl (by decide +kernel) ?_; intro u; clear u) | (refine held_step [2] 4 (by rfl) rfl (by decide +kernel) ?_; intro u; clear u))) | (refine is_kept ?_; refine Kept.mk ?_ ?_; focus (repeat' (first | exact trivial | apply And.intro | exact rfl))) | (refine is_call (f := 58) ?_; refine call_add32 (l := hshS 0 1 1 256) add32 rfl rfl rfl (by rfl) ?_; intro u; clear u) | (refine once_end (hshS 1 0 1 256) rfl rfl rfl rfl (by rfl) ?_; intro u; clear u) | (refine is_split ?_; refine sp_no (by rfl) ?_ <;> (intro u; clear u)) | (refine is_range ?_; refine range_step rfl rfl ?_; intro u; clear u) | (refine is_call ?_; (first | refine call_auto (hB0) (lets_rfl rfl) (by exact trivial) rfl ?_ | refine call_inline Try.func32 rfl rfl ?_ | refine call_inline Try.func53 rfl rfl ?_ | refine call_inline Try.func70 rfl rfl ?_); intro u; clear u))
  refine loop_keep (fun k : Nat => 12 - k) (fun k => k ≤ 12) [0, 2, 3, 7, 8] (fun k => [(9, .t (.one (.v (.int .i64 k))))]) (fun k => [(9, .box [.v (.int .u8 (goB 0 ((tuB (tuAt l 0)).take k)))] 1 5), (11, .box [.v (.int .u8 (goB 0 ((tuB (tuAt l 0)).take k)))] 1 5)]) (fun _ => [(14, [], [4, 10])]) [] 0 0 (Nat.zero_le _) ?_ ?_
  · (intro u; clear u; refine ⟨rfl, rfl, EntGoal.mk ?_ ?_⟩ <;> (repeat' (first | exact trivial | (with_reducible rfl) | apply And.intro | rfl)))
  intro k hk u
  clear u
  by_cases hc3 : k < 12
  · have hl : (tuB (tuAt l 0)).length = 12 := rfl
    have ha := goB_byte (s := 0) ⟨by decide, by decide⟩ (bytes_take (tuB_bytes (tuAt l 0)) k)
    have hx := getD_byte (tuB_bytes (tuAt l 0)) k
    have hxr := xr_byte ha hx
    obtain ⟨a1, a2⟩ := ha
    obtain ⟨x1, x2⟩ := hx
    obtain ⟨y1, y2⟩ := hxr
    repeat' (first | (refine is_split ?_; refine sp_yes (by exact dec_t (by omega)) ?_ <;> (intro u; clear u)) | (refine is_asked ?_; (first | (refine is_spec ?_; (first | (refine asked (xr _ _) (sp_xor rfl (by omega) (by simp only [hi]; omega) (by omega) (by simp only [hi]; omega)) ?_) | (with_reducible refine asked _ (sp_add (by simp only [lo, hi]; omega) (by simp only [lo, hi]; omega)) ?_))) | (refine asked _ (ix_eq k (by show (0 + Int.toNat (k : Int)) * 1 = _; omega) (by omega)) ?_) | (refine asked _ (tab_get (d := 1) (m := 0) (n := 1) (c := xr (goB 0 ((tuB (tuAt l 0)).take k)) ((tuB (tuAt l 0)).getD k 0)) ⟨y1, y2⟩ (by rfl) (by show 0 + 4 + Int.toNat _ * 1 = _; omega)) ?_) | refine asked () ⟨by omega, by omega⟩ ?_); intro u; clear u) | (refine is_yield ?_; refine yield_step rfl rfl rfl rfl ?_; intro u; clear u) | (refine is_call ?_; refine call_inline Try.func59 rfl rfl ?_; intro u; clear u))
    refine again (k + 1) (by omega) (by omega) ?_
    (intro u; clear u; refine ⟨rfl, rfl, EntGoal.mk ?_ ?_⟩ <;> (repeat' (first | exact trivial | (with_reducible rfl) | apply And.intro | rfl)))
    all_goals exact (goB_succ (by rw [hl]; omega)).symm
  obtain rfl : k = 12 := by omega
  rw [show (tuB (tuAt l 0)).take 12 = tuB (tuAt l 0) from rfl]
  have hF := folded_con (sumT_byte (tuAt l 0))
  repeat' (first | (refine is_held ?_; (first | (refine held_end (by decide +kernel) ?_; intro u; clear u) | (refine held_step [2] 5 (by rfl) rfl (by decide +kernel) ?_; intro u; clear u) | (refine held_step [2] 6 (by rfl) rfl (by decide +kernel) ?_; intro u; clear u))) | (refine is_kept ?_; refine Kept.mk ?_ ?_; focus (repeat' (first | exact trivial | apply And.intro | exact rfl))) | (refine is_split ?_; refine sp_no (by rfl) ?_ <;> (intro u; clear u)) | (refine is_asked ?_; (refine asked _ int_app0 ?_); intro u; clear u) | (refine is_call ?_; refine call_auto (hF) (lets_rfl rfl) (by exact trivial) rfl ?_; intro u; clear u))
  refine loop_keep (fun k : Nat => l.length - k) (fun k => 1 ≤ k ∧ k ≤ l.length) [0, 7, 8] (fun k => [(4, .t (.one (.sl 17 0 k))), (9, .t (.one (.v (.int .i64 k))))]) (fun k => [(4, .box (hshS 1 0 1 256) 1 76), (17, .row (ints .i64 ((ofs l).take k)) 1 3 true)]) (fun _ => []) [5, 6, 7, 8, 9, 10, 11, 12, 13, 14, 15, 16] 1 1 ⟨by omega, by omega⟩ ?_ ?_
  · (intro u; clear u; refine ⟨rfl, rfl, EntGoal.mk ?_ ?_⟩ <;> (repeat' (first | exact trivial | (with_reducible rfl) | apply And.intro | rfl)))
    all_goals (first | rfl | (rw [ofs_take (k := 0) (by omega)]; rfl))
  intro k hk u
  clear u
  by_cases hc4 : k < l.length
  · have hxk : (tuAt l k).Wf := hw _ (by unfold tuAt; rw [List.getD_eq_getElem?_getD, List.getElem?_eq_getElem hc4]; exact List.getElem_mem _)
    have hBk := tubytes_con hxk
    repeat' (first | (refine is_draw (id := 3) ?_; refine mask_start mixed rfl ?_) | (refine is_mask ?_; (first | (refine mask_take 0 (by rfl) (by show still Try.prog _ = true; decide +kernel) (by decide +kernel) ?_; intro u; clear u) | (refine held_start [2] ?_; refine is_held ?_))) | (refine is_held ?_; (first | (refine held_load [2] 2 _ (by rfl) (.head _) rfl (by decide +kernel) ?_; intro u; clear u) | (refine held_step [2] 1 (by rfl) rfl (by decide +kernel) ?_; intro u; clear u) | (refine held_step [2] 3 (by rfl) rfl (by decide +kernel) ?_; intro u; clear u) | (refine held_step [2] 4 (by rfl) rfl (by decide +kernel) ?_; intro u; clear u))) | (refine is_kept ?_; refine Kept.mk ?_ ?_; focus (repeat' (first | exact trivial | apply And.intro | exact rfl))) | (refine is_call (f := 56) ?_; refine once_done onceDone rfl (by rfl) ?_; intro u; clear u) | (refine is_split ?_; refine sp_yes (by exact dec_t (by omega)) ?_ <;> (intro u; clear u)) | (refine is_asked ?_; (first | (refine asked _ (tu_ask l k (by show (0 + Int.toNat (k : Int)) * 4 = _; omega) (by omega)) ?_) | refine asked () ⟨by omega, by omega⟩ ?_); intro u; clear u) | (refine is_range ?_; refine range_step rfl rfl ?_; intro u; clear u) | (refine is_call ?_; (first | refine call_auto (hBk) (lets_rfl rfl) (by exact trivial) rfl ?_ | refine call_inline Try.func21 rfl rfl ?_ | refine call_inline Try.func38 rfl rfl ?_ | refine call_inline Try.func32 rfl rfl ?_ | refine call_inline Try.func53 rfl rfl ?_ | refine call_inline Try.func70 rfl rfl ?_); intro u; clear u))
    refine loop_keep (fun q : Nat => 12 - q) (fun q => q ≤ 12) [0, 2, 3, 7, 8] (fun q => [(9, .t (.one (.v (.int .i64 q))))]) (fun q => [(22, .box [.v (.int .u8 (goB 0 ((tuB (tuAt l k)).take q)))] 1 5), (24, .box [.v (.int .u8 (goB 0 ((tuB (tuAt l k)).take q)))] 1 5)]) (fun _ => [(27, [], [4, 10])]) [] 0 0 (Nat.zero_le _) ?_ ?_
    · (intro u; clear u; refine ⟨rfl, rfl, EntGoal.mk ?_ ?_⟩ <;> (repeat' (first | exact trivial | (with_reducible rfl) | apply And.intro | rfl)))
    intro j hj u
    clear u
    by_cases hc3 : j < 12
    · have hl : (tuB (tuAt l k)).length = 12 := rfl
      have ha := goB_byte (s := 0) ⟨by decide, by decide⟩ (bytes_take (tuB_bytes (tuAt l k)) j)
      have hx := getD_byte (tuB_bytes (tuAt l k)) j
      have hxr := xr_byte ha hx
      obtain ⟨a1, a2⟩ := ha
      obtain ⟨x1, x2⟩ := hx
      obtain ⟨y1, y2⟩ := hxr
      repeat' (first | (refine is_split ?_; refine sp_yes (by exact dec_t (by omega)) ?_ <;> (intro u; clear u)) | (refine is_asked ?_; (first | (refine is_spec ?_; (first | (refine asked (xr _ _) (sp_xor rfl (by omega) (by simp only [hi]; omega) (by omega) (by simp only [hi]; omega)) ?_) | (with_reducible refine asked _ (sp_add (by simp only [lo, hi]; omega) (by simp only [lo, hi]; omega)) ?_))) | (refine asked _ (ix_eq j (by show (0 + Int.toNat (j : Int)) * 1 = _; omega) (by omega)) ?_) | (refine asked _ (tab_get (d := 1) (m := 0) (n := 1) (c := xr (goB 0 ((tuB (tuAt l k)).take j)) ((tuB (tuAt l k)).getD j 0)) ⟨y1, y2⟩ (by rfl) (by show 0 + 4 + Int.toNat _ * 1 = _; omega)) ?_) | refine asked () ⟨by omega, by omega⟩ ?_); intro u; clear u) | (refine is_yield ?_; refine yield_step rfl rfl rfl rfl ?_; intro u; clear u) | (refine is_call ?_; refine call_inline Try.func59 rfl rfl ?_; intro u; clear u))
      refine again (j + 1) (by omega) (by omega) ?_
      (intro u; clear u; refine ⟨rfl, rfl, EntGoal.mk ?_ ?_⟩ <;> (repeat' (first | exact trivial | (with_reducible rfl) | apply And.intro | rfl)))
      all_goals exact (goB_succ (by rw [hl]; omega)).symm
    obtain rfl : j = 12 := by omega
    rw [show (tuB (tuAt l k)).take 12 = tuB (tuAt l k) from rfl]

    have hFk := folded_con (sumT_byte (tuAt l k))
    repeat' (first | (refine is_held ?_; (first | (refine held_end (by decide +kernel) ?_; intro u; clear u) | (refine held_step [2] 5 (by rfl) rfl (by decide +kernel) ?_; intro u; clear u) | (refine held_step [2] 6 (by rfl) rfl (by decide +kernel) ?_; intro u; clear u))) | (refine is_kept ?_; refine Kept.mk ?_ ?_; focus (repeat' (first | exact trivial | apply And.intro | exact rfl))) | (refine is_split ?_; refine sp_no (by rfl) ?_ <;> (intro u; clear u)) | (refine is_asked ?_; (first | (refine is_spec ?_; (with_reducible refine asked _ (sp_add (by simp only [lo, hi]; omega) (by simp only [lo, hi]; omega)) ?_)) | (refine asked _ (int_app (L := (ofs l).take k) (by rw [List.length_take, ofs_len]; omega) (by omega)) ?_)); intro u; clear u) | (refine is_call ?_; refine call_auto (hFk) (lets_rfl rfl) (by exact trivial) rfl ?_; intro u; clear u))
    refine again (k + 1) ⟨by omega, by omega⟩ (by omega) ?_
    (intro u; clear u; refine ⟨rfl, rfl, EntGoal.mk ?_ ?_⟩ <;> (repeat' (first | exact trivial | (with_reducible rfl) | apply And.intro | rfl)))
    all_goals (first | rfl | (rw [ofs_take hc4]; rfl))
  obtain rfl : k = l.length := by omega
  rw [List.take_of_length_le (by rw [ofs_len]; omega)]
  have hB := tubytes_con ht
  have hRO := refof_con ht
  repeat' (first | (refine is_draw (id := 5) ?_; refine mask_start mixed rfl ?_) | (refine is_mask ?_; (first | (refine mask_take 0 (by rfl) (by show still Try.prog _ = true; decide +kernel) (by decide +kernel) ?_; intro u; clear u) | (refine mask_take 1 (by rfl) (by show still Try.prog _ = true; decide +kernel) (by decide +kernel) ?_; intro u; clear u) | (refine mask_take 2 (by rfl) (by show still Try.prog _ = true; decide +kernel) (by decide +kernel) ?_; intro u; clear u) | (refine mask_take 3 (by rfl) (by show still Try.prog _ = true; decide +kernel) (by decide +kernel) ?_; intro u; clear u) | (refine mask_take 5 (by rfl) (by show still Try.prog _ = true; decide +kernel) (by decide +kernel) ?_; intro u; clear u) | (refine mask_take 6 (by rfl) (by show still Try.prog _ = true; decide +kernel) (by decide +kernel) ?_; intro u; clear u) | (refine mask_take 8 (by rfl) (by show still Try.prog _ = true; decide +kernel) (by decide +kernel) ?_; intro u; clear u) | (refine mask_take 9 (by rfl) (by show still Try.prog _ = true; decide +kernel) (by decide +kernel) ?_; intro u; clear u) | (refine mask_take 10 (by rfl) (by show still Try.prog _ = true; decide +kernel) (by decide +kernel) ?_; intro u; clear u) | (refine mask_take 13 (by rfl) (by show still Try.prog _ = true; decide +kernel) (by decide +kernel) ?_; intro u; clear u) | (refine mask_take 14 (by rfl) (by show still Try.prog _ = true; decide +kernel) (by decide +kernel) ?_; intro u; clear u) | (refine mask_step 4 (by rfl) (by decide +kernel) ?_; intro u; clear u) | (refine mask_step 7 (by rfl) (by decide +kernel) ?_; intro u; clear u) | (refine mask_step 11 (by rfl) (by decide +kernel) ?_; intro u; clear u) | (refine mask_step 12 (by rfl) (by decide +kernel) ?_; intro u; clear u))) | (refine is_mask ?_; (refine held_start [15, 17] ?_; refine is_held ?_)) | (refine is_held ?_; (first | (refine held_load [15, 17] 15 _ (by rfl) (.head _) rfl (by decide +kernel) ?_; intro u; clear u) | (refine held_load [15, 17] 17 _ (by rfl) (.tail _ (.head _)) rfl (by decide +kernel) ?_; intro u; clear u) | (refine held_step [15, 17] 16 (by rfl) rfl (by decide +kernel) ?_; intro u; clear u))) | (refine is_kept ?_; refine Kept.mk ?_ ?_; focus (repeat' (first | exact trivial | apply And.intro | exact rfl))) | (refine is_draw (id := 3) ?_; refine mask_start mixed rfl ?_) | (refine is_mask ?_; (refine held_start [2] ?_; refine is_held ?_)) | (refine is_held ?_; (first | (refine held_load [2] 2 _ (by rfl) (.head _) rfl (by decide +kernel) ?_; intro u; clear u) | (refine held_step [2] 1 (by rfl) rfl (by decide +kernel) ?_; intro u; clear u) | (refine held_step [2] 3 (by rfl) rfl (by decide +kernel) ?_; intro u; clear u) | (refine held_step [2] 4 (by rfl) rfl (by decide +kernel) ?_; intro u; clear u))) | (refine is_call (f := 37) ?_; refine call_load32 load32 rfl rfl ?_; intro u; clear u) | (refine is_call (f := 56) ?_; refine once_done onceDone rfl (by rfl) ?_; intro u; clear u) | (refine is_split ?_; (first | (refine sp_no (by simp [minMax]; omega) ?_) | refine sp_no (by (first | exact dec_f (by omega) | exact ndec_f (by omega))) ?_) <;> (intro u; clear u)) | (refine is_range ?_; refine range_step rfl rfl ?_; intro u; clear u) | (refine is_call ?_; (first | refine call_auto (hB) (lets_rfl rfl) (by exact trivial) rfl ?_ | refine call_inline Try.func21 rfl rfl ?_ | refine call_inline Try.func38 rfl rfl ?_ | refine call_inline Try.func20 rfl rfl ?_ | refine call_inline Try.func32 rfl rfl ?_ | refine call_inline Try.func53 rfl rfl ?_ | refine call_inline Try.func70 rfl rfl ?_); intro u; clear u))
  refine loop_keep (fun q : Nat => 12 - q) (fun q => q ≤ 12) [0, 2, 3, 7, 8] (fun q => [(9, .t (.one (.v (.int .i64 q))))]) (fun q => [(21, .box [.v (.int .u8 (goB 0 ((tuB t).take q)))] 1 5), (23, .box [.v (.int .u8 (goB 0 ((tuB t).take q)))] 1 5)]) (fun _ => [(26, [], [4, 10])]) [] 0 0 (Nat.zero_le _) ?_ ?_
  · (intro u; clear u; refine ⟨rfl, rfl, EntGoal.mk ?_ ?_⟩ <;> (repeat' (first | exact trivial | (with_reducible rfl) | apply And.intro | rfl)))
  intro j hj u
  clear u
  by_cases hc5 : j < 12
  · have hl : (tuB t).length = 12 := rfl
    have ha := goB_byte (s := 0) ⟨by decide, by decide⟩ (bytes_take (tuB_bytes t) j)
    have hx := getD_byte (tuB_bytes t) j
    have hxr := xr_byte ha hx
    obtain ⟨a1, a2⟩ := ha
    obtain ⟨x1, x2⟩ := hx
    obtain ⟨y1, y2⟩ := hxr
    repeat' (first | (refine is_split ?_; refine sp_yes (by exact dec_t (by omega)) ?_ <;> (intro u; clear u)) | (refine is_asked ?_; (first | (refine is_spec ?_; (first | (refine asked (xr _ _) (sp_xor rfl (by omega) (by simp only [hi]; omega) (by omega) (by simp only [hi]; omega)) ?_) | (with_reducible refine asked _ (sp_add (by simp only [lo, hi]; omega) (by simp only [lo, hi]; omega)) ?_))) | (refine asked _ (ix_eq j (by show (0 + Int.toNat (j : Int)) * 1 = _; omega) (by omega)) ?_) | (refine asked _ (tab_get (d := 1) (m := 0) (n := 1) (c := xr (goB 0 ((tuB t).take j)) ((tuB t).getD j 0)) ⟨y1, y2⟩ (by rfl) (by show 0 + 4 + Int.toNat _ * 1 = _; omega)) ?_) | refine asked () ⟨by omega, by omega⟩ ?_); intro u; clear u) | (refine is_yield ?_; refine yield_step rfl rfl rfl rfl ?_; intro u; clear u) | (refine is_call ?_; refine call_inline Try.func59 rfl rfl ?_; intro u; clear u))
    refine again (j + 1) (by omega) (by omega) ?_
    (intro u; clear u; refine ⟨rfl, rfl, EntGoal.mk ?_ ?_⟩ <;> (repeat' (first | exact trivial | (with_reducible rfl) | apply And.intro | rfl)))
    all_goals exact (goB_succ (by rw [hl]; omega)).symm
  obtain rfl : j = 12 := by omega
  rw [show (tuB t).take 12 = tuB t from rfl]
  have hF2 := folded_con (sumT_byte t)
  repeat' (first | (refine is_held ?_; (first | (refine held_end (by decide +kernel) ?_; intro u; clear u) | (refine held_step [15, 17] 18 (by rfl) rfl (by decide +kernel) ?_; intro u; clear u) | (refine held_step [15, 17] 19 (by rfl) rfl (by decide +kernel) ?_; intro u; clear u) | (refine held_step [15, 17] 20 (by rfl) rfl (by decide +kernel) ?_; intro u; clear u) | (refine held_step [15, 17] 21 (by rfl) rfl (by decide +kernel) ?_; intro u; clear u) | (refine held_step [15, 17] 22 (by rfl) rfl (by decide +kernel) ?_; intro u; clear u) | (refine held_step [15, 17] 23 (by rfl) rfl (by decide +kernel) ?_; intro u; clear u) | (refine held_step [15, 17] 24 (by rfl) rfl (by decide +kernel) ?_; intro u; clear u) | (refine held_step [15, 17] 25 (by rfl) rfl (by decide +kernel) ?_; intro u; clear u))) | (refine is_kept ?_; refine Kept.mk ?_ ?_; focus (repeat' (first | exact trivial | apply And.intro | exact rfl))) | (refine is_held ?_; (first | (refine held_step [2] 5 (by rfl) rfl (by decide +kernel) ?_; intro u; clear u) | (refine held_step [2] 6 (by rfl) rfl (by decide +kernel) ?_; intro u; clear u))) | (refine is_call (f := 37) ?_; refine call_load32 load32 rfl rfl ?_; intro u; clear u) | (refine is_split ?_; refine sp_no (by (first | rfl | exact ndec_f (by omega))) ?_ <;> (intro u; clear u)) | (refine is_call ?_; (first | refine call_auto (hF2) (lets_rfl rfl) (by exact trivial) rfl ?_ | refine call_auto (hRO) (lets_rfl rfl) (by exact trivial) rfl ?_ | refine call_inline Try.func20 rfl rfl ?_); intro u; clear u))
  refine loop_keep (fun q : Nat => l.length - q) (fun q => q ≤ l.length) [0, 1, 2, 5, 9, 10, 14] (fun q => [(15, .t (.one (.v (.int .i64 q))))]) (fun _ => []) (fun _ => []) [] 0 0 (by omega) ?_ ?_
  · (intro u; clear u; refine ⟨rfl, rfl, EntGoal.mk ?_ ?_⟩ <;> (repeat' (first | exact trivial | (with_reducible rfl) | apply And.intro | rfl)))
  intro i hii u
  clear u
  by_cases hc6 : i < l.length
  · have hRi := refof_con (t := tuAt l i) (hw _ (by unfold tuAt; rw [List.getD_eq_getElem?_getD, List.getElem?_eq_getElem hc6]; exact List.getElem_mem _))
    repeat' (first | (refine is_split ?_; (first | (refine sp_no (by first | (simp [ofT]; done) | fail) ?_) | refine sp_yes (by exact dec_t (by omega)) ?_) <;> (intro u; clear u)) | (refine is_asked ?_; (first | (refine is_spec ?_; (with_reducible refine asked _ (sp_add (by simp only [lo, hi]; omega) (by simp only [lo, hi]; omega)) ?_)) | (refine asked _ (tu_ask l i (by show (0 + Int.toNat (i : Int)) * 4 = _; omega) (by omega)) ?_) | (refine asked _ (ofs_ix hc6 (by show (0 + Int.toNat (i : Int)) * 1 = _; omega)) ?_) | refine asked () ⟨by omega, by omega⟩ ?_); intro u; clear u) | (refine is_draw ?_; refine draw_step mixed (by kernel_rfl) ?_; intro u; clear u) | (refine is_dcall ?_; refine dcall_auto (hRi) (lets_rfl rfl) (by exact trivial) rfl ?_; intro u; clear u))
    refine again (i + 1) (by omega) (by omega) ?_
    (intro u; clear u; refine ⟨rfl, rfl, EntGoal.mk ?_ ?_⟩ <;> (repeat' (first | exact trivial | (with_reducible rfl) | apply And.intro | rfl)))
  obtain rfl : i = l.length := by omega
  have c1 := turn_con hc
  have c2 := refturn_con hc
  have c3 := unturn_con hc
  have c4 := refunturn_con hc
  have c5 := go_con hs hb (by omega) 0 b.length rfl rfl
  have c6 := refgo_con hs hb (by omega) b.length rfl
  have c7 := sum_con ht
  have c8 := refsum_con ht
  have c9 := of_con ht
  have c10 := same_con ht hu
  have c11 := refsame_con ht hu
  repeat' (first | (refine is_split ?_; (first | (refine sp_yes (beq_self_eq_true _) ?_) | refine sp_yes (by exact dec_t (by omega)) ?_ | refine sp_no (by exact dec_f (by omega)) ?_) <;> (intro u; clear u)) | (refine is_draw ?_; refine draw_step mixed (by kernel_rfl) ?_; intro u; clear u) | (refine is_dcall ?_; (first | refine dcall_auto (c1) (lets_rfl rfl) (by exact trivial) rfl ?_ | refine dcall_auto (c2) (lets_rfl rfl) (by exact trivial) rfl ?_ | refine dcall_auto (c3) (lets_rfl rfl) (by exact trivial) rfl ?_ | refine dcall_auto (c4) (lets_rfl rfl) (by exact trivial) rfl ?_ | refine dcall_auto (c5) (lets_rfl rfl) (by exact ⟨⟨_, rfl, rfl, rfl⟩, trivial⟩) rfl ?_ | refine dcall_auto (c6) (lets_rfl rfl) (by exact ⟨⟨_, rfl, rfl, rfl⟩, trivial⟩) rfl ?_ | refine dcall_auto (c7) (lets_rfl rfl) (by exact trivial) rfl ?_ | refine dcall_auto (c8) (lets_rfl rfl) (by exact trivial) rfl ?_ | refine dcall_auto (c9) (lets_rfl rfl) (by exact trivial) rfl ?_ | refine dcall_auto (hRO) (lets_rfl rfl) (by exact trivial) rfl ?_ | refine dcall_auto (c10) (lets_rfl rfl) (by exact trivial) rfl ?_ | refine dcall_auto (c11) (lets_rfl rfl) (by exact trivial) rfl ?_ | refine dcall_auto (wakes_con) (lets_rfl rfl) (by exact trivial) rfl ?_); intro u; clear u))
  all_goals (first | ((refine con_end ?_ rfl; intro u; clear u; refine ⟨rfl, rfl, EntGoal.mk ?_ ?_⟩ <;> (repeat' (first | exact trivial | (with_reducible rfl) | apply And.intro | rfl))); done))
end Go.Proofs.S08
