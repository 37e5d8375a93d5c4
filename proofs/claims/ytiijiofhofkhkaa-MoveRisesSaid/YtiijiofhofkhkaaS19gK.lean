/- Contracts of functions of the program, or a row of the seat, proved out of them. No condition beyond those that stand in each statement. -/
import Derived.Test.YtiijiofhofkhkaaS19gQ
namespace Go.Proofs.S19
open Go Go.SE
set_option maxRecDepth 100000
set_option maxHeartbeats 4000000
attribute [local irreducible] specI

def numAt (l : List Int) (off : Nat) : Nat → Int
  | 0 => 0
  | k + 1 => numAt l off k * 256 + l.getD (off + k) 0
def rowAt (b : List Int) (off : Nat) : Row := ⟨b.getD off 0, ⟨b.getD (off + 1) 0 - 1, b.getD (off + 2) 0 - 1, numAt b (off + 3) 4, numAt b (off + 7) 6⟩⟩
def tkRows (b : List Int) : Nat → List Row
  | 0 => []
  | k + 1 => tkRows b k ++ [rowAt b (13 + 13 * k)]
def tkN (b : List Int) : Nat := (b.getD 12 0).toNat
def tkRaw (b : List Int) : Sh := ⟨numAt b 0 6 - 1, numAt b 6 6, tkRows b (tkN b)⟩
def tkShort (b : List Int) : Prop := b.length < 13 ∨ b.length < 13 + 13 * tkN b
def tkOk (b : List Int) : Prop := (13 ≤ b.length ∧ b.length = 13 + 13 * tkN b) ∧ okSh (tkRaw b)
instance (b : List Int) : Decidable (tkShort b) := by unfold tkShort; infer_instance
instance (b : List Int) : Decidable (tkOk b) := by unfold tkOk; infer_instance
def tkE (b : List Int) : Int := if tkShort b then 61 else if tkOk b then 0 else 60
def tkSh (b : List Int) : Sh := if tkOk b then tkRaw b else zeroSh
theorem tkRows_len (b : List Int) : ∀ k, (tkRows b k).length = k
  | 0 => rfl
  | k + 1 => by show (tkRows b k ++ [_]).length = _; rw [List.length_append, tkRows_len b k]; rfl
theorem byte_bd {b : List Int} (hb : Bytes b) (i : Nat) : 0 ≤ b.getD i 0 ∧ b.getD i 0 ≤ 255 := by
  rw [List.getD_eq_getElem?_getD]
  by_cases h : i < b.length
  · rw [List.getElem?_eq_getElem h]; exact hb _ (List.getElem_mem h)
  · rw [List.getElem?_eq_none (by omega)]; decide
theorem numAt_bd {b : List Int} (hb : Bytes b) (off : Nat) : ∀ k : Nat, 0 ≤ numAt b off k ∧ numAt b off k < 256 ^ k
  | 0 => ⟨Int.le_refl _, by show (0 : Int) < 256 ^ 0; decide⟩
  | k + 1 => by
    have ih := numAt_bd hb off k
    have h := byte_bd hb (off + k)
    show 0 ≤ numAt b off k * 256 + b.getD (off + k) 0 ∧ numAt b off k * 256 + b.getD (off + k) 0 < 256 ^ (k + 1)
    rw [Int.pow_succ]
    omega
theorem pow5 : ∀ k, k ≤ 5 → (256 : Int) ^ k ≤ 1099511627776
  | 0, _ | 1, _ | 2, _ | 3, _ | 4, _ | 5, _ => by decide
  | k + 6, h => by omega
theorem pow6 : ∀ k, k ≤ 6 → (256 : Int) ^ k ≤ 281474976710656
  | 0, _ | 1, _ | 2, _ | 3, _ | 4, _ | 5, _ | 6, _ => by decide
  | k + 7, h => by omega
theorem numAt_bd5 {b : List Int} (hb : Bytes b) (off : Nat) {k : Nat} (hk : k ≤ 5) : 0 ≤ numAt b off k ∧ numAt b off k < 1099511627776 := by
  have h := numAt_bd hb off k
  have h2 := pow5 k hk
  omega
theorem numAt_bd6 {b : List Int} (hb : Bytes b) (off : Nat) {k : Nat} (hk : k ≤ 6) : 0 ≤ numAt b off k ∧ numAt b off k < 281474976710656 := by
  have h := numAt_bd hb off k
  have h2 := pow6 k hk
  omega

theorem reftake_num {b : List Int} (hb : Bytes b) {off n : Nat} (h : off + n ≤ b.length) (hn : n ≤ 6) : CallCon Try.prog 78 [.one (.sl 0 off n)] [.row (ints .u8 b) 1 5 false] (.t (.one (.v (.int .i64 (numAt b off n))))) [] := by
  refine con_of_call2 rfl ?_
  refine call_inline Try.func78 rfl rfl ?_
  intro _
  repeat' fail
  refine loop_keep (fun k : Nat => n - k) (fun k => k ≤ n) [0] (fun k => [(4, .t (.one (.v (.int .i64 k)))), (3, .t (.one (.v (.int .i64 (numAt b off k)))))]) (fun _ => []) (fun _ => []) [] 0 0 (by omega) ?_ ?_
  · (intro u; clear u; refine ⟨rfl, rfl, EntGoal.mk ?_ ?_⟩ <;> (repeat' (first | exact trivial | (with_reducible rfl) | apply And.intro | rfl)))
  intro k hk u
  clear u
  by_cases hc : k < n
  · have h5 := numAt_bd5 hb off (k := k) (by omega)
    have hx := byte_bd hb (off + k)
    repeat' (first | (refine is_split ?_; refine sp_yes (by exact dec_t (by omega)) ?_ <;> (intro u; clear u)) | (refine is_asked ?_; (first | (refine is_spec ?_; (first | (with_reducible refine asked _ (sp_add (by simp only [lo, hi]; omega) (by simp only [lo, hi]; omega)) ?_) | (with_reducible refine asked _ (sp_mul (by simp only [lo, hi]; omega) (by simp only [lo, hi]; omega)) ?_))) | (refine is_wrap ?_; refine asked _ (wrap_lohi (by simp only [lo, hi]; omega) (by simp only [lo, hi]; omega)) ?_) | (refine asked _ (ix_eq (off + k) (by show (off + Int.toNat (k : Int)) * 1 = _; omega) (by omega)) ?_) | refine asked () ⟨by omega, by omega⟩ ?_); intro u; clear u))
    refine again (k + 1) (by omega) (by omega) ?_
    (intro u; clear u; refine ⟨rfl, rfl, EntGoal.mk ?_ ?_⟩ <;> (repeat' (first | exact trivial | (with_reducible rfl) | apply And.intro | rfl)))
  · obtain rfl : k = n := by omega
    repeat' (refine is_split ?_; refine sp_no (by exact dec_f (by omega)) ?_ <;> (intro u; clear u))
    (refine con_end ?_ rfl; intro u; clear u; refine ⟨rfl, rfl, EntGoal.mk ?_ ?_⟩ <;> (repeat' (first | exact trivial | (with_reducible rfl) | apply And.intro | rfl)))

theorem slice_at {l u : Int} {len : Nat} (p q : Nat) (h1 : l = p) (h2 : u = q) (h3 : p ≤ q) (h4 : q ≤ len) : l = (((p, q) : Nat × Nat).1 : Int) ∧ u = (((p, q) : Nat × Nat).2 : Int) ∧ ((p, q) : Nat × Nat).1 ≤ ((p, q) : Nat × Nat).2 ∧ ((p, q) : Nat × Nat).2 ≤ len := ⟨h1, h2, h3, h4⟩
theorem take_rows_app (m : List Row) (r : Row) (h : m.length ≤ 1000000) : rowsV m ++ rowV r = rowsV (m ++ [r]) ∧ (rowsV m).length = m.length * 5 ∧ (rowV r).length = 1 * 5 ∧ m.length + 1 ≤ maxLen ∧ (m.length + 1) * 40 ≤ 140737488355328 := row_app m r h
theorem reftake_con {b : List Int} (hb : Bytes b) (hl : b.length ≤ 100000) : CallCon Try.prog 46 [.one (.sl 0 0 b.length)] [.row (ints .u8 b) 1 5 false] (.tup [shT 0 (tkSh b), .one (.v (.int .i64 (tkE b)))]) [.row (rowsV (tkSh b).rows) 5 101 true] := by
  have h12 := byte_bd hb 12
  have hN : ((tkN b : Nat) : Int) = b.getD 12 0 := by unfold tkN; omega
  by_cases hs : tkShort b
  · have hk : ¬ tkOk b := by unfold tkShort at hs; unfold tkOk; omega
    rw [show tkSh b = zeroSh by unfold tkSh; rw [if_neg hk], show tkE b = 61 by unfold tkE; rw [if_pos hs]]
    unfold tkShort at hs
    refine con_of_call2 rfl ?_
    refine call_inline Try.func46 rfl rfl ?_
    intro _
    repeat' (first | (refine is_split ?_; (first | refine sp_yes (by exact dec_t (by omega)) ?_ | refine sp_dec (fun g => ?_) (fun g => ?_)) <;> (intro u; clear u)) | (refine is_asked ?_; (first | (refine is_spec ?_; (first | (with_reducible refine asked _ (sp_add (by simp only [lo, hi]; omega) (by simp only [lo, hi]; omega)) ?_) | (with_reducible refine asked _ (sp_mul (by simp only [lo, hi]; omega) (by simp only [lo, hi]; omega)) ?_))) | (refine is_wrap ?_; refine asked _ (wrap_lohi (by simp only [lo, hi]; omega) (by simp only [lo, hi]; omega)) ?_) | (refine asked _ (ix_eq 12 (by rfl) (by omega)) ?_) | refine asked () ⟨by omega, by omega⟩ ?_); intro u; clear u))
    all_goals (refine con_end ?_ rfl; intro u; clear u; refine ⟨rfl, rfl, EntGoal.mk ?_ ?_⟩ <;> (repeat' (first | exact trivial | (with_reducible rfl) | apply And.intro | rfl)))
  have hs' : 13 ≤ b.length ∧ 13 + 13 * tkN b ≤ b.length := by unfold tkShort at hs; omega
  by_cases hf : 13 + 13 * tkN b < b.length
  · have hk : ¬ tkOk b := by unfold tkOk; omega
    rw [show tkSh b = zeroSh by unfold tkSh; rw [if_neg hk], show tkE b = 60 by unfold tkE; rw [if_neg hs, if_neg hk]]
    refine con_of_call2 rfl ?_
    refine call_inline Try.func46 rfl rfl ?_
    intro _
    repeat' (first | (refine is_split ?_; (first | refine sp_yes (by exact dec_t (by omega)) ?_ | refine sp_no (by exact dec_f (by omega)) ?_) <;> (intro u; clear u)) | (refine is_asked ?_; (first | (refine is_spec ?_; (first | (with_reducible refine asked _ (sp_add (by simp only [lo, hi]; omega) (by simp only [lo, hi]; omega)) ?_) | (with_reducible refine asked _ (sp_mul (by simp only [lo, hi]; omega) (by simp only [lo, hi]; omega)) ?_))) | (refine is_wrap ?_; refine asked _ (wrap_lohi (by simp only [lo, hi]; omega) (by simp only [lo, hi]; omega)) ?_) | (refine asked _ (ix_eq 12 (by rfl) (by omega)) ?_) | refine asked () ⟨by omega, by omega⟩ ?_); intro u; clear u))
    all_goals (refine con_end ?_ rfl; intro u; clear u; refine ⟨rfl, rfl, EntGoal.mk ?_ ?_⟩ <;> (repeat' (first | exact trivial | (with_reducible rfl) | apply And.intro | rfl)))
  have hlen : b.length = 13 + 13 * tkN b := by omega
  have e1 := reftake_num hb (off := 0) (n := 6) (by omega) (by omega)
  have e2 := reftake_num hb (off := 6) (n := 6) (by omega) (by omega)
  have b1 := numAt_bd6 hb 0 (k := 6) (by omega)
  refine con_of_call2 rfl ?_
  refine call_inline Try.func46 rfl rfl ?_
  intro _
  repeat' (first | (refine is_split ?_; refine sp_no (by exact dec_f (by omega)) ?_ <;> (intro u; clear u)) | (refine is_asked ?_; (first | (refine is_spec ?_; (first | (with_reducible refine asked _ (sp_add (by simp only [lo, hi]; omega) (by simp only [lo, hi]; omega)) ?_) | (with_reducible refine asked _ (sp_sub (by simp only [lo, hi]; omega) (by simp only [lo, hi]; omega)) ?_) | (with_reducible refine asked _ (sp_mul (by simp only [lo, hi]; omega) (by simp only [lo, hi]; omega)) ?_))) | (refine is_wrap ?_; refine asked _ (wrap_lohi (by simp only [lo, hi]; omega) (by simp only [lo, hi]; omega)) ?_) | (refine asked _ (ix_eq 12 (by rfl) (by omega)) ?_) | refine asked _ (slice_ask (by omega) (by omega) (by omega)) ?_ | refine asked () ⟨by omega, by omega⟩ ?_); intro u; clear u) | (refine is_draw ?_; refine draw_step mixed (by kernel_rfl) ?_; intro u; clear u) | (refine is_dcall ?_; (first | refine dcall_auto (e1) (lets_rfl rfl) (by exact ⟨⟨_, rfl, rfl, rfl⟩, trivial⟩) rfl ?_ | refine dcall_auto (e2) (lets_rfl rfl) (by exact ⟨⟨_, rfl, rfl, rfl⟩, trivial⟩) rfl ?_); intro u; clear u))
  refine loop_keep (fun k : Nat => tkN b - k) (fun k => k ≤ tkN b) [0, 2, 4] (fun k => [(5, .t (.one (.v (.int .i64 (13 + 13 * (k : Int))))))]) (fun k => [(2, .box [.v (.int .i64 (numAt b 0 6 - 1)), .v (.int .i64 (numAt b 6 6)), .sl 3 0 (tkRows b k).length] 1 24), (3, .row (rowsV (tkRows b k)) 5 101 true)]) (fun _ => []) [] 1 0 (by omega) ?_ ?_
  · (intro u; clear u; refine ⟨rfl, rfl, EntGoal.mk ?_ ?_⟩ <;> (repeat' (first | exact trivial | (with_reducible rfl) | apply And.intro | rfl)))
  intro k hk u
  clear u
  have hkl := tkRows_len b k
  by_cases hc : k < tkN b
  · have e3 := reftake_num hb (off := 0 + (13 + 13 * k) + 3) (n := 4) (by omega) (by omega)
    have e4 := reftake_num hb (off := 0 + (13 + 13 * k) + 7) (n := 6) (by omega) (by omega)
    rw [show numAt b (0 + (13 + 13 * k) + 3) 4 = numAt b (13 + 13 * k + 3) 4 by rw [Nat.zero_add]] at e3
    rw [show numAt b (0 + (13 + 13 * k) + 7) 6 = numAt b (13 + 13 * k + 7) 6 by rw [Nat.zero_add]] at e4
    have x0 := byte_bd hb (13 + 13 * k)
    have x1 := byte_bd hb (13 + 13 * k + 1)
    have x2 := byte_bd hb (13 + 13 * k + 2)
    repeat' (first | (refine is_split ?_; refine sp_yes (by exact dec_t (by omega)) ?_ <;> (intro u; clear u)) | (refine is_asked ?_; (first | (refine is_spec ?_; (first | (with_reducible refine asked _ (sp_add (by simp only [lo, hi]; omega) (by simp only [lo, hi]; omega)) ?_) | (with_reducible refine asked _ (sp_sub (by simp only [lo, hi]; omega) (by simp only [lo, hi]; omega)) ?_))) | (refine is_wrap ?_; refine asked _ (wrap_lohi (by simp only [lo, hi]; omega) (by simp only [lo, hi]; omega)) ?_) | (refine asked _ (slice_at (13 + 13 * k) (13 + 13 * k + 13) (by omega) (by omega) (by omega) (by omega)) ?_) | (refine asked _ (slice_at (3) (7) (by omega) (by omega) (by omega) (by omega)) ?_) | (refine asked _ (slice_at (7) (13) (by omega) (by omega) (by omega) (by omega)) ?_) | (refine asked _ (ix_eq (13 + 13 * k) (by show (_ + Int.toNat 0) * 1 = _; omega) (by omega)) ?_) | (refine asked _ (ix_eq (13 + 13 * k + 1) (by show (_ + Int.toNat 1) * 1 = _; omega) (by omega)) ?_) | (refine asked _ (ix_eq (13 + 13 * k + 2) (by show (_ + Int.toNat 2) * 1 = _; omega) (by omega)) ?_) | (refine asked (rowsV (tkRows b k ++ [rowAt b (13 + 13 * k)])) (row_app (tkRows b k) (rowAt b (13 + 13 * k)) (by omega)) ?_) | refine asked () ⟨by omega, by omega⟩ ?_); intro u; clear u) | (refine is_draw ?_; refine draw_step mixed (by kernel_rfl) ?_; intro u; clear u) | (refine is_dcall ?_; (first | refine dcall_auto (e3) (lets_rfl rfl) (by exact ⟨⟨_, rfl, rfl, rfl⟩, trivial⟩) rfl ?_ | refine dcall_auto (e4) (lets_rfl rfl) (by exact ⟨⟨_, rfl, rfl, rfl⟩, trivial⟩) rfl ?_); intro u; clear u))
    refine again (k + 1) (by omega) (by omega) ?_
    (intro u; clear u; refine ⟨rfl, rfl, EntGoal.mk ?_ ?_⟩ <;> (repeat' (first | exact trivial | (with_reducible rfl) | apply And.intro | rfl)))
    all_goals first | omega | (simp [tkRows]; done) | (simp [tkRows]; omega)
  obtain rfl : k = tkN b := by omega
  have hR := shref_con (tkRaw b) (by show (tkRows b (tkN b)).length ≤ _; omega)
  by_cases hok : okSh (tkRaw b)
  · have hR2 := con_yes hR hok
    have hk2 : tkOk b := ⟨⟨by omega, hlen⟩, hok⟩
    rw [show tkSh b = tkRaw b by unfold tkSh; rw [if_pos hk2], show tkE b = 0 by unfold tkE; rw [if_neg hs, if_pos hk2]]
    repeat' (first | (refine is_split ?_; refine sp_no (by exact dec_f (by omega)) ?_ <;> (intro u; clear u)) | (refine is_call ?_; refine call_auto (hR2) (lets_rfl rfl) (by exact ⟨⟨_, rfl, rfl, rfl⟩, trivial⟩) rfl ?_; intro u; clear u))
    (refine con_end ?_ rfl; intro u; clear u; refine ⟨rfl, rfl, EntGoal.mk ?_ ?_⟩ <;> (repeat' (first | exact trivial | (with_reducible rfl) | apply And.intro | rfl)))
  · have hR2 := con_no hR hok
    have hk2 : ¬ tkOk b := fun h => hok h.2
    rw [show tkSh b = zeroSh by unfold tkSh; rw [if_neg hk2], show tkE b = 60 by unfold tkE; rw [if_neg hs, if_neg hk2]]
    repeat' (first | (refine is_split ?_; refine sp_no (by exact dec_f (by omega)) ?_ <;> (intro u; clear u)) | (refine is_call ?_; refine call_auto (hR2) (lets_rfl rfl) (by exact ⟨⟨_, rfl, rfl, rfl⟩, trivial⟩) rfl ?_; intro u; clear u))
    (refine con_end ?_ rfl; intro u; clear u; refine ⟨rfl, rfl, EntGoal.mk ?_ ?_⟩ <;> (repeat' (first | exact trivial | (with_reducible rfl) | apply And.intro | rfl)))

theorem num_lit6 (b : List Int) (off : Nat) : numAt b off 6 = ((((b.getD off 0 * 256 + b.getD (off + 1) 0) * 256 + b.getD (off + 2) 0) * 256 + b.getD (off + 3) 0) * 256 + b.getD (off + 4) 0) * 256 + b.getD (off + 5) 0 := by
  simp [numAt]
theorem num_lit4 (b : List Int) (off : Nat) : numAt b off 4 = ((b.getD off 0 * 256 + b.getD (off + 1) 0) * 256 + b.getD (off + 2) 0) * 256 + b.getD (off + 3) 0 := by
  simp [numAt]
theorem take_con {b : List Int} (hb : Bytes b) (hl : b.length ≤ 100000) : CallCon Try.prog 44 [.one (.sl 0 0 b.length)] [.row (ints .u8 b) 1 5 false] (.tup [shT 0 (tkSh b), .one (.v (.int .i64 (tkE b)))]) [.row (rowsV (tkSh b).rows) 5 101 true] := by
  have h12 := byte_bd hb 12
  have hN : ((tkN b : Nat) : Int) = b.getD 12 0 := by unfold tkN; omega
  by_cases hs : tkShort b
  · have hk : ¬ tkOk b := by unfold tkShort at hs; unfold tkOk; omega
    rw [show tkSh b = zeroSh by unfold tkSh; rw [if_neg hk], show tkE b = 61 by unfold tkE; rw [if_pos hs]]
    unfold tkShort at hs
    refine con_of_call2 rfl ?_
    refine call_inline Try.func44 rfl rfl ?_
    intro _
    repeat' (first | (refine is_split ?_; (first | refine sp_yes (by exact dec_t (by omega)) ?_ | refine sp_dec (fun g => ?_) (fun g => ?_)) <;> (intro u; clear u)) | (refine is_asked ?_; (first | (refine is_spec ?_; (first | (with_reducible refine asked _ (sp_add (by simp only [lo, hi]; omega) (by simp only [lo, hi]; omega)) ?_) | (with_reducible refine asked _ (sp_mul (by simp only [lo, hi]; omega) (by simp only [lo, hi]; omega)) ?_))) | (refine is_wrap ?_; refine asked _ (wrap_lohi (by simp only [lo, hi]; omega) (by simp only [lo, hi]; omega)) ?_) | (refine asked _ (ix_eq 12 (by rfl) (by omega)) ?_) | refine asked () ⟨by omega, by omega⟩ ?_); intro u; clear u) | (refine is_draw ?_; refine draw_step mixed (by kernel_rfl) ?_; intro u; clear u) | (refine is_scope ?_; refine scope_step ?_; intro u; clear u))
    all_goals (refine con_end ?_ rfl; intro u; clear u; refine ⟨rfl, rfl, EntGoal.mk ?_ ?_⟩ <;> (repeat' (first | exact trivial | (with_reducible rfl) | apply And.intro | rfl)))
  have hs' : 13 ≤ b.length ∧ 13 + 13 * tkN b ≤ b.length := by unfold tkShort at hs; omega
  by_cases hf : 13 + 13 * tkN b < b.length
  · have hk : ¬ tkOk b := by unfold tkOk; omega
    rw [show tkSh b = zeroSh by unfold tkSh; rw [if_neg hk], show tkE b = 60 by unfold tkE; rw [if_neg hs, if_neg hk]]
    refine con_of_call2 rfl ?_
    refine call_inline Try.func44 rfl rfl ?_
    intro _
    repeat' (first | (refine is_split ?_; (first | refine sp_yes (by exact dec_t (by omega)) ?_ | refine sp_no (by exact dec_f (by omega)) ?_) <;> (intro u; clear u)) | (refine is_asked ?_; (first | (refine is_spec ?_; (first | (with_reducible refine asked _ (sp_add (by simp only [lo, hi]; omega) (by simp only [lo, hi]; omega)) ?_) | (with_reducible refine asked _ (sp_mul (by simp only [lo, hi]; omega) (by simp only [lo, hi]; omega)) ?_))) | (refine is_wrap ?_; refine asked _ (wrap_lohi (by simp only [lo, hi]; omega) (by simp only [lo, hi]; omega)) ?_) | (refine asked _ (ix_eq 12 (by rfl) (by omega)) ?_) | refine asked () ⟨by omega, by omega⟩ ?_); intro u; clear u) | (refine is_draw ?_; refine draw_step mixed (by kernel_rfl) ?_; intro u; clear u) | (refine is_scope ?_; refine scope_step ?_; intro u; clear u))
    all_goals (refine con_end ?_ rfl; intro u; clear u; refine ⟨rfl, rfl, EntGoal.mk ?_ ?_⟩ <;> (repeat' (first | exact trivial | (with_reducible rfl) | apply And.intro | rfl)))
  have hlen : b.length = 13 + 13 * tkN b := by omega
  have hd := byte_bd hb
  have y0 := hd 0
  have y1 := hd 1
  have y2 := hd 2
  have y3 := hd 3
  have y4 := hd 4
  have y5 := hd 5
  have y6 := hd 6
  have y7 := hd 7
  have y8 := hd 8
  have y9 := hd 9
  have y10 := hd 10
  have y11 := hd 11
  refine con_of_call2 rfl ?_
  refine call_inline Try.func44 rfl rfl ?_
  intro _
  repeat' (first | (refine is_loop (c := .seq (.region 2 _ _) _) ?_; refine loop_step ?_; intro u; clear u) | (refine is_split ?_; (first | refine sp_yes (by rfl) ?_ | refine sp_no (by (first | rfl | exact dec_f (by omega))) ?_) <;> (intro u; clear u)) | (refine is_asked ?_; (first | (refine is_spec ?_; (first | (with_reducible refine asked _ (sp_add (by simp only [lo, hi]; omega) (by simp only [lo, hi]; omega)) ?_) | (with_reducible refine asked _ (sp_sub (by simp only [lo, hi]; omega) (by simp only [lo, hi]; omega)) ?_) | (with_reducible refine asked _ (sp_mul (by simp only [lo, hi]; omega) (by simp only [lo, hi]; omega)) ?_) | (refine is_op (op := .shl) ?_; refine asked _ (sp_shlL 8 256 (by decide) (by rfl) (by decide) (by simp only [lo, hi]; omega) (by simp only [lo, hi]; omega)) ?_) | (with_reducible refine asked _ (sp_or_zero (by omega) (by simp only [lo, hi]; omega)) ?_) | (with_reducible refine asked _ (sp_or 8 (by omega) (by simp only [lo, hi]; omega) (by omega) (by omega) (by omega) (by simp only [lo, hi]; omega)) ?_))) | (refine is_wrap ?_; refine asked _ (wrap_lohi (by simp only [lo, hi]; omega) (by simp only [lo, hi]; omega)) ?_) | (refine asked _ (ix_eq 12 (by rfl) (by omega)) ?_) | (refine asked _ (ix_eq 0 (by rfl) (by omega)) ?_) | (refine asked _ (ix_eq 1 (by rfl) (by omega)) ?_) | (refine asked _ (ix_eq 2 (by rfl) (by omega)) ?_) | (refine asked _ (ix_eq 3 (by rfl) (by omega)) ?_) | (refine asked _ (ix_eq 4 (by rfl) (by omega)) ?_) | (refine asked _ (ix_eq 5 (by rfl) (by omega)) ?_) | (refine asked _ (ix_eq 6 (by rfl) (by omega)) ?_) | (refine asked _ (ix_eq 7 (by rfl) (by omega)) ?_) | (refine asked _ (ix_eq 8 (by rfl) (by omega)) ?_) | (refine asked _ (ix_eq 9 (by rfl) (by omega)) ?_) | (refine asked _ (ix_eq 10 (by rfl) (by omega)) ?_) | (refine asked _ (ix_eq 11 (by rfl) (by omega)) ?_) | refine asked _ (slice_ask (by omega) (by omega) (by omega)) ?_ | refine asked () ⟨by omega, by omega⟩ ?_); intro u; clear u) | (refine is_draw ?_; refine draw_step mixed (by kernel_rfl) ?_; intro u; clear u) | (refine is_scope ?_; refine scope_step ?_; intro u; clear u) | (refine is_call ?_; refine call_inline Try.func77 rfl rfl ?_; intro u; clear u))
  clear y0 y1 y2 y3 y4 y5 y6 y7 y8 y9 y10 y11
  refine loop_keep (fun k : Nat => tkN b - k) (fun k => k ≤ tkN b) [2, 3, 4, 38] (fun k => [(39, .t (.one (.v (.int .i64 k))))]) (fun k => [(1, .box [.sl 0 (13 + 13 * k) (b.length - (13 + 13 * k))] 1 27), (2, .box [.v (.int .i64 (numAt b 0 6 - 1)), .v (.int .i64 (numAt b 6 6)), .sl 3 0 (tkRows b k).length] 1 24), (3, .row (rowsV (tkRows b k)) 5 101 true)]) (fun _ => []) [] 1 0 (by omega) ?_ ?_
  · (intro u; clear u; refine ⟨rfl, rfl, EntGoal.mk ?_ ?_⟩ <;> (repeat' (first | exact trivial | (with_reducible rfl) | apply And.intro | rfl)))
    all_goals first | (rw [num_lit6]; done) | (rw [num_lit6]; omega) | (simp only; omega)
  intro k hk u
  clear u
  have hkl := tkRows_len b k
  by_cases hc : k < tkN b
  · have y0 := hd (13 + 13 * k)
    have y1 := hd (13 + 13 * k + 1)
    have y2 := hd (13 + 13 * k + 2)
    have y3 := hd (13 + 13 * k + 3)
    have y4 := hd (13 + 13 * k + 4)
    have y5 := hd (13 + 13 * k + 5)
    have y6 := hd (13 + 13 * k + 6)
    have y7 := hd (13 + 13 * k + 7)
    have y8 := hd (13 + 13 * k + 8)
    have y9 := hd (13 + 13 * k + 9)
    have y10 := hd (13 + 13 * k + 10)
    have y11 := hd (13 + 13 * k + 11)
    have y12 := hd (13 + 13 * k + 12)
    repeat' (first | (refine is_loop (c := .seq (.region 2 _ _) _) ?_; refine loop_step ?_; intro u; clear u) | (refine is_split ?_; (first | refine sp_yes (by (first | rfl | exact dec_t (by omega))) ?_ | refine sp_no (by rfl) ?_) <;> (intro u; clear u)) | (refine is_asked ?_; (first | (refine is_spec ?_; (first | (with_reducible refine asked _ (sp_add (by simp only [lo, hi]; omega) (by simp only [lo, hi]; omega)) ?_) | (with_reducible refine asked _ (sp_sub (by simp only [lo, hi]; omega) (by simp only [lo, hi]; omega)) ?_) | (refine is_op (op := .shl) ?_; refine asked _ (sp_shlL 8 256 (by decide) (by rfl) (by decide) (by simp only [lo, hi]; omega) (by simp only [lo, hi]; omega)) ?_) | (with_reducible refine asked _ (sp_or_zero (by omega) (by simp only [lo, hi]; omega)) ?_) | (with_reducible refine asked _ (sp_or 8 (by omega) (by simp only [lo, hi]; omega) (by omega) (by omega) (by omega) (by simp only [lo, hi]; omega)) ?_))) | (refine is_wrap ?_; refine asked _ (wrap_lohi (by simp only [lo, hi]; omega) (by simp only [lo, hi]; omega)) ?_) | (refine asked _ (ix_eq (13 + 13 * k) (by simp only; omega) (by omega)) ?_) | (refine asked _ (ix_eq (13 + 13 * k + 1) (by simp only; omega) (by omega)) ?_) | (refine asked _ (ix_eq (13 + 13 * k + 2) (by simp only; omega) (by omega)) ?_) | (refine asked _ (ix_eq (13 + 13 * k + 3) (by simp only; omega) (by omega)) ?_) | (refine asked _ (ix_eq (13 + 13 * k + 4) (by simp only; omega) (by omega)) ?_) | (refine asked _ (ix_eq (13 + 13 * k + 5) (by simp only; omega) (by omega)) ?_) | (refine asked _ (ix_eq (13 + 13 * k + 6) (by simp only; omega) (by omega)) ?_) | (refine asked _ (ix_eq (13 + 13 * k + 7) (by simp only; omega) (by omega)) ?_) | (refine asked _ (ix_eq (13 + 13 * k + 8) (by simp only; omega) (by omega)) ?_) | (refine asked _ (ix_eq (13 + 13 * k + 9) (by simp only; omega) (by omega)) ?_) | (refine asked _ (ix_eq (13 + 13 * k + 10) (by simp only; omega) (by omega)) ?_) | (refine asked _ (ix_eq (13 + 13 * k + 11) (by simp only; omega) (by omega)) ?_) | (refine asked _ (ix_eq (13 + 13 * k + 12) (by simp only; omega) (by omega)) ?_) | (refine asked _ (row_app _ (Row.mk _ (Ent.mk _ _ _ _)) (by omega)) ?_) | refine asked _ (slice_ask (by omega) (by omega) (by omega)) ?_ | refine asked () ⟨by omega, by omega⟩ ?_); intro u; clear u) | (refine is_call ?_; refine call_inline Try.func77 rfl rfl ?_; intro u; clear u))
    refine again (k + 1) (by omega) (by omega) ?_
    (intro u; clear u; refine ⟨rfl, rfl, EntGoal.mk ?_ ?_⟩ <;> (repeat' (first | exact trivial | (with_reducible rfl) | apply And.intro | rfl)))
    all_goals first | (simp only; omega) | omega | (simp [tkRows]; done) | (show rowsV (_ ++ [Row.mk (b.getD (13 + 13 * k) 0) ⟨_, _, _, _⟩]) = rowsV (_ ++ [Row.mk _ ⟨_, _, numAt b (13 + 13 * k + 3) 4, numAt b (13 + 13 * k + 7) 6⟩]); rw [num_lit4, num_lit6])
  obtain rfl : k = tkN b := by omega
  have hR := shright_con (tkRaw b) (by show (tkRows b (tkN b)).length ≤ _; omega)
  by_cases hok : okSh (tkRaw b)
  · have hR2 := con_yes hR hok
    have hk2 : tkOk b := ⟨⟨by omega, hlen⟩, hok⟩
    rw [show tkSh b = tkRaw b by unfold tkSh; rw [if_pos hk2], show tkE b = 0 by unfold tkE; rw [if_neg hs, if_pos hk2]]
    repeat' (first | (refine is_split ?_; refine sp_no (by exact dec_f (by omega)) ?_ <;> (intro u; clear u)) | (refine is_call ?_; refine call_auto (hR2) (lets_rfl rfl) (by exact ⟨⟨_, rfl, rfl, rfl⟩, trivial⟩) rfl ?_; intro u; clear u))
    (refine con_end ?_ rfl; intro u; clear u; refine ⟨rfl, rfl, EntGoal.mk ?_ ?_⟩ <;> (repeat' (first | exact trivial | (with_reducible rfl) | apply And.intro | rfl)))
  · have hR2 := con_no hR hok
    have hk2 : ¬ tkOk b := fun h => hok h.2
    rw [show tkSh b = zeroSh by unfold tkSh; rw [if_neg hk2], show tkE b = 60 by unfold tkE; rw [if_neg hs, if_neg hk2]]
    repeat' (first | (refine is_split ?_; refine sp_no (by exact dec_f (by omega)) ?_ <;> (intro u; clear u)) | (refine is_call ?_; refine call_auto (hR2) (lets_rfl rfl) (by exact ⟨⟨_, rfl, rfl, rfl⟩, trivial⟩) rfl ?_; intro u; clear u))
    (refine con_end ?_ rfl; intro u; clear u; refine ⟨rfl, rfl, EntGoal.mk ?_ ?_⟩ <;> (repeat' (first | exact trivial | (with_reducible rfl) | apply And.intro | rfl)))
