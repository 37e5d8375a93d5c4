/- Contracts of functions of the program, or a row of the seat, proved out of them. No condition beyond those that stand in each statement. -/
import Derived.Test.YtooempepoejmhaaP5H
namespace Go.Proofs.P5
open Go Go.SE
set_option maxRecDepth 100000
set_option maxHeartbeats 4000000
attribute [local irreducible] specI

theorem same40_con {l r : List Int} (hb : ∀ x ∈ l, 0 ≤ x ∧ x ≤ 255) (hb2 : ∀ x ∈ r, 0 ≤ x ∧ x ≤ 255) (hl : l.length ≤ 4000) (hr : (l.drop 40).length = r.length) : CallCon Try.prog 13 [.one (.sl 0 (0 + 40) (l.length - 40)), .one (.sl 1 0 r.length)] [.row (ints .u8 l) 1 5 false, .row (ints .u8 r) 1 5 false] (.t (.one (.b (l.drop 40 = r)))) [] := by
  have h1 : (List.drop ((0 + 40) * 1) (ints .u8 l)).take ((l.length - 40) * 1) = ints .u8 (l.drop 40) := by
    rw [Nat.mul_one, Nat.mul_one, P2.ints_drop]
    rw [List.take_of_length_le (by rw [ints_length, List.length_drop]; exact Nat.le_refl _)]
  refine con_of_call2 rfl ?_
  refine call_inline Try.func13 rfl rfl ?_
  intro _
  repeat' (refine is_asked ?_; (first | (refine asked _ (tostr_ask h1 (by rw [List.length_drop])) ?_) | (refine asked _ (tostr_ask (take_ints .u8 r) rfl) ?_)); intro u; clear u)
  rw [bytes_beq (fun x hx => hb x (List.mem_of_mem_drop hx)) hb2]
  (refine con_end ?_ rfl; intro u; clear u; refine ⟨rfl, rfl, EntGoal.mk ?_ ?_⟩ <;> (repeat' (first | exact trivial | (with_reducible rfl) | apply And.intro | rfl)))
theorem back_con {t : Tu} {f bit : Int} {d : List Int} (ht : t.Wf) (hf : 0 ≤ f ∧ f ≤ 255) (hd : ∀ x ∈ d, 0 ≤ x ∧ x ≤ 255) (hbit : -9223372036854775808 ≤ bit ∧ bit ≤ 9223372036854775807) :
    CallCon Try.prog 4 [tuT t, .one (.v (.int .u8 f)), .one (.sl 0 0 d.length), .one (.v (.int .i64 bit))] [.row (ints .u8 d) 1 5 false] (.t (.one (.v (.bool true)))) [] := by
  by_cases h : d.length ≤ 3000
  rotate_left
  · refine con_of_call2 rfl ?_
    refine call_inline Try.func4 rfl rfl ?_
    intro _
    repeat' (first | (refine is_split ?_; refine sp_yes (by exact dec_t (by omega)) ?_ <;> (intro u; clear u)) | (refine is_call ?_; refine call_auto (wakes_con) (lets_rfl rfl) (by exact trivial) rfl ?_; intro u; clear u))
    all_goals (refine con_end ?_ rfl; intro u; clear u; refine ⟨rfl, rfl, EntGoal.mk ?_ ?_⟩ <;> (repeat' (first | exact trivial | (with_reducible rfl) | apply And.intro | rfl)))
  have hbb := make_bytes ht hf hd h
  have hlen := make_len (t := t) (f := f) (d := d)
  have hM := make_con ht hf hd h
  have hP := parse_con hbb (by omega)
  rw [(make_back ht hf hd h).1, (make_back ht hf hd h).2] at hP
  simp only [pkT] at hP
  have hS := con_yes (P3.same_con hbb (by omega) hbb (by omega)) rfl
  have h40 := con_yes (same40_con hbb hd (by omega) (by rw [make_drop])) (make_drop t f d)
  have hbad := fun i x => @make_bad t f d i x ht hf hd h
  generalize makeL t f d = L at *
  obtain ⟨m, hm⟩ : ∃ m : Int, m = 8 * (L.length : Int) - 8 := ⟨_, rfl⟩
  obtain ⟨j1, hj1⟩ : ∃ j : Int, bit.tmod m = j := ⟨_, rfl⟩
  obtain ⟨j0, hj0⟩ : ∃ j2 : Int, (j1 + m).tmod m = j2 := ⟨_, rfl⟩
  have b1 := P2.tmod_bd (x := bit) (m := m) (by omega)
  rw [hj1] at b1
  have b2 := P2.tmod_nn (x := j1 + m) (m := m) (by omega) (by omega)
  rw [hj0] at b2
  have hidx : ((8 + j0) / 8).toNat < L.length := by omega
  have hg := P2.getD_bd hbb (by decide) ((8 + j0) / 8).toNat
  have hv := P2.bitV_bd ((8 + j0) % 8)
  have f1 := P2.flipV_bd hg (y := P2.bitV ((8 + j0) % 8)) (by omega)
  have f2 := P2.flipV_ne hg hv
  obtain ⟨hE, hS0⟩ := hbad ((8 + j0) / 8).toNat _ (by omega) hidx f1 f2
  have hY := parse_con (P2.mem_set (i := ((8 + j0) / 8).toNat) hbb f1) (by rw [List.length_set]; omega)
  rw [hS0, List.length_set, ← Nat.zero_add L.length] at hY
  have hset := P2.setVals_set .u8 L ((8 + j0) / 8).toNat (P2.flipV (L.getD ((8 + j0) / 8).toNat 0) (P2.bitV ((8 + j0) % 8))) hidx
  have hvw := P2.ints_all .u8 L
  have hz := refsame0_con
  generalize pkE (L.set ((8 + j0) / 8).toNat (P2.flipV (L.getD ((8 + j0) / 8).toNat 0) (P2.bitV ((8 + j0) % 8)))) = q at *
  rcases hE with ⟨c1, c2, c3⟩ | ⟨c1, c2⟩
  · refine con_of_call2 rfl ?_
    refine call_inline Try.func4 rfl rfl ?_
    intro _
    repeat' (first | (refine is_split ?_; (first | refine sp_yes (by exact dec_t (by omega)) ?_ | refine sp_no (by (first | rfl | exact dec_f (by omega) | exact ndec_f (by omega))) ?_ | (refine sp_no ?_ ?_; focus (first | (simp; done) | (simp; omega)))) <;> (intro u; clear u)) | (refine is_asked ?_; (first | (refine is_spec ?_; (first | (refine asked j1 (by rw [← hj1, hm]; exact sp_rem' (by omega)) ?_) | (refine asked j0 (by rw [← hj0, hm]; exact sp_rem' (by omega)) ?_) | (refine asked _ (sp_rem (by omega) (by omega)) ?_) | (refine asked _ (sp_quo (by omega) (by omega) (by simp only [lo, hi]; omega)) ?_) | (refine asked _ (P2.sp_bit (by omega) (by omega)) ?_) | (refine asked (P2.flipV (L.getD ((8 + j0) / 8).toNat 0) (P2.bitV ((8 + j0) % 8))) (sp_xor (by decide) (by omega) (by simp only [lo, hi]; omega) (by omega) (by simp only [lo, hi]; omega)) ?_) | (with_reducible refine asked _ (sp_add (by simp only [lo, hi]; omega) (by simp only [lo, hi]; omega)) ?_) | (with_reducible refine asked _ (sp_sub (by simp only [lo, hi]; omega) (by simp only [lo, hi]; omega)) ?_) | (with_reducible refine asked _ (sp_mul (by simp only [lo, hi]; omega) (by simp only [lo, hi]; omega)) ?_))) | (refine is_wrap ?_; refine asked _ (wrap_lohi (by simp only [lo, hi]; omega) (by simp only [lo, hi]; omega)) ?_) | (refine asked (40, L.length) ⟨rfl, rfl, by omega, by omega⟩ ?_) | (refine asked (ints .u8 L) ⟨by rw [hvw]; rfl, rfl, by rw [hvw, ints_length]; show _ = _ * 1; omega, by unfold maxLen; omega, by show _ * 1 ≤ _; omega⟩ ?_) | (refine asked _ (ix_eq ((8 + j0) / 8).toNat (by show (0 + ((8 + j0) / 8).toNat) * 1 = _; omega) hidx) ?_) | (refine asked (ints .u8 (L.set ((8 + j0) / 8).toNat (P2.flipV (L.getD ((8 + j0) / 8).toNat 0) (P2.bitV ((8 + j0) % 8))))) ⟨by show setVals _ ((0 + ((8 + j0) / 8).toNat) * 1) _ = _; rw [Nat.zero_add, Nat.mul_one]; exact hset, by rw [ints_length]; show (0 + ((8 + j0) / 8).toNat) * 1 + 1 ≤ _; omega⟩ ?_) | refine asked () (by constructor <;> omega) ?_ | refine asked () (by show heldFree Try.prog _ _ = true; decide +kernel) ?_); intro u; clear u) | (refine is_call ?_; (first | refine call_auto (wakes_con) (lets_rfl rfl) (by exact trivial) rfl ?_ | refine call_auto (hM) (lets_rfl rfl) (by exact ⟨⟨_, rfl, rfl, rfl⟩, trivial⟩) rfl ?_ | refine call_auto (hP) (lets_rfl rfl) (by exact ⟨⟨_, rfl, rfl, rfl⟩, trivial⟩) rfl ?_ | refine call_auto (hS) (lets_rfl rfl) (by exact ⟨⟨_, rfl, rfl, rfl⟩, ⟨_, rfl, rfl, rfl⟩, trivial⟩) rfl ?_ | refine call_auto (h40) (lets_rfl rfl) (by exact ⟨⟨_, rfl, rfl, rfl⟩, ⟨_, rfl, rfl, rfl⟩, trivial⟩) rfl ?_ | refine call_auto (hY) (lets_rfl rfl) (by exact ⟨⟨_, rfl, rfl, rfl⟩, trivial⟩) rfl ?_ | refine call_le (by (repeat' (first | exact trivial | apply And.intro | exact rfl)); (first | done | fail)) (hz) (by exact ⟨⟨_, rfl, rfl, rfl⟩, trivial⟩) rfl ?_); intro u; clear u))
    all_goals (refine con_end ?_ rfl; intro u; clear u; refine ⟨rfl, rfl, EntGoal.mk ?_ ?_⟩ <;> (repeat' (first | exact trivial | (with_reducible rfl) | apply And.intro | rfl)))
  · rcases c2 with c2 | c2 <;> rw [c2] at hY
    all_goals
      refine con_of_call2 rfl ?_
      refine call_inline Try.func4 rfl rfl ?_
      intro _
      repeat' (first | (refine is_split ?_; (first | refine sp_yes (by (first | rfl | exact dec_t (by omega))) ?_ | refine sp_no (by (first | rfl | exact dec_f (by omega) | exact ndec_f (by omega))) ?_ | (refine sp_no ?_ ?_; focus (first | (simp; done) | (simp; omega)))) <;> (intro u; clear u)) | (refine is_asked ?_; (first | (refine is_spec ?_; (first | (refine asked j1 (by rw [← hj1, hm]; exact sp_rem' (by omega)) ?_) | (refine asked j0 (by rw [← hj0, hm]; exact sp_rem' (by omega)) ?_) | (refine asked _ (sp_rem (by omega) (by omega)) ?_) | (refine asked _ (sp_quo (by omega) (by omega) (by simp only [lo, hi]; omega)) ?_) | (refine asked _ (P2.sp_bit (by omega) (by omega)) ?_) | (refine asked (P2.flipV (L.getD ((8 + j0) / 8).toNat 0) (P2.bitV ((8 + j0) % 8))) (sp_xor (by decide) (by omega) (by simp only [lo, hi]; omega) (by omega) (by simp only [lo, hi]; omega)) ?_) | (with_reducible refine asked _ (sp_add (by simp only [lo, hi]; omega) (by simp only [lo, hi]; omega)) ?_) | (with_reducible refine asked _ (sp_sub (by simp only [lo, hi]; omega) (by simp only [lo, hi]; omega)) ?_) | (with_reducible refine asked _ (sp_mul (by simp only [lo, hi]; omega) (by simp only [lo, hi]; omega)) ?_))) | (refine is_wrap ?_; refine asked _ (wrap_lohi (by simp only [lo, hi]; omega) (by simp only [lo, hi]; omega)) ?_) | (refine asked (40, L.length) ⟨rfl, rfl, by omega, by omega⟩ ?_) | (refine asked (ints .u8 L) ⟨by rw [hvw]; rfl, rfl, by rw [hvw, ints_length]; show _ = _ * 1; omega, by unfold maxLen; omega, by show _ * 1 ≤ _; omega⟩ ?_) | (refine asked _ (ix_eq ((8 + j0) / 8).toNat (by show (0 + ((8 + j0) / 8).toNat) * 1 = _; omega) hidx) ?_) | (refine asked (ints .u8 (L.set ((8 + j0) / 8).toNat (P2.flipV (L.getD ((8 + j0) / 8).toNat 0) (P2.bitV ((8 + j0) % 8))))) ⟨by show setVals _ ((0 + ((8 + j0) / 8).toNat) * 1) _ = _; rw [Nat.zero_add, Nat.mul_one]; exact hset, by rw [ints_length]; show (0 + ((8 + j0) / 8).toNat) * 1 + 1 ≤ _; omega⟩ ?_) | refine asked () (by constructor <;> omega) ?_ | refine asked () (by show heldFree Try.prog _ _ = true; decide +kernel) ?_); intro u; clear u) | (refine is_call ?_; (first | refine call_auto (wakes_con) (lets_rfl rfl) (by exact trivial) rfl ?_ | refine call_auto (hM) (lets_rfl rfl) (by exact ⟨⟨_, rfl, rfl, rfl⟩, trivial⟩) rfl ?_ | refine call_auto (hP) (lets_rfl rfl) (by exact ⟨⟨_, rfl, rfl, rfl⟩, trivial⟩) rfl ?_ | refine call_auto (hS) (lets_rfl rfl) (by exact ⟨⟨_, rfl, rfl, rfl⟩, ⟨_, rfl, rfl, rfl⟩, trivial⟩) rfl ?_ | refine call_auto (h40) (lets_rfl rfl) (by exact ⟨⟨_, rfl, rfl, rfl⟩, ⟨_, rfl, rfl, rfl⟩, trivial⟩) rfl ?_ | refine call_auto (hY) (lets_rfl rfl) (by exact ⟨⟨_, rfl, rfl, rfl⟩, trivial⟩) rfl ?_ | refine call_le (by (repeat' (first | exact trivial | apply And.intro | exact rfl)); (first | done | fail)) (hz) (by exact ⟨⟨_, rfl, rfl, rfl⟩, trivial⟩) rfl ?_); intro u; clear u))
      all_goals (refine con_end ?_ rfl; intro u; clear u; refine ⟨rfl, rfl, EntGoal.mk ?_ ?_⟩ <;> (repeat' (first | exact trivial | (with_reducible rfl) | apply And.intro | rfl)))
