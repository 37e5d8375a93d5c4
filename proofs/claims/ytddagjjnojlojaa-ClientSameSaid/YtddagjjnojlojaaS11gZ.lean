/- Contracts of functions of the program, or a row of the seat, proved out of them. No condition beyond those that stand in each statement. -/
import Derived.Test.YtddagjjnojlojaaS11gY
namespace Go.Proofs.S11
open Go Go.SE
set_option maxRecDepth 100000
set_option maxHeartbeats 4000000
attribute [local irreducible] specI

theorem ints_take (k : IntKind) : ∀ (l : List Int) (n : Nat), ints k (l.take n) = (ints k l).take n
  | [], n => by simp [ints]
  | x :: l, 0 => by simp [ints]
  | x :: l, n + 1 => by simp [ints, ints_take k l n]
theorem back_con (s o : Sh) {x : Int} (hx : 0 ≤ x ∧ x ≤ 255) : CallCon Try.prog 4 [shT 0 s, shT 1 o, .one (.v (.int .u8 x))] [.row (rowsV s.rows) 5 48 false, .row (rowsV o.rows) 5 48 false] (.t (.one (.v (.bool true)))) [] := by
  have g1 := great_con s
  have g2 := great_con o
  by_cases hg : 40 < s.rows.length ∨ 40 < o.rows.length
  · refine con_of_call2 rfl ?_
    refine call_inline Try.func4 rfl rfl ?_
    intro _
    repeat' (first | (refine is_split ?_; (first | refine sp_yes (by exact dec_t (by omega)) ?_ | refine sp_dec (fun g => ?_) (fun g => ?_)) <;> (intro u; clear u)) | (refine is_call ?_; (first | refine call_auto (wakes_con) (lets_rfl rfl) (by exact trivial) rfl ?_ | refine call_auto (g1) (lets_rfl rfl) (by exact ⟨⟨_, rfl, rfl, rfl⟩, trivial⟩) rfl ?_ | refine call_auto (g2) (lets_rfl rfl) (by exact ⟨⟨_, rfl, rfl, rfl⟩, trivial⟩) rfl ?_); intro u; clear u))
    all_goals (refine con_end ?_ rfl; intro u; clear u; refine ⟨rfl, rfl, EntGoal.mk ?_ ?_⟩ <;> (repeat' (first | exact trivial | (with_reducible rfl) | apply And.intro | rfl)))
  have l1 : s.rows.length ≤ 40 := by omega
  have l2 : o.rows.length ≤ 40 := by omega
  have g1 := con_no g1 (by omega)
  have g2 := con_no g2 (by omega)
  have c1 := put_con s (by omega)
  have e2 := shref_con s (by omega)
  by_cases hs : okSh s
  rotate_left
  · rw [show putSh s = [] by unfold putSh; rw [if_neg hs], show putE s = 2 by unfold putE; rw [if_neg hs]] at c1
    have e2 := con_no e2 hs
    refine con_of_call2 rfl ?_
    refine call_inline Try.func4 rfl rfl ?_
    intro _
    repeat' (first | (refine is_split ?_; refine sp_yes (by rfl) ?_ <;> (intro u; clear u)) | (refine is_call ?_; (first | refine call_auto (wakes_con) (lets_rfl rfl) (by exact trivial) rfl ?_ | refine call_auto (g1) (lets_rfl rfl) (by exact ⟨⟨_, rfl, rfl, rfl⟩, trivial⟩) rfl ?_ | refine call_auto (g2) (lets_rfl rfl) (by exact ⟨⟨_, rfl, rfl, rfl⟩, trivial⟩) rfl ?_ | refine call_auto (c1) (lets_rfl rfl) (by exact ⟨⟨_, rfl, rfl, rfl⟩, trivial⟩) rfl ?_ | refine call_auto (e2) (lets_rfl rfl) (by exact ⟨⟨_, rfl, rfl, rfl⟩, trivial⟩) rfl ?_); intro u; clear u))
    all_goals (refine con_end ?_ rfl; intro u; clear u; refine ⟨rfl, rfl, EntGoal.mk ?_ ?_⟩ <;> (repeat' (first | exact trivial | (with_reducible rfl) | apply And.intro | rfl)))
  have e2 := con_yes e2 hs
  have hPb := putSh_byte s
  have hPl := putSh_len s hs
  obtain ⟨t1, t2⟩ := take_put hs
  have t3 := take_less hs
  have t4 := take_more hs x
  rw [show putE s = 0 by unfold putE; rw [if_pos hs]] at c1
  have hinj := fun ho => put_inj (o := o) hs ho
  generalize putSh s = P at *
  have d1 := take_con hPb (by omega)
  rw [t1, t2] at d1
  have d2 := con_yes (shrefsame_con (s := s) (o := s) (by omega) (by omega)) rfl
  have hb3 : Bytes (P.take (P.length - 1)) := fun y hy => hPb y (List.mem_of_mem_take hy)
  have d3 := con_take (xs := ints .u8 P) (P.length - 1) (by
    have := take_con hb3 (by rw [List.length_take]; omega)
    rw [show ints .u8 (P.take (P.length - 1)) = (ints .u8 P).take (P.length - 1) from ints_take _ _ _] at this
    exact this)
  rw [t3, List.length_take, Nat.min_eq_left (by omega)] at d3
  have hb4 : Bytes (P ++ [x]) := fun y hy => by
    rcases List.mem_append.1 hy with h | h
    · exact hPb y h
    · obtain rfl := List.mem_singleton.1 h; exact hx
  have d4 := take_con hb4 (by simp; omega)
  rw [t4, show (P ++ [x]).length = 0 + P.length + 1 by simp] at d4
  have i1 := put_con o (by omega)
  have i3 := shrefsame_con (s := s) (o := o) (by omega) (by omega)
  by_cases ho : okSh o
  · rw [show putE o = 0 by unfold putE; rw [if_pos ho]] at i1
    have i2 := samebytes_con hPb (putSh_byte o)
    have hin := hinj ho
    refine con_of_call2 rfl ?_
    refine call_inline Try.func4 rfl rfl ?_
    intro _
    repeat' (first | (refine is_split ?_; (first | (refine sp_yes (dec_iff hin) ?_) | refine sp_yes (by rfl) ?_ | refine sp_no (by (first | rfl | exact ndec_f (by omega))) ?_) <;> (intro u; clear u)) | (refine is_asked ?_; (first | (refine is_spec ?_; (first | (with_reducible refine asked _ (sp_add (by simp only [lo, hi]; omega) (by simp only [lo, hi]; omega)) ?_) | (with_reducible refine asked _ (sp_sub (by simp only [lo, hi]; omega) (by simp only [lo, hi]; omega)) ?_) | (with_reducible refine asked _ (sp_mul (by simp only [lo, hi]; omega) (by simp only [lo, hi]; omega)) ?_))) | (refine asked _ (slice_at 0 (P.length - 1) (by omega) (by omega) (by omega) (by omega)) ?_) | (refine asked (ints .u8 P) ⟨by rw [take_ints]; rfl, rfl, by rw [take_ints, ints_length]; show _ = _ * 1; omega, by unfold maxLen; omega, by show _ * 1 ≤ _; omega⟩ ?_) | (refine asked _ (byte_app (by omega) (by omega)) ?_)); intro u; clear u) | (refine is_draw ?_; refine draw_step mixed (by kernel_rfl) ?_; intro u; clear u) | (refine is_call ?_; (first | refine call_auto (g1) (lets_rfl rfl) (by exact ⟨⟨_, rfl, rfl, rfl⟩, trivial⟩) rfl ?_ | refine call_auto (g2) (lets_rfl rfl) (by exact ⟨⟨_, rfl, rfl, rfl⟩, trivial⟩) rfl ?_ | refine call_auto (c1) (lets_rfl rfl) (by exact ⟨⟨_, rfl, rfl, rfl⟩, trivial⟩) rfl ?_ | refine call_auto (e2) (lets_rfl rfl) (by exact ⟨⟨_, rfl, rfl, rfl⟩, trivial⟩) rfl ?_ | refine call_auto (d1) (lets_rfl rfl) (by exact ⟨⟨_, rfl, rfl, rfl⟩, trivial⟩) rfl ?_ | refine call_auto (d2) (lets_rfl rfl) (by exact ⟨⟨_, rfl, rfl, rfl⟩, ⟨_, rfl, rfl, rfl⟩, trivial⟩) rfl ?_ | refine call_auto (d3) (lets_rfl rfl) (by exact ⟨⟨_, rfl, rfl, rfl⟩, trivial⟩) rfl ?_ | refine call_auto (d4) (lets_rfl rfl) (by exact ⟨⟨_, rfl, rfl, rfl⟩, trivial⟩) rfl ?_ | refine call_auto (i1) (lets_rfl rfl) (by exact ⟨⟨_, rfl, rfl, rfl⟩, trivial⟩) rfl ?_); intro u; clear u) | (refine is_dcall ?_; (first | refine dcall_auto (wakes_con) (lets_rfl rfl) (by exact trivial) rfl ?_ | refine dcall_auto (i2) (lets_rfl rfl) (by exact ⟨⟨_, rfl, rfl, rfl⟩, ⟨_, rfl, rfl, rfl⟩, trivial⟩) rfl ?_ | refine dcall_auto (i3) (lets_rfl rfl) (by exact ⟨⟨_, rfl, rfl, rfl⟩, ⟨_, rfl, rfl, rfl⟩, trivial⟩) rfl ?_); intro u; clear u))
    all_goals (refine con_end ?_ rfl; intro u; clear u; refine ⟨rfl, rfl, EntGoal.mk ?_ ?_⟩ <;> (repeat' (first | exact trivial | (with_reducible rfl) | apply And.intro | rfl)))
    all_goals first | exact absurd (hin.1 (by assumption)) (by assumption) | exact absurd (hin.2 (by assumption)) (by assumption)
  · rw [show putE o = 2 by unfold putE; rw [if_neg ho]] at i1
    refine con_of_call2 rfl ?_
    refine call_inline Try.func4 rfl rfl ?_
    intro _
    repeat' (first | (refine is_split ?_; (first | refine sp_yes (by rfl) ?_ | refine sp_no (by (first | rfl | exact ndec_f (by omega))) ?_) <;> (intro u; clear u)) | (refine is_asked ?_; (first | (refine is_spec ?_; (first | (with_reducible refine asked _ (sp_add (by simp only [lo, hi]; omega) (by simp only [lo, hi]; omega)) ?_) | (with_reducible refine asked _ (sp_sub (by simp only [lo, hi]; omega) (by simp only [lo, hi]; omega)) ?_) | (with_reducible refine asked _ (sp_mul (by simp only [lo, hi]; omega) (by simp only [lo, hi]; omega)) ?_))) | (refine asked _ (slice_at 0 (P.length - 1) (by omega) (by omega) (by omega) (by omega)) ?_) | (refine asked (ints .u8 P) ⟨by rw [take_ints]; rfl, rfl, by rw [take_ints, ints_length]; show _ = _ * 1; omega, by unfold maxLen; omega, by show _ * 1 ≤ _; omega⟩ ?_) | (refine asked _ (byte_app (by omega) (by omega)) ?_)); intro u; clear u) | (refine is_draw ?_; refine draw_step mixed (by kernel_rfl) ?_; intro u; clear u) | (refine is_call ?_; (first | refine call_auto (g1) (lets_rfl rfl) (by exact ⟨⟨_, rfl, rfl, rfl⟩, trivial⟩) rfl ?_ | refine call_auto (g2) (lets_rfl rfl) (by exact ⟨⟨_, rfl, rfl, rfl⟩, trivial⟩) rfl ?_ | refine call_auto (c1) (lets_rfl rfl) (by exact ⟨⟨_, rfl, rfl, rfl⟩, trivial⟩) rfl ?_ | refine call_auto (e2) (lets_rfl rfl) (by exact ⟨⟨_, rfl, rfl, rfl⟩, trivial⟩) rfl ?_ | refine call_auto (d1) (lets_rfl rfl) (by exact ⟨⟨_, rfl, rfl, rfl⟩, trivial⟩) rfl ?_ | refine call_auto (d2) (lets_rfl rfl) (by exact ⟨⟨_, rfl, rfl, rfl⟩, ⟨_, rfl, rfl, rfl⟩, trivial⟩) rfl ?_ | refine call_auto (d3) (lets_rfl rfl) (by exact ⟨⟨_, rfl, rfl, rfl⟩, trivial⟩) rfl ?_ | refine call_auto (d4) (lets_rfl rfl) (by exact ⟨⟨_, rfl, rfl, rfl⟩, trivial⟩) rfl ?_ | refine call_auto (i1) (lets_rfl rfl) (by exact ⟨⟨_, rfl, rfl, rfl⟩, trivial⟩) rfl ?_); intro u; clear u) | (refine is_dcall ?_; refine dcall_auto (wakes_con) (lets_rfl rfl) (by exact trivial) rfl ?_; intro u; clear u))
    all_goals (refine con_end ?_ rfl; intro u; clear u; refine ⟨rfl, rfl, EntGoal.mk ?_ ?_⟩ <;> (repeat' (first | exact trivial | (with_reducible rfl) | apply And.intro | rfl)))

theorem only_con {b : List Int} (hb : Bytes b) : CallCon Try.prog 5 [.one (.sl 0 0 b.length)] [.row (ints .u8 b) 1 5 false] (.t (.one (.v (.bool true)))) [] := by
  by_cases hg : 1000 < b.length
  · refine con_of_call2 rfl ?_
    refine call_inline Try.func5 rfl rfl ?_
    intro _
    repeat' (first | (refine is_split ?_; refine sp_yes (by exact dec_t (by omega)) ?_ <;> (intro u; clear u)) | (refine is_call ?_; refine call_auto (wakes_con) (lets_rfl rfl) (by exact trivial) rfl ?_; intro u; clear u))
    all_goals (refine con_end ?_ rfl; intro u; clear u; refine ⟨rfl, rfl, EntGoal.mk ?_ ?_⟩ <;> (repeat' (first | exact trivial | (with_reducible rfl) | apply And.intro | rfl)))
  have hl : b.length ≤ 1000 := by omega
  have d1 := take_con hb (by omega)
  by_cases hk : tkOk b
  · have hp := put_take hb hk
    have hsh : ¬ tkShort b := by unfold tkOk at hk; unfold tkShort; omega
    have hE : tkE b = 0 := by unfold tkE; rw [if_neg hsh, if_pos hk]
    have hS : tkSh b = tkRaw b := by unfold tkSh; rw [if_pos hk]
    have hok : okSh (tkSh b) := by rw [hS]; exact hk.2
    have hle := tkSh_le hb
    rw [hE] at d1
    have c1 := put_con (tkSh b) (by omega)
    rw [hp, show putE (tkSh b) = 0 by unfold putE; rw [if_pos hok]] at c1
    have c2 := con_yes (samebytes_con hb hb) rfl
    have c3 := con_yes (shref_con (tkSh b) (by omega)) hok
    refine con_of_call2 rfl ?_
    refine call_inline Try.func5 rfl rfl ?_
    intro _
    repeat' (first | (refine is_split ?_; (first | refine sp_yes (by rfl) ?_ | refine sp_no (by exact dec_f (by omega)) ?_) <;> (intro u; clear u)) | (refine is_call ?_; (first | refine call_auto (wakes_con) (lets_rfl rfl) (by exact trivial) rfl ?_ | refine call_auto (d1) (lets_rfl rfl) (by exact ⟨⟨_, rfl, rfl, rfl⟩, trivial⟩) rfl ?_ | refine call_auto (c1) (lets_rfl rfl) (by exact ⟨⟨_, rfl, rfl, rfl⟩, trivial⟩) rfl ?_ | refine call_auto (c2) (lets_rfl rfl) (by exact ⟨⟨_, rfl, rfl, rfl⟩, ⟨_, rfl, rfl, rfl⟩, trivial⟩) rfl ?_ | refine call_auto (c3) (lets_rfl rfl) (by exact ⟨⟨_, rfl, rfl, rfl⟩, trivial⟩) rfl ?_); intro u; clear u))
    all_goals (refine con_end ?_ rfl; intro u; clear u; refine ⟨rfl, rfl, EntGoal.mk ?_ ?_⟩ <;> (repeat' (first | exact trivial | (with_reducible rfl) | apply And.intro | rfl)))
  have hS : tkSh b = zeroSh := by unfold tkSh; rw [if_neg hk]
  have h12 := byte_bd hb 12
  have hN : ((tkN b : Nat) : Int) = b.getD 12 0 := by unfold tkN; omega
  rw [hS] at d1
  have z1 := con_yes (shrefsame_con (s := zeroSh) (o := zeroSh) (by decide) (by decide)) rfl
  have z2 := con_nil [shT 0 zeroSh, .agg [.n .i64 0, .n .i64 0, .v (.slice none 0 0)]] [.row (rowsV zeroSh.rows) 5 48 false] rfl z1 (by repeat' (first | exact trivial | exact rfl | exact Or.inl rfl | apply And.intro)) rfl
  by_cases hs : tkShort b
  · rw [show tkE b = 61 by unfold tkE; rw [if_pos hs]] at d1
    unfold tkShort at hs
    refine con_of_call2 rfl ?_
    refine call_inline Try.func5 rfl rfl ?_
    intro _
    repeat' (first | (refine is_split ?_; (first | refine sp_yes (by (first | rfl | exact dec_t (by omega))) ?_ | refine sp_no (by (first | rfl | exact dec_f (by omega))) ?_ | refine sp_yes (dec_iff (by omega)) ?_ | refine sp_dec (fun g => ?_) (fun g => ?_)) <;> (intro u; clear u)) | (refine is_asked ?_; (first | (refine is_spec ?_; (first | (with_reducible refine asked _ (sp_add (by simp only [lo, hi]; omega) (by simp only [lo, hi]; omega)) ?_) | (with_reducible refine asked _ (sp_mul (by simp only [lo, hi]; omega) (by simp only [lo, hi]; omega)) ?_))) | (refine is_wrap ?_; refine asked _ (wrap_lohi (by simp only [lo, hi]; omega) (by simp only [lo, hi]; omega)) ?_) | (refine asked _ (ix_eq 12 (by rfl) (by omega)) ?_) | refine asked () ⟨by omega, by omega⟩ ?_); intro u; clear u) | (refine is_call ?_; (first | refine call_auto (wakes_con) (lets_rfl rfl) (by exact trivial) rfl ?_ | refine call_auto (d1) (lets_rfl rfl) (by exact ⟨⟨_, rfl, rfl, rfl⟩, trivial⟩) rfl ?_ | refine call_auto (z2) (lets_rfl rfl) (by exact ⟨⟨_, rfl, rfl, rfl⟩, trivial⟩) rfl ?_); intro u; clear u))
    all_goals (refine con_end ?_ rfl; intro u; clear u; refine ⟨rfl, rfl, EntGoal.mk ?_ ?_⟩ <;> (repeat' (first | exact trivial | (with_reducible rfl) | apply And.intro | rfl)))
  · rw [show tkE b = 60 by unfold tkE; rw [if_neg hs, if_neg hk]] at d1
    unfold tkShort at hs
    refine con_of_call2 rfl ?_
    refine call_inline Try.func5 rfl rfl ?_
    intro _
    repeat' (first | (refine is_split ?_; (first | refine sp_yes (by rfl) ?_ | refine sp_no (by (first | rfl | exact dec_f (by omega))) ?_ | refine sp_yes (dec_iff (by omega)) ?_) <;> (intro u; clear u)) | (refine is_asked ?_; (first | (refine is_spec ?_; (first | (with_reducible refine asked _ (sp_add (by simp only [lo, hi]; omega) (by simp only [lo, hi]; omega)) ?_) | (with_reducible refine asked _ (sp_mul (by simp only [lo, hi]; omega) (by simp only [lo, hi]; omega)) ?_))) | (refine is_wrap ?_; refine asked _ (wrap_lohi (by simp only [lo, hi]; omega) (by simp only [lo, hi]; omega)) ?_) | (refine asked _ (ix_eq 12 (by rfl) (by omega)) ?_) | refine asked () ⟨by omega, by omega⟩ ?_); intro u; clear u) | (refine is_call ?_; (first | refine call_auto (wakes_con) (lets_rfl rfl) (by exact trivial) rfl ?_ | refine call_auto (d1) (lets_rfl rfl) (by exact ⟨⟨_, rfl, rfl, rfl⟩, trivial⟩) rfl ?_ | refine call_auto (z2) (lets_rfl rfl) (by exact ⟨⟨_, rfl, rfl, rfl⟩, trivial⟩) rfl ?_); intro u; clear u))
    all_goals (refine con_end ?_ rfl; intro u; clear u; refine ⟨rfl, rfl, EntGoal.mk ?_ ?_⟩ <;> (repeat' (first | exact trivial | (with_reducible rfl) | apply And.intro | rfl)))
