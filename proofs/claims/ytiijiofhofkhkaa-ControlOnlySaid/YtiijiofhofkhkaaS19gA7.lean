/- Contracts of functions of the program, or a row of the seat, proved out of them. No condition beyond those that stand in each statement. -/
import Derived.Test.YtiijiofhofkhkaaS19gA3
namespace Go.Proofs.S19
open Go Go.SE
set_option maxRecDepth 100000
set_option maxHeartbeats 4000000
attribute [local irreducible] specI

theorem ints_take (k : IntKind) : ∀ (l : List Int) (n : Nat), ints k (l.take n) = (ints k l).take n
  | [], n => by simp [ints]
  | x :: l, 0 => by simp [ints]
  | x :: l, n + 1 => by simp [ints, ints_take k l n]
theorem cback_con {c d : Ctl} {x : Int} (hc : (0 ≤ c.of ∧ c.of ≤ 255) ∧ 0 ≤ c.kind) (hd : (0 ≤ d.of ∧ d.of ≤ 255) ∧ 0 ≤ d.kind) (hx : 0 ≤ x ∧ x ≤ 255) : CallCon Try.prog 4 [ctlT 0 c, ctlT 1 d, .one (.v (.int .u8 x))] [.row (rowsV c.sh.rows) 5 101 false, .row (rowsV d.sh.rows) 5 101 false] (.t (.one (.v (.bool true)))) [] := by
  have g1 := great_con c
  have g2 := great_con d
  by_cases hg : 40 < c.sh.rows.length ∨ 40 < d.sh.rows.length
  · skip
    refine con_of_call2 rfl ?_
    refine call_inline Try.func4 rfl rfl ?_
    intro _
    repeat' (first | (refine is_split ?_; (first | refine sp_yes (by exact dec_t (by omega)) ?_ | refine sp_dec (fun g => ?_) (fun g => ?_)) <;> (intro u; clear u)) | (refine is_call ?_; (first | refine call_auto (wakes19_con) (lets_rfl rfl) (by exact trivial) rfl ?_ | refine call_auto (g1) (lets_rfl rfl) (by exact ⟨⟨_, rfl, rfl, rfl⟩, trivial⟩) rfl ?_ | refine call_auto (g2) (lets_rfl rfl) (by exact ⟨⟨_, rfl, rfl, rfl⟩, trivial⟩) rfl ?_); intro u; clear u))
    all_goals (first | ((refine con_end ?_ rfl; intro u; clear u; refine ⟨rfl, rfl, EntGoal.mk ?_ ?_⟩ <;> (repeat' (first | exact trivial | (with_reducible rfl) | apply And.intro | rfl))); done))
  have l1 : c.sh.rows.length ≤ 40 := by omega
  have l2 : d.sh.rows.length ≤ 40 := by omega
  have g1 := con_no g1 (by omega)
  have g2 := con_no g2 (by omega)
  have c1 := cput_con hc.1 hc.2 (by omega)
  have e2 := refctlright_con hc.1 (by omega)
  by_cases hs : okCtl c
  rotate_left
  · rw [cpL_no hs, cpE_no hs] at c1
    have e2 := con_no e2 hs
    refine con_of_call2 rfl ?_
    refine call_inline Try.func4 rfl rfl ?_
    intro _
    repeat' (first | (refine is_split ?_; refine sp_yes (by rfl) ?_ <;> (intro u; clear u)) | (refine is_call ?_; (first | refine call_auto (wakes19_con) (lets_rfl rfl) (by exact trivial) rfl ?_ | refine call_auto (g1) (lets_rfl rfl) (by exact ⟨⟨_, rfl, rfl, rfl⟩, trivial⟩) rfl ?_ | refine call_auto (g2) (lets_rfl rfl) (by exact ⟨⟨_, rfl, rfl, rfl⟩, trivial⟩) rfl ?_ | refine call_auto (c1) (lets_rfl rfl) (by exact ⟨⟨_, rfl, rfl, rfl⟩, trivial⟩) rfl ?_ | refine call_auto (e2) (lets_rfl rfl) (by exact ⟨⟨_, rfl, rfl, rfl⟩, trivial⟩) rfl ?_); intro u; clear u))
    all_goals (first | ((refine con_end ?_ rfl; intro u; clear u; refine ⟨rfl, rfl, EntGoal.mk ?_ ?_⟩ <;> (repeat' (first | exact trivial | (with_reducible rfl) | apply And.intro | rfl))); done))
  have e2 := con_yes e2 hs
  obtain ⟨⟨b1, b2⟩, b3, b4, hPb, hPl⟩ := bk hs
  have b4 := b4 x
  obtain ⟨t1, t2⟩ := tc_put hs
  rw [cpE_yes hs] at c1
  have hinj := fun ho => cp_inj (d := d) hs ho
  have z3 : tcC ((cpL c).take ((cpL c).length - 1)) = zeroCtl := tcC_no fun h => by rw [tcE_yes h] at b3; exact absurd b3 (by decide)
  have z4 : tcC (cpL c ++ [x]) = zeroCtl := tcC_no fun h => by rw [tcE_yes h] at b4; exact absurd b4 (by decide)
  clear b1 b2
  generalize cpL c = P at *
  have d1 := ctake_con hPb (by omega)
  rw [t1, t2] at d1
  have d2 := con_yes (refsame_con (c := c) (d := c) (by omega) (by omega)) rfl
  have hb3 : Bytes (P.take (P.length - 1)) := fun y hy => hPb y (List.mem_of_mem_take hy)
  have d3 := con_take (xs := ints .u8 P) (P.length - 1) (by
    have := ctake_con hb3 (by rw [List.length_take]; omega)
    rw [show ints .u8 (P.take (P.length - 1)) = (ints .u8 P).take (P.length - 1) from ints_take _ _ _] at this
    exact this)
  rw [z3, b3, List.length_take, Nat.min_eq_left (by omega)] at d3
  have hb4 : Bytes (P ++ [x]) := fun y hy => by
    rcases List.mem_append.1 hy with h | h
    · exact hPb y h
    · obtain rfl := List.mem_singleton.1 h; exact hx
  have d4 := ctake_con hb4 (by simp; omega)
  rw [z4, b4, show (P ++ [x]).length = 0 + P.length + 1 by simp] at d4
  have i1 := cput_con hd.1 hd.2 (c := d) (by omega)
  have i3 := refsame_con (c := c) (d := d) (by omega) (by omega)
  clear z3 z4 b3 b4 t1 t2
  by_cases ho : okCtl d
  · rw [cpE_yes ho] at i1
    have hin := hinj ho
    have hPd := cp_byte d
    generalize cpL d = Q at *
    have i2 := samebytes_con hPb hPd
    clear hinj
    refine con_of_call2 rfl ?_
    refine call_inline Try.func4 rfl rfl ?_
    intro _
    repeat' (first | (refine is_split ?_; (first | (refine sp_yes (dec_iff hin) ?_) | refine sp_yes (by rfl) ?_ | refine sp_no (by (first | rfl | exact dec_f (by omega))) ?_) <;> (intro u; clear u)) | (refine is_asked ?_; (first | (refine is_spec ?_; (with_reducible refine asked _ (sp_sub (by simp only [lo, hi]; omega) (by simp only [lo, hi]; omega)) ?_)) | (refine asked _ (slice_at 0 (P.length - 1) (by omega) (by omega) (by omega) (by omega)) ?_) | (refine asked (ints .u8 P) ⟨by rw [take_ints]; rfl, rfl, by rw [take_ints, ints_length]; show _ = _ * 1; omega, by unfold maxLen; omega, by show _ * 1 ≤ _; omega⟩ ?_) | (refine asked _ (byte_app (by omega) (by omega)) ?_)); intro u; clear u) | (refine is_draw ?_; refine draw_step mixed (by kernel_rfl) ?_; intro u; clear u) | (refine is_call ?_; (first | refine call_auto (g1) (lets_rfl rfl) (by exact ⟨⟨_, rfl, rfl, rfl⟩, trivial⟩) rfl ?_ | refine call_auto (g2) (lets_rfl rfl) (by exact ⟨⟨_, rfl, rfl, rfl⟩, trivial⟩) rfl ?_ | refine call_auto (c1) (lets_rfl rfl) (by exact ⟨⟨_, rfl, rfl, rfl⟩, trivial⟩) rfl ?_ | refine call_auto (e2) (lets_rfl rfl) (by exact ⟨⟨_, rfl, rfl, rfl⟩, trivial⟩) rfl ?_ | refine call_auto (d1) (lets_rfl rfl) (by exact ⟨⟨_, rfl, rfl, rfl⟩, trivial⟩) rfl ?_ | refine call_auto (d2) (lets_rfl rfl) (by exact ⟨⟨_, rfl, rfl, rfl⟩, ⟨_, rfl, rfl, rfl⟩, trivial⟩) rfl ?_ | refine call_auto (d3) (lets_rfl rfl) (by exact ⟨⟨_, rfl, rfl, rfl⟩, trivial⟩) rfl ?_ | refine call_auto (d4) (lets_rfl rfl) (by exact ⟨⟨_, rfl, rfl, rfl⟩, trivial⟩) rfl ?_ | refine call_auto (i1) (lets_rfl rfl) (by exact ⟨⟨_, rfl, rfl, rfl⟩, trivial⟩) rfl ?_); intro u; clear u) | (refine is_dcall ?_; (first | refine dcall_auto (wakes19_con) (lets_rfl rfl) (by exact trivial) rfl ?_ | refine dcall_auto (i2) (lets_rfl rfl) (by exact ⟨⟨_, rfl, rfl, rfl⟩, ⟨_, rfl, rfl, rfl⟩, trivial⟩) rfl ?_ | refine dcall_auto (i3) (lets_rfl rfl) (by exact ⟨⟨_, rfl, rfl, rfl⟩, ⟨_, rfl, rfl, rfl⟩, trivial⟩) rfl ?_); intro u; clear u))
    all_goals (first | ((refine con_end ?_ rfl; intro u; clear u; refine ⟨rfl, rfl, EntGoal.mk ?_ ?_⟩ <;> (repeat' (first | exact trivial | (with_reducible rfl) | apply And.intro | rfl))); done) | (exact absurd (hin.1 (by assumption)) (by assumption)) | (exact absurd (hin.2 (by assumption)) (by assumption)))
  · rw [cpE_no ho] at i1
    clear hinj
    refine con_of_call2 rfl ?_
    refine call_inline Try.func4 rfl rfl ?_
    intro _
    repeat' (first | (refine is_split ?_; (first | refine sp_yes (by rfl) ?_ | refine sp_no (by (first | rfl | exact dec_f (by omega))) ?_) <;> (intro u; clear u)) | (refine is_asked ?_; (first | (refine is_spec ?_; (with_reducible refine asked _ (sp_sub (by simp only [lo, hi]; omega) (by simp only [lo, hi]; omega)) ?_)) | (refine asked _ (slice_at 0 (P.length - 1) (by omega) (by omega) (by omega) (by omega)) ?_) | (refine asked (ints .u8 P) ⟨by rw [take_ints]; rfl, rfl, by rw [take_ints, ints_length]; show _ = _ * 1; omega, by unfold maxLen; omega, by show _ * 1 ≤ _; omega⟩ ?_) | (refine asked _ (byte_app (by omega) (by omega)) ?_)); intro u; clear u) | (refine is_draw ?_; refine draw_step mixed (by kernel_rfl) ?_; intro u; clear u) | (refine is_call ?_; (first | refine call_auto (g1) (lets_rfl rfl) (by exact ⟨⟨_, rfl, rfl, rfl⟩, trivial⟩) rfl ?_ | refine call_auto (g2) (lets_rfl rfl) (by exact ⟨⟨_, rfl, rfl, rfl⟩, trivial⟩) rfl ?_ | refine call_auto (c1) (lets_rfl rfl) (by exact ⟨⟨_, rfl, rfl, rfl⟩, trivial⟩) rfl ?_ | refine call_auto (e2) (lets_rfl rfl) (by exact ⟨⟨_, rfl, rfl, rfl⟩, trivial⟩) rfl ?_ | refine call_auto (d1) (lets_rfl rfl) (by exact ⟨⟨_, rfl, rfl, rfl⟩, trivial⟩) rfl ?_ | refine call_auto (d2) (lets_rfl rfl) (by exact ⟨⟨_, rfl, rfl, rfl⟩, ⟨_, rfl, rfl, rfl⟩, trivial⟩) rfl ?_ | refine call_auto (d3) (lets_rfl rfl) (by exact ⟨⟨_, rfl, rfl, rfl⟩, trivial⟩) rfl ?_ | refine call_auto (d4) (lets_rfl rfl) (by exact ⟨⟨_, rfl, rfl, rfl⟩, trivial⟩) rfl ?_ | refine call_auto (i1) (lets_rfl rfl) (by exact ⟨⟨_, rfl, rfl, rfl⟩, trivial⟩) rfl ?_); intro u; clear u) | (refine is_dcall ?_; refine dcall_auto (wakes19_con) (lets_rfl rfl) (by exact trivial) rfl ?_; intro u; clear u))
    all_goals (first | ((refine con_end ?_ rfl; intro u; clear u; refine ⟨rfl, rfl, EntGoal.mk ?_ ?_⟩ <;> (repeat' (first | exact trivial | (with_reducible rfl) | apply And.intro | rfl))); done))
theorem conly_con {b : List Int} (hb : Bytes b) : CallCon Try.prog 5 [.one (.sl 0 0 b.length)] [.row (ints .u8 b) 1 5 false] (.t (.one (.v (.bool true)))) [] := by
  by_cases hg : 1000 < b.length
  · skip
    refine con_of_call2 rfl ?_
    refine call_inline Try.func5 rfl rfl ?_
    intro _
    repeat' (first | (refine is_split ?_; refine sp_yes (by exact dec_t (by omega)) ?_ <;> (intro u; clear u)) | (refine is_call ?_; refine call_auto (wakes19_con) (lets_rfl rfl) (by exact trivial) rfl ?_; intro u; clear u))
    all_goals (first | ((refine con_end ?_ rfl; intro u; clear u; refine ⟨rfl, rfl, EntGoal.mk ?_ ?_⟩ <;> (repeat' (first | exact trivial | (with_reducible rfl) | apply And.intro | rfl))); done))
  have hl : b.length ≤ 1000 := by omega
  have d1 := ctake_con hb (by omega)
  by_cases hk : tcOk b
  · have hp := put_tc hb hk
    have hw := tc_bounds hb
    have hle := tcC_le hb
    have hok : okCtl (tcC b) := by rw [tcC_yes hk]; exact hk.2.2.2
    have c1 := cput_con hw.1 hw.2 (by omega)
    rw [tcE_yes hk] at d1
    rw [hp, cpE_yes hok] at c1
    have c2 := con_yes (samebytes_con hb hb) rfl
    have c3 := con_yes (refctlright_con hw.1 (c := tcC b) (by omega)) hok
    clear hp hw hok
    generalize tcC b = y at *
    refine con_of_call2 rfl ?_
    refine call_inline Try.func5 rfl rfl ?_
    intro _
    repeat' (first | (refine is_split ?_; (first | refine sp_yes (by rfl) ?_ | refine sp_no (by exact dec_f (by omega)) ?_) <;> (intro u; clear u)) | (refine is_call ?_; (first | refine call_auto (wakes19_con) (lets_rfl rfl) (by exact trivial) rfl ?_ | refine call_auto (d1) (lets_rfl rfl) (by exact ⟨⟨_, rfl, rfl, rfl⟩, trivial⟩) rfl ?_ | refine call_auto (c1) (lets_rfl rfl) (by exact ⟨⟨_, rfl, rfl, rfl⟩, trivial⟩) rfl ?_ | refine call_auto (c2) (lets_rfl rfl) (by exact ⟨⟨_, rfl, rfl, rfl⟩, ⟨_, rfl, rfl, rfl⟩, trivial⟩) rfl ?_ | refine call_auto (c3) (lets_rfl rfl) (by exact ⟨⟨_, rfl, rfl, rfl⟩, trivial⟩) rfl ?_); intro u; clear u))
    all_goals (first | ((refine con_end ?_ rfl; intro u; clear u; refine ⟨rfl, rfl, EntGoal.mk ?_ ?_⟩ <;> (repeat' (first | exact trivial | (with_reducible rfl) | apply And.intro | rfl))); done))
  have z1 := con_yes (refsamen_con (c := zeroCtl) (d := zeroCtl) (by decide) rfl) rfl
  rw [tcC_no hk] at d1
  have he : (tcE b = 61 ∨ tcE b = 60) ∧ (b.length = 0 → tcE b = 61) := by
    refine ⟨?_, tcE_0⟩
    unfold tcE
    rw [if_neg hk]
    split
    · exact .inl rfl
    split
    · exact .inr rfl
    split
    · exact .inl rfl
    split
    · rename_i q
      rcases tkE_cases (b.drop 2) with e | e | e
      · exact absurd e q.2
      · exact .inr e
      · exact .inl e
    · exact .inr rfl
  generalize tcE b = e at d1 he
  obtain ⟨rfl | rfl, he⟩ := he
  · skip
    refine con_of_call2 rfl ?_
    refine call_inline Try.func5 rfl rfl ?_
    intro _
    repeat' (first | (refine is_split ?_; (first | refine sp_yes (by rfl) ?_ | refine sp_no (by (first | rfl | exact dec_f (by omega))) ?_ | refine sp_ndec (fun g => ?_) (fun g => ?_)) <;> (intro u; clear u)) | (refine is_call ?_; (first | refine call_auto (wakes19_con) (lets_rfl rfl) (by exact trivial) rfl ?_ | refine call_auto (d1) (lets_rfl rfl) (by exact ⟨⟨_, rfl, rfl, rfl⟩, trivial⟩) rfl ?_ | refine call_le (by (repeat' (first | exact trivial | apply And.intro | exact rfl)); (first | done | fail)) (z1) (by exact ⟨⟨_, rfl, rfl, rfl⟩, trivial⟩) rfl ?_); intro u; clear u))
    all_goals (first | ((refine con_end ?_ rfl; intro u; clear u; refine ⟨rfl, rfl, EntGoal.mk ?_ ?_⟩ <;> (repeat' (first | exact trivial | (with_reducible rfl) | apply And.intro | rfl))); done))
  · have hz : b.length ≠ 0 := fun h => absurd (he h) (by decide)
    refine con_of_call2 rfl ?_
    refine call_inline Try.func5 rfl rfl ?_
    intro _
    repeat' (first | (refine is_split ?_; (first | refine sp_yes (by (first | rfl | exact ndec_t (by omega))) ?_ | refine sp_no (by (first | rfl | exact dec_f (by omega))) ?_) <;> (intro u; clear u)) | (refine is_call ?_; (first | refine call_auto (wakes19_con) (lets_rfl rfl) (by exact trivial) rfl ?_ | refine call_auto (d1) (lets_rfl rfl) (by exact ⟨⟨_, rfl, rfl, rfl⟩, trivial⟩) rfl ?_ | refine call_le (by (repeat' (first | exact trivial | apply And.intro | exact rfl)); (first | done | fail)) (z1) (by exact ⟨⟨_, rfl, rfl, rfl⟩, trivial⟩) rfl ?_); intro u; clear u))
    all_goals (first | ((refine con_end ?_ rfl; intro u; clear u; refine ⟨rfl, rfl, EntGoal.mk ?_ ?_⟩ <;> (repeat' (first | exact trivial | (with_reducible rfl) | apply And.intro | rfl))); done))
end Go.Proofs.S19
