/- Contracts of functions of the program, or a row of the seat, proved out of them. No condition beyond those that stand in each statement. -/
import Derived.Test.YtddagjjnojlojaaS11gLt
namespace Go.Proofs.S11
open Go Go.SE
set_option maxRecDepth 100000
set_option maxHeartbeats 40000000
attribute [local irreducible] specI

structure Pr where
  a : Int
  b : Int
def prV (c : Pr) : List Value := [.int .i64 c.a, .int .i64 c.b]
def prsV : List Pr → List Value
  | [] => []
  | c :: l => prV c ++ prsV l
def prAt (l : List Pr) (k : Nat) : Pr := l.getD k ⟨0, 0⟩
theorem prsV_drop : ∀ (l : List Pr) (k : Nat), k < l.length → ∃ R, (prsV l).drop (k * 2) = prV (prAt l k) ++ R
  | [], k, h => by simp at h
  | r :: l, 0, _ => ⟨prsV l, rfl⟩
  | r :: l, k + 1, h => by
    obtain ⟨R, hR⟩ := prsV_drop l k (by simpa using h)
    refine ⟨R, ?_⟩
    rw [show (k + 1) * 2 = 2 + k * 2 by omega, prsV, show (2 : Nat) = (prV r).length from rfl, List.drop_length_add_append, show (prV r).length = 2 from rfl, hR]
    rfl
theorem pr_a (l : List Pr) {p : Nat} (k : Nat) (hp : p = k * 2) (hk : k < l.length) : (prsV l)[p]? = some (.int .i64 (prAt l k).a) := by
  subst hp
  obtain ⟨R, hR⟩ := prsV_drop l k hk
  rw [show k * 2 = k * 2 + 0 from rfl, ← List.getElem?_drop, hR]; rfl
theorem pr_b (l : List Pr) {p : Nat} (k : Nat) (hp : p = k * 2 + 1) (hk : k < l.length) : (prsV l)[p]? = some (.int .i64 (prAt l k).b) := by
  subst hp
  obtain ⟨R, hR⟩ := prsV_drop l k hk
  rw [← List.getElem?_drop, hR]; rfl

theorem tabs_at (l : List Tab) {w : Tab} {p n : Nat} (k : Nat) (hw : w = tAt l k) (hp : p = k * 65) (hk : k < l.length) (hn : n = 65 := by exact cells26) : ((tabsV l).drop p).take n = tabV w ∧ p + n ≤ (tabsV l).length := by
  subst hw
  exact tabs_ask l k hp hk hn
theorem ct_facts {c : Cl} {s : Sh} {w : Tab} (ht : ctOk c s) (s1 : ctArg c s) (s4 : ctOk c s → mrgT c s = ⟨true, w⟩) : ctC c s = ⟨true, w⟩ ∧ ctE c s = 0 := by
  have hlt := ht.2
  refine ⟨by unfold ctC; rw [if_pos ht]; exact s4 ht, ?_⟩
  unfold ctE; rw [if_neg (fun q => q s1), if_neg (by omega)]
theorem ct_no {c : Cl} {s : Sh} (ht : ¬ ctOk c s) (s1 : ctArg c s) : ctC c s = c ∧ (ctE c s = 0 ∨ ctE c s = 120) := by
  refine ⟨by unfold ctC; rw [if_neg ht], ?_⟩
  unfold ctE; rw [if_neg (fun q => q s1)]
  by_cases h : hasV c < s.base
  · exact .inr (if_pos h)
  · exact .inl (if_neg h)

theorem clsame_con (l : List Chg) (ps : List Pr) : CallCon Try.prog 9 [.one (.sl 0 0 l.length), .one (.sl 1 0 ps.length)] [.row (chsV l) 3 97 false, .row (prsV ps) 2 66 false] (.t (.one (.v (.bool true)))) [] := by
  by_cases hlen : l.length ≤ 30 ∧ ps.length ≤ 30
  rotate_left
  · refine con_of_call2 rfl ?_
    refine call_inline Try.func9 rfl rfl ?_
    intro _
    repeat' (first | (refine is_split ?_; (first | refine sp_yes (by exact dec_t (by omega)) ?_ | refine sp_dec (fun g => ?_) (fun g => ?_)) <;> (intro u; clear u)) | (refine is_call ?_; refine call_auto (clwakes_con) (lets_rfl rfl) (by exact trivial) rfl ?_; intro u; clear u))
    all_goals (refine con_end ?_ rfl; intro u; clear u; refine ⟨rfl, rfl, EntGoal.mk ?_ ?_⟩ <;> (repeat' (first | exact trivial | (with_reducible rfl) | apply And.intro | rfl)))
  obtain ⟨hl, hps⟩ := hlen
  have hG := grown_con l (by omega)
  have hok := (growK_ok l l.length).good
  have hln := growK_len l l.length
  generalize (growK l l.length).out = L at *
  have hlp := hok.len
  refine con_of_call2 rfl ?_
  refine call_inline Try.func9 rfl rfl ?_
  intro _
  repeat' (first | (refine is_split ?_; refine sp_no (by exact dec_f (by omega)) ?_ <;> (intro u; clear u)) | (refine is_call ?_; (first | refine call_auto (hG) (lets_rfl rfl) (by exact ⟨⟨_, rfl, rfl, rfl⟩, trivial⟩) rfl ?_ | refine call_auto (newcl_con) (lets_rfl rfl) (by exact trivial) rfl ?_); intro u; clear u))
  refine loop_keep (ι := Nat × Cl) (fun | (k, _) => ps.length - k) (fun | (k, c) => k ≤ ps.length ∧ ∃ v, vIn L v ∧ c = clAt L v) [1, 5, 6] (fun | (k, _) => [(7, .t (.one (.v (.int .i64 k))))]) (fun | (_, c) => [(3, .box (clS c) 1 52)]) (fun _ => []) [] 0 (0, zeroCl) ⟨by omega, none, (fun _ h => by cases h), rfl⟩ ?_ ?_
  · (intro u; clear u; refine ⟨rfl, rfl, EntGoal.mk ?_ ?_⟩ <;> (repeat' (first | exact trivial | (with_reducible rfl) | apply And.intro | rfl)))
  rintro ⟨k, ⟨b, u⟩⟩ ⟨hk, v, hv, hc⟩ uu
  clear uu
  have hca := clAt_ok hok hv
  have hst := fun {j : Nat} => @story L hok v hv j
  rw [← hc] at hca hst
  have hb : b = true → ∃ n, n < L.length ∧ u = tAt L n ∧ u.ver = n := by
    intro q
    cases v with
    | none => rw [show b = false from (Cl.mk.injEq .. ▸ hc).1] at q; cases q
    | some n =>
      have e : u = tAt L n := (Cl.mk.injEq .. ▸ hc).2
      exact ⟨n, hv n rfl, e, by rw [e]; exact hok.ver n (hv n rfl)⟩
  have hvu : ∃ v, vIn L v ∧ (⟨b, u⟩ : Cl) = clAt L v := ⟨v, hv, hc⟩
  clear hc hv v
  by_cases hke : k = ps.length
  · have hR := con_yes (clright_con (c := ⟨b, u⟩) hca.2) hca.1
    repeat' (first | (refine is_split ?_; refine sp_no (by exact dec_f (by omega)) ?_ <;> (intro u; clear u)) | (refine is_call ?_; (first | refine call_auto (hR) (lets_rfl rfl) (by exact trivial) rfl ?_ | refine call_auto (clwakes_con) (lets_rfl rfl) (by exact trivial) rfl ?_); intro u; clear u))
    all_goals (refine con_end ?_ rfl; intro u; clear u; refine ⟨rfl, rfl, EntGoal.mk ?_ ?_⟩ <;> (repeat' (first | exact trivial | (with_reducible rfl) | apply And.intro | rfl)))
  have hkl : k < ps.length := by omega
  obtain ⟨n0, hn0⟩ : ∃ n : Int, n = L.length := ⟨_, rfl⟩
  obtain ⟨j1, hj1⟩ : ∃ j : Int, (prAt ps k).b.tmod L.length = j := ⟨_, rfl⟩
  obtain ⟨j2, hj⟩ : ∃ j2 : Int, (j1 + L.length).tmod L.length = j2 := ⟨_, rfl⟩
  have hb1 : -(L.length : Int) < j1 ∧ j1 < L.length := by
    rw [← hj1]; exact ⟨Int.lt_tmod_of_pos _ (by omega), Int.tmod_lt_of_pos _ (by omega)⟩
  have hb2 : 0 ≤ j2 ∧ j2 < L.length := by
    rw [← hj]; exact ⟨Int.tmod_nonneg _ (by omega), Int.tmod_lt_of_pos _ (by omega)⟩
  obtain ⟨j, rfl⟩ := Int.eq_ofNat_of_zero_le hb2.1
  have hjl : j < L.length := by omega
  have hjo := hok.ok j hjl
  have hjv := hok.ver j hjl
  have hjr := hok.rows j hjl
  obtain ⟨w, hw⟩ : ∃ w, w = tAt L j := ⟨_, rfl⟩
  have hvw : ∃ v, vIn L v ∧ (⟨true, w⟩ : Cl) = clAt L v := ⟨some j, (fun _ h => by cases h; exact hjl), by rw [hw]; rfl⟩
  rw [← hw] at hjo hjv hjr
  have hstj := fun s => @hst j hjl s
  rw [← hw] at hstj
  have hO := refof_con w
  rw [show ofSh w = ⟨-1, w.ver, snapL w⟩ by unfold ofSh; rw [if_pos hjo], show ofE w = 0 by unfold ofE; rw [if_pos hjo]] at hO
  obtain ⟨p0, hp0⟩ : ∃ p0 : Int, p0 = (prAt ps k).a := ⟨_, rfl⟩
  have ha : (prsV ps)[k * 2]? = some (.int .i64 p0) := by rw [hp0]; exact pr_a ps k rfl hkl
  by_cases hp : 0 ≤ p0
  rotate_left
  · obtain ⟨s, hs⟩ : ∃ s : Sh, s = ⟨-1, w.ver, snapL w⟩ := ⟨_, rfl⟩
    obtain ⟨s1, s2, s3, s4⟩ := hstj _ (.inl hs)
    rw [← hs] at hO
    have hsl : s.rows.length ≤ 1000000 := by have := s1.2.1; unfold okHd at this; omega
    have hT := cltake_con hca.2 s hsl
    by_cases ht : ctOk ⟨b, u⟩ s
    · obtain ⟨f1, f2⟩ := ct_facts ht s1 s4
      rw [f1, decide_eq_true ht, f2] at hT
      have hT := con_known3 hT
      have hH := has_con ⟨b, u⟩
      have hlt := ht.2.2
      generalize hasV ⟨b, u⟩ = hvc at *
      have hh2 : hasV (⟨true, w⟩ : Cl) = w.ver := rfl
      rw [s2] at hlt s3
      have hno : ¬ ctOk ⟨true, w⟩ s := by
        intro q; have := q.2.2; rw [hh2, s2] at this; omega
      have hT2 := cltake_con (c := ⟨true, w⟩) hjr s hsl
      rw [show ctC ⟨true, w⟩ s = ⟨true, w⟩ by unfold ctC; rw [if_neg hno], decide_eq_false hno, show ctE ⟨true, w⟩ s = 0 by unfold ctE; rw [if_neg (fun q => q ⟨.inl ⟨rfl, hjo⟩, s1.2⟩), if_neg (by rw [hh2]; omega)]] at hT2
      have hT2 := con_known3 hT2
      have hH2 := has_con ⟨true, w⟩
      rw [hh2] at hH2
      have q1 : (!(eqCl ⟨true, w⟩ ⟨true, w⟩)) = false := by rw [eqCl_self (c := ⟨true, w⟩) hjr]; rfl
      have q2 : (!(eqTab w w)) = false := by rw [(eqTab_iff hjr hjr).2 rfl]; rfl
      rw [show clT ⟨true, w⟩ = .agg (.v (.bool true) :: tabS w) from rfl] at hT hT2 hH2
      repeat' (first | (refine is_asked ?_; refine asked () (by show heldFree Try.prog _ _ = true; decide +kernel) ?_; intro u; clear u) | (refine is_split ?_; (first | (refine sp_no q1 ?_) | (refine sp_no q2 ?_) | (refine sp_no (nb_t (by omega)) ?_) | refine sp_yes (by exact dec_t (by omega)) ?_ | refine sp_no (by (first | rfl | exact dec_f (by omega))) ?_) <;> (intro u; clear u)) | (refine is_asked ?_; (first | (refine is_spec ?_; (first | (refine asked j1 (by rw [← hj1]; exact sp_rem' (by omega)) ?_) | (refine asked (j : Int) (by rw [← hj]; exact sp_rem' (by omega)) ?_) | (with_reducible refine asked _ (sp_add (by simp only [lo, hi]; omega) (by simp only [lo, hi]; omega)) ?_))) | (refine asked _ (pr_b ps k (by show (0 + Int.toNat (k : Int)) * 2 + 1 = _; omega) hkl) ?_) | (refine asked (.int .i64 p0) (by rw [hp0]; exact pr_a ps k (by show (0 + Int.toNat (k : Int)) * 2 + 0 = _; omega) hkl) ?_) | (refine asked _ (tabs_at L j hw (by show (0 + Int.toNat (j : Int)) * 65 = _; omega) hjl) ?_) | (refine asked _ (tabs_at L j hw (by show (0 + Int.toNat w.ver) * 65 = _; rw [hjv]; omega) hjl) ?_) | refine asked () ⟨by omega, by omega⟩ ?_); intro u; clear u) | (refine is_draw ?_; refine draw_step mixed (by kernel_rfl) ?_; intro u; clear u) | (refine is_call ?_; (first | refine call_auto (hO) (lets_rfl rfl) (by exact trivial) rfl ?_ | refine call_auto (hT) (lets_rfl rfl) (by exact ⟨⟨_, rfl, rfl, rfl⟩, trivial⟩) rfl ?_ | refine call_auto (hT2) (lets_rfl rfl) (by exact ⟨⟨_, rfl, rfl, rfl⟩, trivial⟩) rfl ?_); intro u; clear u) | (refine is_dcall ?_; (first | refine dcall_auto (hH) (lets_rfl rfl) (by exact trivial) rfl ?_ | refine dcall_auto (hH2) (lets_rfl rfl) (by exact trivial) rfl ?_); intro u; clear u))
      all_goals first | (refine again (k + 1, ⟨true, w⟩) ⟨by omega, hvw⟩ (by show ps.length - (k + 1) < ps.length - k; omega) ?_; (intro u; clear u; refine ⟨rfl, rfl, EntGoal.mk ?_ ?_⟩ <;> (repeat' (first | exact trivial | (with_reducible rfl) | apply And.intro | rfl))); done) | skip
    obtain ⟨f1, f2⟩ := ct_no ht s1
    rw [f1, decide_eq_false ht] at hT
    have hT := con_known3 hT
    have hH := has_con ⟨b, u⟩
    generalize hasV ⟨b, u⟩ = hvc at *
    generalize ctE ⟨b, u⟩ s = er at *
    have q1 : (!(eqCl ⟨b, u⟩ ⟨b, u⟩)) = false := by rw [eqCl_self (c := ⟨b, u⟩) hca.2]; rfl
    have q2 : (!(eqTab u u)) = false := by rw [(eqTab_iff hca.2 hca.2).2 rfl]; rfl
    cases b with
    | false =>
      repeat' (first | (refine is_asked ?_; refine asked () (by show heldFree Try.prog _ _ = true; decide +kernel) ?_; intro u; clear u) | (refine is_split ?_; (first | (refine sp_no q1 ?_) | (refine sp_no (nb_f (by omega)) ?_) | refine sp_yes (by exact dec_t (by omega)) ?_ | refine sp_no (by (first | rfl | exact dec_f (by omega) | exact ndec_f (by omega))) ?_ | refine sp_ndec (fun g => ?_) (fun g => ?_)) <;> (intro u; clear u)) | (refine is_asked ?_; (first | (refine is_spec ?_; (first | (refine asked j1 (by rw [← hj1]; exact sp_rem' (by omega)) ?_) | (refine asked (j : Int) (by rw [← hj]; exact sp_rem' (by omega)) ?_) | (with_reducible refine asked _ (sp_add (by simp only [lo, hi]; omega) (by simp only [lo, hi]; omega)) ?_))) | (refine asked _ (pr_b ps k (by show (0 + Int.toNat (k : Int)) * 2 + 1 = _; omega) hkl) ?_) | (refine asked (.int .i64 p0) (by rw [hp0]; exact pr_a ps k (by show (0 + Int.toNat (k : Int)) * 2 + 0 = _; omega) hkl) ?_) | (refine asked _ (tabs_at L j hw (by show (0 + Int.toNat (j : Int)) * 65 = _; omega) hjl) ?_) | refine asked () ⟨by omega, by omega⟩ ?_); intro u; clear u) | (refine is_draw ?_; refine draw_step mixed (by kernel_rfl) ?_; intro u; clear u) | (refine is_call ?_; (first | refine call_auto (hO) (lets_rfl rfl) (by exact trivial) rfl ?_ | refine call_auto (hT) (lets_rfl rfl) (by exact ⟨⟨_, rfl, rfl, rfl⟩, trivial⟩) rfl ?_); intro u; clear u) | (refine is_dcall ?_; refine dcall_auto (hH) (lets_rfl rfl) (by exact trivial) rfl ?_; intro u; clear u))
      all_goals first | (refine again (k + 1, ⟨false, u⟩) ⟨by omega, hvu⟩ (by show ps.length - (k + 1) < ps.length - k; omega) ?_; (intro u; clear u; refine ⟨rfl, rfl, EntGoal.mk ?_ ?_⟩ <;> (repeat' (first | exact trivial | (with_reducible rfl) | apply And.intro | rfl))); done) | skip
    | true =>
      obtain ⟨n, hnl, hu, huv⟩ := hb rfl
      rw [show clT ⟨true, u⟩ = .agg (.v (.bool true) :: tabS u) from rfl] at hT hH
      repeat' (first | (refine is_asked ?_; refine asked () (by show heldFree Try.prog _ _ = true; decide +kernel) ?_; intro u; clear u) | (refine is_split ?_; (first | (refine sp_no q1 ?_) | (refine sp_no q2 ?_) | (refine sp_no (nb_f (by omega)) ?_) | refine sp_yes (by exact dec_t (by omega)) ?_ | refine sp_no (by (first | rfl | exact dec_f (by omega) | exact ndec_f (by omega))) ?_ | refine sp_ndec (fun g => ?_) (fun g => ?_)) <;> (intro u; clear u)) | (refine is_asked ?_; (first | (refine is_spec ?_; (first | (refine asked j1 (by rw [← hj1]; exact sp_rem' (by omega)) ?_) | (refine asked (j : Int) (by rw [← hj]; exact sp_rem' (by omega)) ?_) | (with_reducible refine asked _ (sp_add (by simp only [lo, hi]; omega) (by simp only [lo, hi]; omega)) ?_))) | (refine asked _ (pr_b ps k (by show (0 + Int.toNat (k : Int)) * 2 + 1 = _; omega) hkl) ?_) | (refine asked (.int .i64 p0) (by rw [hp0]; exact pr_a ps k (by show (0 + Int.toNat (k : Int)) * 2 + 0 = _; omega) hkl) ?_) | (refine asked _ (tabs_at L j hw (by show (0 + Int.toNat (j : Int)) * 65 = _; omega) hjl) ?_) | (refine asked _ (tabs_at L n hu (by show (0 + Int.toNat u.ver) * 65 = _; rw [huv]; omega) hnl) ?_) | refine asked () ⟨by omega, by omega⟩ ?_); intro u; clear u) | (refine is_draw ?_; refine draw_step mixed (by kernel_rfl) ?_; intro u; clear u) | (refine is_call ?_; (first | refine call_auto (hO) (lets_rfl rfl) (by exact trivial) rfl ?_ | refine call_auto (hT) (lets_rfl rfl) (by exact ⟨⟨_, rfl, rfl, rfl⟩, trivial⟩) rfl ?_); intro u; clear u) | (refine is_dcall ?_; refine dcall_auto (hH) (lets_rfl rfl) (by exact trivial) rfl ?_; intro u; clear u))
      all_goals first | (refine again (k + 1, ⟨true, u⟩) ⟨by omega, hvu⟩ (by show ps.length - (k + 1) < ps.length - k; omega) ?_; (intro u; clear u; refine ⟨rfl, rfl, EntGoal.mk ?_ ?_⟩ <;> (repeat' (first | exact trivial | (with_reducible rfl) | apply And.intro | rfl))); done) | skip
  obtain ⟨i, hii⟩ : ∃ i : Nat, p0.tmod L.length = (i : Int) := Int.eq_ofNat_of_zero_le (Int.tmod_nonneg _ hp)
  have hil : i < L.length := by have := Int.tmod_lt_of_pos p0 (show (0 : Int) < L.length by omega); omega
  obtain ⟨z, hz⟩ : ∃ z, z = tAt L i := ⟨_, rfl⟩
  have hD := refdelta_con z w
  by_cases hd : okDl z w
  rotate_left
  · rw [show dlSh z w = zeroSh by unfold dlSh; rw [if_neg hd], show dlE z w = 2 by unfold dlE; rw [if_neg hd]] at hD
    repeat' (first | (refine is_split ?_; refine sp_yes (by (first | rfl | exact dec_t (by omega))) ?_ <;> (intro u; clear u)) | (refine is_asked ?_; (first | (refine is_spec ?_; (first | (refine asked j1 (by rw [← hj1]; exact sp_rem' (by omega)) ?_) | (refine asked (j : Int) (by rw [← hj]; exact sp_rem' (by omega)) ?_) | (refine asked (i : Int) (by rw [← hii]; exact sp_rem' (by omega)) ?_) | (with_reducible refine asked _ (sp_add (by simp only [lo, hi]; omega) (by simp only [lo, hi]; omega)) ?_))) | (refine asked _ (pr_b ps k (by show (0 + Int.toNat (k : Int)) * 2 + 1 = _; omega) hkl) ?_) | (refine asked (.int .i64 p0) (by rw [hp0]; exact pr_a ps k (by show (0 + Int.toNat (k : Int)) * 2 + 0 = _; omega) hkl) ?_) | (refine asked _ (tabs_at L j hw (by show (0 + Int.toNat (j : Int)) * 65 = _; omega) hjl) ?_) | (refine asked _ (tabs_at L i hz (by show (0 + Int.toNat (i : Int)) * 65 = _; omega) hil) ?_) | refine asked () ⟨by omega, by omega⟩ ?_); intro u; clear u) | (refine is_draw ?_; refine draw_step mixed (by kernel_rfl) ?_; intro u; clear u) | (refine is_call ?_; refine call_auto (hO) (lets_rfl rfl) (by exact trivial) rfl ?_; intro u; clear u) | (refine is_dcall ?_; refine dcall_auto (hD) (lets_rfl rfl) (by exact trivial) rfl ?_; intro u; clear u))
    all_goals first | (refine again (k + 1, ⟨b, u⟩) ⟨by omega, hvu⟩ (by show ps.length - (k + 1) < ps.length - k; omega) ?_; (intro u; clear u; refine ⟨rfl, rfl, EntGoal.mk ?_ ?_⟩ <;> (repeat' (first | exact trivial | (with_reducible rfl) | apply And.intro | rfl))); done) | skip
  rw [show dlSh z w = ⟨z.ver, w.ver, deltaL z w⟩ by unfold dlSh; rw [if_pos hd], show dlE z w = 0 by unfold dlE; rw [if_pos hd]] at hD
  obtain ⟨s, hs⟩ : ∃ s : Sh, s = ⟨z.ver, w.ver, deltaL z w⟩ := ⟨_, rfl⟩
  obtain ⟨s1, s2, s3, s4⟩ := hstj s (.inr ⟨i, hil, by rw [← hz]; exact hd, by rw [← hz]; exact hs⟩)
  rw [← hs] at hD
  have hsl : s.rows.length ≤ 1000000 := by have := s1.2.1; unfold okHd at this; omega
  have hT := cltake_con hca.2 s hsl
  by_cases ht : ctOk ⟨b, u⟩ s
  · obtain ⟨f1, f2⟩ := ct_facts ht s1 s4
    rw [f1, decide_eq_true ht, f2] at hT
    have hT := con_known3 hT
    have hH := has_con ⟨b, u⟩
    have hlt := ht.2.2
    generalize hasV ⟨b, u⟩ = hvc at *
    have hh2 : hasV (⟨true, w⟩ : Cl) = w.ver := rfl
    rw [s2] at hlt s3
    have hno : ¬ ctOk ⟨true, w⟩ s := by
      intro q; have := q.2.2; rw [hh2, s2] at this; omega
    have hT2 := cltake_con (c := ⟨true, w⟩) hjr s hsl
    rw [show ctC ⟨true, w⟩ s = ⟨true, w⟩ by unfold ctC; rw [if_neg hno], decide_eq_false hno, show ctE ⟨true, w⟩ s = 0 by unfold ctE; rw [if_neg (fun q => q ⟨.inl ⟨rfl, hjo⟩, s1.2⟩), if_neg (by rw [hh2]; omega)]] at hT2
    have hT2 := con_known3 hT2
    have hH2 := has_con ⟨true, w⟩
    rw [hh2] at hH2
    have q1 : (!(eqCl ⟨true, w⟩ ⟨true, w⟩)) = false := by rw [eqCl_self (c := ⟨true, w⟩) hjr]; rfl
    have q2 : (!(eqTab w w)) = false := by rw [(eqTab_iff hjr hjr).2 rfl]; rfl
    rw [show clT ⟨true, w⟩ = .agg (.v (.bool true) :: tabS w) from rfl] at hT hT2 hH2
    repeat' (first | (refine is_asked ?_; refine asked () (by show heldFree Try.prog _ _ = true; decide +kernel) ?_; intro u; clear u) | (refine is_split ?_; (first | (refine sp_no q1 ?_) | (refine sp_no q2 ?_) | (refine sp_no (nb_t (by omega)) ?_) | refine sp_yes (by exact dec_t (by omega)) ?_ | refine sp_no (by (first | rfl | exact dec_f (by omega))) ?_) <;> (intro u; clear u)) | (refine is_asked ?_; (first | (refine is_spec ?_; (first | (refine asked j1 (by rw [← hj1]; exact sp_rem' (by omega)) ?_) | (refine asked (j : Int) (by rw [← hj]; exact sp_rem' (by omega)) ?_) | (refine asked (i : Int) (by rw [← hii]; exact sp_rem' (by omega)) ?_) | (with_reducible refine asked _ (sp_add (by simp only [lo, hi]; omega) (by simp only [lo, hi]; omega)) ?_))) | (refine asked _ (pr_b ps k (by show (0 + Int.toNat (k : Int)) * 2 + 1 = _; omega) hkl) ?_) | (refine asked (.int .i64 p0) (by rw [hp0]; exact pr_a ps k (by show (0 + Int.toNat (k : Int)) * 2 + 0 = _; omega) hkl) ?_) | (refine asked _ (tabs_at L j hw (by show (0 + Int.toNat (j : Int)) * 65 = _; omega) hjl) ?_) | (refine asked _ (tabs_at L i hz (by show (0 + Int.toNat (i : Int)) * 65 = _; omega) hil) ?_) | (refine asked _ (tabs_at L j hw (by show (0 + Int.toNat w.ver) * 65 = _; rw [hjv]; omega) hjl) ?_) | refine asked () ⟨by omega, by omega⟩ ?_); intro u; clear u) | (refine is_draw ?_; refine draw_step mixed (by kernel_rfl) ?_; intro u; clear u) | (refine is_call ?_; (first | refine call_auto (hO) (lets_rfl rfl) (by exact trivial) rfl ?_ | refine call_auto (hT) (lets_rfl rfl) (by exact ⟨⟨_, rfl, rfl, rfl⟩, trivial⟩) rfl ?_ | refine call_auto (hT2) (lets_rfl rfl) (by exact ⟨⟨_, rfl, rfl, rfl⟩, trivial⟩) rfl ?_); intro u; clear u) | (refine is_dcall ?_; (first | refine dcall_auto (hD) (lets_rfl rfl) (by exact trivial) rfl ?_ | refine dcall_auto (hH) (lets_rfl rfl) (by exact trivial) rfl ?_ | refine dcall_auto (hH2) (lets_rfl rfl) (by exact trivial) rfl ?_); intro u; clear u))
    all_goals first | (refine again (k + 1, ⟨true, w⟩) ⟨by omega, hvw⟩ (by show ps.length - (k + 1) < ps.length - k; omega) ?_; (intro u; clear u; refine ⟨rfl, rfl, EntGoal.mk ?_ ?_⟩ <;> (repeat' (first | exact trivial | (with_reducible rfl) | apply And.intro | rfl))); done) | skip
  obtain ⟨f1, f2⟩ := ct_no ht s1
  rw [f1, decide_eq_false ht] at hT
  have hT := con_known3 hT
  have hH := has_con ⟨b, u⟩
  generalize hasV ⟨b, u⟩ = hvc at *
  generalize ctE ⟨b, u⟩ s = er at *
  have q1 : (!(eqCl ⟨b, u⟩ ⟨b, u⟩)) = false := by rw [eqCl_self (c := ⟨b, u⟩) hca.2]; rfl
  have q2 : (!(eqTab u u)) = false := by rw [(eqTab_iff hca.2 hca.2).2 rfl]; rfl
  cases b with
  | false =>
    repeat' (first | (refine is_asked ?_; refine asked () (by show heldFree Try.prog _ _ = true; decide +kernel) ?_; intro u; clear u) | (refine is_split ?_; (first | (refine sp_no q1 ?_) | (refine sp_no (nb_f (by omega)) ?_) | refine sp_yes (by exact dec_t (by omega)) ?_ | refine sp_no (by (first | rfl | exact dec_f (by omega) | exact ndec_f (by omega))) ?_ | refine sp_ndec (fun g => ?_) (fun g => ?_)) <;> (intro u; clear u)) | (refine is_asked ?_; (first | (refine is_spec ?_; (first | (refine asked j1 (by rw [← hj1]; exact sp_rem' (by omega)) ?_) | (refine asked (j : Int) (by rw [← hj]; exact sp_rem' (by omega)) ?_) | (refine asked (i : Int) (by rw [← hii]; exact sp_rem' (by omega)) ?_) | (with_reducible refine asked _ (sp_add (by simp only [lo, hi]; omega) (by simp only [lo, hi]; omega)) ?_))) | (refine asked _ (pr_b ps k (by show (0 + Int.toNat (k : Int)) * 2 + 1 = _; omega) hkl) ?_) | (refine asked (.int .i64 p0) (by rw [hp0]; exact pr_a ps k (by show (0 + Int.toNat (k : Int)) * 2 + 0 = _; omega) hkl) ?_) | (refine asked _ (tabs_at L j hw (by show (0 + Int.toNat (j : Int)) * 65 = _; omega) hjl) ?_) | (refine asked _ (tabs_at L i hz (by show (0 + Int.toNat (i : Int)) * 65 = _; omega) hil) ?_) | refine asked () ⟨by omega, by omega⟩ ?_); intro u; clear u) | (refine is_draw ?_; refine draw_step mixed (by kernel_rfl) ?_; intro u; clear u) | (refine is_call ?_; (first | refine call_auto (hO) (lets_rfl rfl) (by exact trivial) rfl ?_ | refine call_auto (hT) (lets_rfl rfl) (by exact ⟨⟨_, rfl, rfl, rfl⟩, trivial⟩) rfl ?_); intro u; clear u) | (refine is_dcall ?_; (first | refine dcall_auto (hD) (lets_rfl rfl) (by exact trivial) rfl ?_ | refine dcall_auto (hH) (lets_rfl rfl) (by exact trivial) rfl ?_); intro u; clear u))
    all_goals first | (refine again (k + 1, ⟨false, u⟩) ⟨by omega, hvu⟩ (by show ps.length - (k + 1) < ps.length - k; omega) ?_; (intro u; clear u; refine ⟨rfl, rfl, EntGoal.mk ?_ ?_⟩ <;> (repeat' (first | exact trivial | (with_reducible rfl) | apply And.intro | rfl))); done) | skip
  | true =>
    obtain ⟨n, hnl, hu, huv⟩ := hb rfl
    rw [show clT ⟨true, u⟩ = .agg (.v (.bool true) :: tabS u) from rfl] at hT hH
    repeat' (first | (refine is_asked ?_; refine asked () (by show heldFree Try.prog _ _ = true; decide +kernel) ?_; intro u; clear u) | (refine is_split ?_; (first | (refine sp_no q1 ?_) | (refine sp_no q2 ?_) | (refine sp_no (nb_f (by omega)) ?_) | refine sp_yes (by exact dec_t (by omega)) ?_ | refine sp_no (by (first | rfl | exact dec_f (by omega) | exact ndec_f (by omega))) ?_ | refine sp_ndec (fun g => ?_) (fun g => ?_)) <;> (intro u; clear u)) | (refine is_asked ?_; (first | (refine is_spec ?_; (first | (refine asked j1 (by rw [← hj1]; exact sp_rem' (by omega)) ?_) | (refine asked (j : Int) (by rw [← hj]; exact sp_rem' (by omega)) ?_) | (refine asked (i : Int) (by rw [← hii]; exact sp_rem' (by omega)) ?_) | (with_reducible refine asked _ (sp_add (by simp only [lo, hi]; omega) (by simp only [lo, hi]; omega)) ?_))) | (refine asked _ (pr_b ps k (by show (0 + Int.toNat (k : Int)) * 2 + 1 = _; omega) hkl) ?_) | (refine asked (.int .i64 p0) (by rw [hp0]; exact pr_a ps k (by show (0 + Int.toNat (k : Int)) * 2 + 0 = _; omega) hkl) ?_) | (refine asked _ (tabs_at L j hw (by show (0 + Int.toNat (j : Int)) * 65 = _; omega) hjl) ?_) | (refine asked _ (tabs_at L i hz (by show (0 + Int.toNat (i : Int)) * 65 = _; omega) hil) ?_) | (refine asked _ (tabs_at L n hu (by show (0 + Int.toNat u.ver) * 65 = _; rw [huv]; omega) hnl) ?_) | refine asked () ⟨by omega, by omega⟩ ?_); intro u; clear u) | (refine is_draw ?_; refine draw_step mixed (by kernel_rfl) ?_; intro u; clear u) | (refine is_call ?_; (first | refine call_auto (hO) (lets_rfl rfl) (by exact trivial) rfl ?_ | refine call_auto (hT) (lets_rfl rfl) (by exact ⟨⟨_, rfl, rfl, rfl⟩, trivial⟩) rfl ?_); intro u; clear u) | (refine is_dcall ?_; (first | refine dcall_auto (hD) (lets_rfl rfl) (by exact trivial) rfl ?_ | refine dcall_auto (hH) (lets_rfl rfl) (by exact trivial) rfl ?_); intro u; clear u))
    all_goals first | (refine again (k + 1, ⟨true, u⟩) ⟨by omega, hvu⟩ (by show ps.length - (k + 1) < ps.length - k; omega) ?_; (intro u; clear u; refine ⟨rfl, rfl, EntGoal.mk ?_ ?_⟩ <;> (repeat' (first | exact trivial | (with_reducible rfl) | apply And.intro | rfl))); done) | skip
end Go.Proofs.S11
