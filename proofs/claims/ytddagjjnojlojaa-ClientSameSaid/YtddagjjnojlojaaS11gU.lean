/- Contracts of functions of the program, or a row of the seat, proved out of them. No condition beyond those that stand in each statement. -/
import Derived.Test.YtddagjjnojlojaaS11gD
namespace Go.Proofs.S11
open Go Go.SE
set_option maxRecDepth 100000
set_option maxHeartbeats 4000000

theorem sp_addw {k : IntKind} {a b : Int} : specI .add k a b (k.wrap (a + b)) := rfl
attribute [local irreducible] specI

theorem rows_put : ∀ (l : List Row) (k : Nat) (x : Int), k < l.length → setVals (rowsV l) (k * 5) [.int .i64 x] = rowsV (l.set k ⟨x, (rAt l k).ent⟩)
  | [], k, x, h => by simp at h
  | r :: l, 0, x, _ => by
    show Value.int .i64 x :: setVals _ 0 [] = _
    rw [setVals_nil]; rfl
  | r :: l, k + 1, x, h => by
    have ih := rows_put l k x (by simpa using h)
    rw [show (k + 1) * 5 = k * 5 + 5 by omega]
    show _ :: _ :: _ :: _ :: _ :: setVals (rowsV l) (k * 5) [.int .i64 x] = _
    rw [ih]; rfl
theorem rows_putA {l : List Row} {p : Nat} (k : Nat) (x : Int) (hp : p = k * 5) (h : k < l.length) : setVals (rowsV l) p [.int .i64 x] = rowsV (l.set k ⟨x, (rAt l k).ent⟩) ∧ p + [Value.int .i64 x].length ≤ (rowsV l).length := by
  subst hp
  exact ⟨rows_put l k x h, by have := rows_len l h; show _ + 1 ≤ _; omega⟩
theorem snap_len (t : Tab) : ∀ k, (rowsK (fun _ => true) t k).length = k
  | 0 => rfl
  | k + 1 => by
    rw [← rowsK_yes (so := fun _ => true) (t := t) (k := k) rfl rfl, List.length_append, snap_len t k]; rfl
theorem snap_get (t : Tab) {k : Nat} (hk : k < 16) : rAt (snapL t) k = ⟨(k : Int), t.at k⟩ := by
  obtain ⟨j, h1, h2, _, h4⟩ := rowsK_get (fun _ => true) t 16 k (by rw [snap_len]; exact hk)
  have := congrArg List.length h4
  rw [List.length_take, snap_len, snap_len] at this
  obtain rfl : k = j := by omega
  exact h2
theorem snap_ok {t : Tab} (h : okTab t) : okSh ⟨-1, t.ver, snapL t⟩ :=
  ⟨⟨h.1, ⟨by show (-1 : Int) ≤ -1; decide, by show -1 < t.ver; have := h.1; omega⟩, Nat.le_of_eq (snap_len t 16)⟩, fun _ => snap_len t 16, rowsK_ok (so := fun _ => true) h.2⟩

theorem whole_con (t : Tab) (s : Sh) : CallCon Try.prog 7 [tabT t, shT 0 s] [.row (rowsV s.rows) 5 48 false] (.t (.one (.v (.bool true)))) [] := by
  have g1 := great_con s
  by_cases hg : 40 < s.rows.length
  · have g1 := con_yes g1 hg
    refine con_of_call2 rfl ?_
    refine call_inline Try.func7 rfl rfl ?_
    intro _
    repeat' (refine is_call ?_; (first | refine call_auto (wakes_con) (lets_rfl rfl) (by exact trivial) rfl ?_ | refine call_auto (g1) (lets_rfl rfl) (by exact ⟨⟨_, rfl, rfl, rfl⟩, trivial⟩) rfl ?_); intro u; clear u)
    all_goals (refine con_end ?_ rfl; intro u; clear u; refine ⟨rfl, rfl, EntGoal.mk ?_ ?_⟩ <;> (repeat' (first | exact trivial | (with_reducible rfl) | apply And.intro | rfl)))
  have l1 : s.rows.length ≤ 40 := by omega
  have g1 := con_no g1 hg
  have e1 := shrefown_con (s := s) (by omega)
  have e2 := shown_con (s := s) (by omega)
  have e3 := con_yes (shrefsame_con (s := s) (o := s) (by omega) (by omega)) rfl
  have hO := of_con t
  have hR := reftabright_con t
  refine con_of_call2 rfl ?_
  refine call_inline Try.func7 rfl rfl ?_
  intro _
  repeat' (refine is_call ?_; (first | refine call_auto (g1) (lets_rfl rfl) (by exact ⟨⟨_, rfl, rfl, rfl⟩, trivial⟩) rfl ?_ | refine call_auto (e1) (lets_rfl rfl) (by exact ⟨⟨_, rfl, rfl, rfl⟩, trivial⟩) rfl ?_ | refine call_auto (e2) (lets_rfl rfl) (by exact ⟨⟨_, rfl, rfl, rfl⟩, trivial⟩) rfl ?_); intro u; clear u)
  refine loop_keep (ι := Nat × List Row) (fun | (k, _) => s.rows.length - k) (fun | (k, m) => k ≤ s.rows.length ∧ m.length = s.rows.length) [2, 3, 5, 6] (fun | (k, _) => [(7, .t (.one (.v (.int .i64 k))))]) (fun | (_, m) => [(5, .row (rowsV m) 5 48 true)]) (fun _ => []) [] 0 (0, s.rows) ⟨by omega, rfl⟩ ?_ ?_
  · (intro u; clear u; refine ⟨rfl, rfl, EntGoal.mk ?_ ?_⟩ <;> (repeat' (first | exact trivial | (with_reducible rfl) | apply And.intro | rfl)))
  rintro ⟨k, m⟩ ⟨hk, hm⟩ u
  clear u
  by_cases hc : k < s.rows.length
  · repeat' (first | (refine is_draw (id := 8) ?_; refine bar_start mixed ?_; refine rest_bar 12 (by kernel_rfl) rfl (by rfl) (by kernel_rfl) ?_; intro u; clear u) | (refine is_split ?_; refine sp_yes (by exact dec_t (by omega)) ?_ <;> (intro u; clear u)) | (refine is_asked ?_; (first | (refine is_spec ?_; (first | (refine asked _ (sp_addw (a := (rAt m k).bkt)) ?_) | (with_reducible refine asked _ (sp_add (by simp only [lo, hi]; omega) (by simp only [lo, hi]; omega)) ?_))) | (refine asked _ (row_bkt m k (by show (0 + Int.toNat (k : Int)) * 5 + 0 = _; omega) (by omega)) ?_) | (refine asked _ (rows_putA k _ (by show (0 + Int.toNat (k : Int)) * 5 + 0 = _; omega) (by omega)) ?_) | refine asked () ⟨by omega, by omega⟩ ?_); intro u; clear u) | (refine is_rest ?_; refine rest_dr (by kernel_rfl) (by rfl) ?_; intro u; clear u))
    refine again (k + 1, m.set k ⟨IntKind.i64.wrap ((rAt m k).bkt + 1), (rAt m k).ent⟩) ⟨by omega, by simp [hm]⟩ (by show s.rows.length - (k + 1) < s.rows.length - k; omega) ?_
    (intro u; clear u; refine ⟨rfl, rfl, EntGoal.mk ?_ ?_⟩ <;> (repeat' (first | exact trivial | (with_reducible rfl) | apply And.intro | rfl)))
    all_goals simp
  obtain rfl : k = s.rows.length := by omega
  by_cases hok : okTab t
  rotate_left
  · rw [show ofSh t = zeroSh by unfold ofSh; rw [if_neg hok], show ofE t = 2 by unfold ofE; rw [if_neg hok]] at hO
    have hR2 := con_no hR hok
    repeat' (first | (refine is_split ?_; (first | refine sp_yes (by rfl) ?_ | refine sp_no (by exact dec_f (by omega)) ?_) <;> (intro u; clear u)) | (refine is_call ?_; (first | refine call_auto (e3) (lets_rfl rfl) (by exact ⟨⟨_, rfl, rfl, rfl⟩, ⟨_, rfl, rfl, rfl⟩, trivial⟩) rfl ?_ | refine call_auto (hO) (lets_rfl rfl) (by exact trivial) rfl ?_ | refine call_auto (hR2) (lets_rfl rfl) (by exact trivial) rfl ?_ | refine call_auto (wakes_con) (lets_rfl rfl) (by exact trivial) rfl ?_); intro u; clear u))
    all_goals (refine con_end ?_ rfl; intro u; clear u; refine ⟨rfl, rfl, EntGoal.mk ?_ ?_⟩ <;> (repeat' (first | exact trivial | (with_reducible rfl) | apply And.intro | rfl)))
  have hR2 := con_yes hR hok
  have hokS := snap_ok hok
  rw [show ofSh t = ⟨-1, t.ver, snapL t⟩ by unfold ofSh; rw [if_pos hok], show ofE t = 0 by unfold ofE; rw [if_pos hok]] at hO
  obtain ⟨x, hx⟩ : ∃ x : Sh, x = ⟨-1, t.ver, snapL t⟩ := ⟨_, rfl⟩
  rw [← hx] at hO hokS
  have hx1 : x.base = -1 := by rw [hx]
  have hx2 : x.to = t.ver := by rw [hx]
  have hx3 : ∀ i, i < 16 → rAt x.rows i = ⟨(i : Int), t.at i⟩ := fun i hi => by rw [hx]; exact snap_get t hi
  have hx4 : x.rows.length = 16 := by rw [hx]; exact snap_len t 16
  clear hx
  have hRt := con_yes (shright_con x (by omega)) hokS
  repeat' (first | (refine is_split ?_; refine sp_no (by (first | rfl | exact dec_f (by omega) | exact ndec_f (by omega))) ?_ <;> (intro u; clear u)) | (refine is_call ?_; (first | refine call_auto (e3) (lets_rfl rfl) (by exact ⟨⟨_, rfl, rfl, rfl⟩, ⟨_, rfl, rfl, rfl⟩, trivial⟩) rfl ?_ | refine call_auto (hO) (lets_rfl rfl) (by exact trivial) rfl ?_ | refine call_auto (hR2) (lets_rfl rfl) (by exact trivial) rfl ?_); intro u; clear u))
  refine loop_keep (fun i : Nat => 16 - i) (fun i => i ≤ 16) [2, 8] (fun i => [(10, .t (.one (.v (.int .i64 i))))]) (fun _ => []) (fun _ => []) [] 0 0 (by omega) ?_ ?_
  · (intro u; clear u; refine ⟨rfl, rfl, EntGoal.mk ?_ ?_⟩ <;> (repeat' (first | exact trivial | (with_reducible rfl) | apply And.intro | rfl)))
  intro i hi16 u
  clear u
  by_cases hc : i < 16
  · have hr := hx3 i hc
    have hq : (!eqRow (rAt x.rows i) ⟨(i : Int), t.at i⟩) = false := by rw [hr, eqRow_iff.2 rfl]; rfl
    repeat' (first | (refine is_split ?_; (first | (refine sp_no hq ?_) | refine sp_yes (by exact dec_t (by omega)) ?_) <;> (intro u; clear u)) | (refine is_asked ?_; (first | (refine is_spec ?_; (with_reducible refine asked _ (sp_add (by simp only [lo, hi]; omega) (by simp only [lo, hi]; omega)) ?_)) | (refine asked _ (row_ask x.rows i (by show (0 + Int.toNat (i : Int)) * 5 = _; omega) (by omega)) ?_) | (refine asked _ (tab_ask t (i := i) (by omega)) ?_) | refine asked () ⟨by omega, by omega⟩ ?_ | refine asked () (by show heldFree Try.prog _ _ = true; decide +kernel) ?_); intro u; clear u) | (refine is_draw ?_; refine draw_step mixed (by kernel_rfl) ?_; intro u; clear u))
    refine again (i + 1) (by omega) (by omega) ?_
    (intro u; clear u; refine ⟨rfl, rfl, EntGoal.mk ?_ ?_⟩ <;> (repeat' (first | exact trivial | (with_reducible rfl) | apply And.intro | rfl)))
  · obtain rfl : i = 16 := by omega
    repeat' (first | (refine is_split ?_; refine sp_no (by rfl) ?_ <;> (intro u; clear u)) | (refine is_call ?_; (first | refine call_auto (hRt) (lets_rfl rfl) (by exact ⟨⟨_, rfl, rfl, rfl⟩, trivial⟩) rfl ?_ | refine call_auto (wakes_con) (lets_rfl rfl) (by exact trivial) rfl ?_); intro u; clear u))
    all_goals (refine con_end ?_ rfl; intro u; clear u; refine ⟨rfl, rfl, EntGoal.mk ?_ ?_⟩ <;> (repeat' (first | exact trivial | (with_reducible rfl) | apply And.intro | rfl)))
