/- Contracts of functions of the program, or a row of the seat, proved out of them. No condition beyond those that stand in each statement. -/
import Derived.Test.YtddagjjnojlojaaS11gLs
namespace Go.Proofs.S11
open Go Go.SE
set_option maxRecDepth 100000
set_option maxHeartbeats 4000000
attribute [local irreducible] specI

def chV (c : Chg) : List Value := [.int .i64 c.b, .int .i64 c.cur, .int .i64 c.prev]
def chsV : List Chg → List Value
  | [] => []
  | c :: l => chV c ++ chsV l
def chAt (l : List Chg) (k : Nat) : Chg := l.getD k zeroCh
theorem chsV_length : ∀ l : List Chg, (chsV l).length = l.length * 3
  | [] => rfl
  | r :: l => by
    rw [chsV, List.length_append, chsV_length l, List.length_cons]
    show 3 + _ = _
    omega
theorem chsV_drop : ∀ (l : List Chg) (k : Nat), k < l.length → ∃ R, (chsV l).drop (k * 3) = chV (chAt l k) ++ R
  | [], k, h => by simp at h
  | r :: l, 0, _ => ⟨chsV l, rfl⟩
  | r :: l, k + 1, h => by
    obtain ⟨R, hR⟩ := chsV_drop l k (by simpa using h)
    refine ⟨R, ?_⟩
    rw [show (k + 1) * 3 = 3 + k * 3 by omega, chsV, show (3 : Nat) = (chV r).length from rfl, List.drop_length_add_append, show (chV r).length = 3 from rfl, hR]
    rfl
theorem ch_b (l : List Chg) {p : Nat} (k : Nat) (hp : p = k * 3) (hk : k < l.length) : (chsV l)[p]? = some (.int .i64 (chAt l k).b) := by
  subst hp
  obtain ⟨R, hR⟩ := chsV_drop l k hk
  rw [show k * 3 = k * 3 + 0 from rfl, ← List.getElem?_drop, hR]; rfl
theorem ch_c (l : List Chg) {p : Nat} (k : Nat) (hp : p = k * 3 + 1) (hk : k < l.length) : (chsV l)[p]? = some (.int .i64 (chAt l k).cur) := by
  subst hp
  obtain ⟨R, hR⟩ := chsV_drop l k hk
  rw [← List.getElem?_drop, hR]; rfl
theorem ch_p (l : List Chg) {p : Nat} (k : Nat) (hp : p = k * 3 + 2) (hk : k < l.length) : (chsV l)[p]? = some (.int .i64 (chAt l k).prev) := by
  subst hp
  obtain ⟨R, hR⟩ := chsV_drop l k hk
  rw [← List.getElem?_drop, hR]; rfl

def entV (e : Ent) : List Value := [.int .i64 e.cur, .int .i64 e.prev, .int .i64 e.gen, .int .i64 e.tick]
def rowsVof (t : Tab) : List Nat → List Value
  | [] => []
  | i :: l => entV (t.at i) ++ rowsVof t l
def tabV (t : Tab) : List Value := .int .i64 t.ver :: rowsVof t [0, 1, 2, 3, 4, 5, 6, 7, 8, 9, 10, 11, 12, 13, 14, 15]
def tabsV : List Tab → List Value
  | [] => []
  | t :: L => tabV t ++ tabsV L
theorem tabsV_length : ∀ l : List Tab, (tabsV l).length = l.length * 65
  | [] => rfl
  | r :: l => by
    rw [tabsV, List.length_append, tabsV_length l, List.length_cons]
    show 65 + _ = _
    omega
theorem tabsV_app : ∀ A B : List Tab, tabsV (A ++ B) = tabsV A ++ tabsV B
  | [], B => rfl
  | r :: A, B => by rw [List.cons_append, tabsV, tabsV, tabsV_app A B, List.append_assoc]
theorem tabsV_drop : ∀ (l : List Tab) (k : Nat), k < l.length → ∃ R, (tabsV l).drop (k * 65) = tabV (tAt l k) ++ R
  | [], k, h => by simp at h
  | r :: l, 0, _ => ⟨tabsV l, rfl⟩
  | r :: l, k + 1, h => by
    obtain ⟨R, hR⟩ := tabsV_drop l k (by simpa using h)
    refine ⟨R, ?_⟩
    rw [show (k + 1) * 65 = 65 + k * 65 by omega, tabsV, show (65 : Nat) = (tabV r).length from rfl, List.drop_length_add_append, show (tabV r).length = 65 from rfl, hR]
    rfl
theorem cells26 : Try.prog.cellsOf 26 = 65 := by kernel_rfl
theorem tabs_ask (l : List Tab) {p n : Nat} (k : Nat) (hp : p = k * 65) (hk : k < l.length) (hn : n = 65 := by exact cells26) : ((tabsV l).drop p).take n = tabV (tAt l k) ∧ p + n ≤ (tabsV l).length := by
  subst hp hn
  obtain ⟨R, hR⟩ := tabsV_drop l k hk
  refine ⟨by rw [hR]; rfl, ?_⟩
  rw [tabsV_length]
  have : (k + 1) * 65 ≤ l.length * 65 := Nat.mul_le_mul_right _ hk
  omega
theorem tabs_app (m : List Tab) (t : Tab) (h : m.length ≤ 1000) : tabsV m ++ tabV t = tabsV (m ++ [t]) ∧ (tabsV m).length = m.length * 65 ∧ (tabV t).length = 1 * 65 ∧ m.length + 1 ≤ maxLen ∧ (m.length + 1) * 520 ≤ 140737488355328 :=
  ⟨by rw [tabsV_app]; simp [tabsV], tabsV_length m, rfl, by unfold maxLen; omega, by omega⟩

theorem grown_con (l : List Chg) (hl : l.length ≤ 1000) : CallCon Try.prog 45 [.one (.sl 0 0 l.length)] [.row (chsV l) 3 97 false] (.t (.one (.sl 0 0 (growK l l.length).out.length))) [.row (tabsV (growK l l.length).out) 65 26 true] := by
  refine con_of_call2 rfl ?_
  refine call_inline Try.func45 rfl rfl ?_
  intro _
  repeat' (refine is_call ?_; refine call_auto (refnew_con) (lets_rfl rfl) (by exact trivial) rfl ?_; intro u; clear u)
  refine loop_keep (ι := Nat × Grw) (fun | (k, _) => l.length - k) (fun | (k, m) => k ≤ l.length ∧ m = growK l k) [0, 3] (fun | (k, m) => [(5, .t (.one (.v (.int .i64 k)))), (4, .t (.one (.sl 2 0 m.out.length)))]) (fun | (_, m) => [(1, .box (tabS m.now) 1 26), (2, .row (tabsV m.out) 65 26 true)]) (fun _ => [(6, [], [])]) [] 3 (0, ⟨newTab, [newTab]⟩) ⟨by omega, rfl⟩ ?_ ?_
  · (intro u; clear u; refine ⟨rfl, rfl, EntGoal.mk ?_ ?_⟩ <;> (repeat' (first | exact trivial | (with_reducible rfl) | apply And.intro | rfl)))
  rintro ⟨k, m⟩ ⟨hk, hm⟩ u
  clear u
  change k ≤ l.length at hk
  change m = growK l k at hm
  have hgo := growK_ok l k
  have hgl := growK_len l k
  rw [← hm] at hgo hgl
  obtain ⟨j1, hj1⟩ : ∃ j : Int, (chAt l k).b.tmod 16 = j := ⟨_, rfl⟩
  obtain ⟨j, hj⟩ : ∃ j2 : Int, (j1 + 16).tmod 16 = j2 := ⟨_, rfl⟩
  have hb1 : -16 < j1 ∧ j1 < 16 := by
    rw [← hj1]; exact ⟨Int.lt_tmod_of_pos _ (by omega), Int.tmod_lt_of_pos _ (by omega)⟩
  have hjb : chB (chAt l k) = j := by unfold chB; rw [hj1, hj]
  have hb2 := chB_in (chAt l k)
  rw [hjb] at hb2
  have hlast := hgo.last
  have hp := hgo.good.len
  have ho1 := hgo.good.ok (m.out.length - 1) (by omega)
  have ho2 := hgo.good.rows (m.out.length - 1) (by omega)
  rw [hlast] at ho1 ho2
  have hge := (ho1.2 j.toNat (by omega)).1
  have hS := refset_con (t := m.now) ho2 j ⟨(chAt l k).cur, (chAt l k).prev, (m.now.at j.toNat).gen + 1, 0⟩
  have hstep : growK l (k + 1) = if okSet m.now j ⟨(chAt l k).cur, (chAt l k).prev, (m.now.at j.toNat).gen + 1, 0⟩ then ⟨setT m.now j ⟨(chAt l k).cur, (chAt l k).prev, (m.now.at j.toNat).gen + 1, 0⟩, m.out ++ [setT m.now j ⟨(chAt l k).cur, (chAt l k).prev, (m.now.at j.toNat).gen + 1, 0⟩]⟩ else m := by
    show grow1 (growK l k) (chAt l k) = _
    unfold grow1 chE
    rw [← hm, hjb]
  by_cases hok : okSet m.now j ⟨(chAt l k).cur, (chAt l k).prev, (m.now.at j.toNat).gen + 1, 0⟩
  · rw [if_pos hok] at hstep
    rw [show setE m.now j _ = 0 from by unfold setE; rw [if_pos hok]] at hS
    generalize setT m.now j ⟨(chAt l k).cur, (chAt l k).prev, (m.now.at j.toNat).gen + 1, 0⟩ = t2 at *
    repeat' (first | (refine is_split ?_; (first | refine sp_yes (by rfl) ?_ | refine sp_dec (fun g => ?_) (fun g => ?_)) <;> (intro u; clear u)) | (refine is_asked ?_; (first | (refine is_spec ?_; (first | (refine asked j1 (by rw [← hj1]; exact sp_rem' (by omega)) ?_) | (refine asked j (by rw [← hj]; exact sp_rem' (by omega)) ?_) | (with_reducible refine asked _ (sp_add (by simp only [lo, hi]; omega) (by simp only [lo, hi]; omega)) ?_))) | (refine asked _ (ch_b l k (by show (0 + Int.toNat (k : Int)) * 3 + 0 = _; omega) (by omega)) ?_) | (refine asked _ (ch_c l k (by show (0 + Int.toNat (k : Int)) * 3 + 1 = _; omega) (by omega)) ?_) | (refine asked _ (ch_p l k (by show (0 + Int.toNat (k : Int)) * 3 + 2 = _; omega) (by omega)) ?_) | (refine asked _ (tab_gen m.now (i := j.toNat) (by omega)) ?_) | (refine asked (tabsV (m.out ++ [t2])) (tabs_app m.out t2 (by omega)) ?_) | refine asked () ⟨by omega, by omega⟩ ?_); intro u; clear u) | (refine is_draw ?_; refine draw_step mixed (by kernel_rfl) ?_; intro u; clear u) | (refine is_dcall ?_; refine dcall_le (by (repeat' (first | exact trivial | apply And.intro | exact rfl)); (first | done | fail)) (hS) (by exact trivial) rfl ?_; intro u; clear u))
    · refine again (k + 1, ⟨t2, m.out ++ [t2]⟩) ⟨by omega, hstep.symm⟩ (by show l.length - (k + 1) < l.length - k; omega) ?_
      (intro u; clear u; refine ⟨rfl, rfl, EntGoal.mk ?_ ?_⟩ <;> (repeat' (first | exact trivial | (with_reducible rfl) | apply And.intro | rfl)))
      all_goals simp
    · obtain rfl : k = l.length := by omega
      rw [← hm]
      (refine con_end ?_ rfl; intro u; clear u; refine ⟨rfl, rfl, EntGoal.mk ?_ ?_⟩ <;> (repeat' (first | exact trivial | (with_reducible rfl) | apply And.intro | rfl)))
  · rw [if_neg hok] at hstep
    rw [show setE m.now j _ = 2 from by unfold setE; rw [if_neg hok]] at hS
    generalize setT m.now j ⟨(chAt l k).cur, (chAt l k).prev, (m.now.at j.toNat).gen + 1, 0⟩ = t2 at *
    repeat' (first | (refine is_split ?_; (first | refine sp_no (by rfl) ?_ | refine sp_dec (fun g => ?_) (fun g => ?_)) <;> (intro u; clear u)) | (refine is_asked ?_; (first | (refine is_spec ?_; (first | (refine asked j1 (by rw [← hj1]; exact sp_rem' (by omega)) ?_) | (refine asked j (by rw [← hj]; exact sp_rem' (by omega)) ?_) | (with_reducible refine asked _ (sp_add (by simp only [lo, hi]; omega) (by simp only [lo, hi]; omega)) ?_))) | (refine asked _ (ch_b l k (by show (0 + Int.toNat (k : Int)) * 3 + 0 = _; omega) (by omega)) ?_) | (refine asked _ (ch_c l k (by show (0 + Int.toNat (k : Int)) * 3 + 1 = _; omega) (by omega)) ?_) | (refine asked _ (ch_p l k (by show (0 + Int.toNat (k : Int)) * 3 + 2 = _; omega) (by omega)) ?_) | (refine asked _ (tab_gen m.now (i := j.toNat) (by omega)) ?_) | refine asked () ⟨by omega, by omega⟩ ?_); intro u; clear u) | (refine is_draw ?_; refine draw_step mixed (by kernel_rfl) ?_; intro u; clear u) | (refine is_dcall ?_; refine dcall_le (by (repeat' (first | exact trivial | apply And.intro | exact rfl)); (first | done | fail)) (hS) (by exact trivial) rfl ?_; intro u; clear u))
    · refine again (k + 1, m) ⟨by omega, hstep.symm⟩ (by show l.length - (k + 1) < l.length - k; omega) ?_
      (intro u; clear u; refine ⟨rfl, rfl, EntGoal.mk ?_ ?_⟩ <;> (repeat' (first | exact trivial | (with_reducible rfl) | apply And.intro | rfl)))
    · obtain rfl : k = l.length := by omega
      rw [← hm]
      (refine con_end ?_ rfl; intro u; clear u; refine ⟨rfl, rfl, EntGoal.mk ?_ ?_⟩ <;> (repeat' (first | exact trivial | (with_reducible rfl) | apply And.intro | rfl)))
end Go.Proofs.S11
