/- Contracts of functions of the program, or a row of the seat, proved out of them. No condition beyond those that stand in each statement. -/
import Derived.Test.YtcnijhilkemplaaS07h7F
namespace Go.Proofs.S07.E7
open Go Go.SE
open Go.Proofs.S07.O6 (Opt optT okOpt putS putE takeO takeE zeroO)
open Go.Proofs.S07.I2 (Hd hdT okHd putL parseE parseS zeroHd)
set_option maxRecDepth 100000
set_option maxHeartbeats 4000000
attribute [local irreducible] specI okOpt putL parseE parseS takeE takeO putS




attribute [local irreducible] wrB okTake

/-! ### plain laws -/

theorem wrB_is {w : Wr} (hk : okWr w) : wrB w = putL (putHd w) := by unfold wrB; rw [if_pos hk]
theorem wrB_bytes {w : Wr} (h : w.Wf) (hl : w.inner.length ≤ 4000) : ∀ x ∈ wrB w, 0 ≤ x ∧ x ≤ 255 := by
  by_cases hk : okWr w
  · rw [wrB_is hk]; exact I2.put_bytes (putHd_wf h hl hk.2.2)
  · rw [wrB_no hk]; simp
theorem wr_parse {w : Wr} (h : w.Wf) (hl : w.inner.length ≤ 4000) (hk : okWr w) : parseE (wrB w) = 0 ∧ parseS (wrB w) = putHd w := by
  rw [wrB_is hk]
  exact I2.put_parse (putHd_wf h hl hk.2.2) (putHd_ok h hk.2.2)
theorem wr_back {w : Wr} (h : w.Wf) (hl : w.inner.length ≤ 4000) (hk : okWr w) : takeW (wrB w) = w ∧ takeD (wrB w) = 0 := by
  obtain ⟨h1, h2⟩ := wr_parse h hl hk
  obtain ⟨h3, h4, _⟩ := O6.take_put h.opt hk.2.2
  obtain ⟨f1, f2⟩ := ndOf_adr hk.1
  obtain ⟨t1, t2⟩ := ndOf_adr hk.2.1
  have hc : cand (wrB w) = w := by
    unfold cand
    rw [h2]
    show Wr.mk (ndOf (adr w.frm)) (ndOf (adr w.to)) (takeO (putS w.opt)) w.inner = w
    rw [f2, t2, h3]
  have ho : okTake (wrB w) := by
    unfold okTake
    rw [hc, h2]
    exact ⟨h1, h4, f1, t1, rfl⟩
  unfold takeW takeD
  rw [if_pos ho, if_pos ho]
  exact ⟨hc, rfl⟩
theorem take_wf {l : List Int} (hb : ∀ x ∈ l, 0 ≤ x ∧ x ≤ 255) (hl : l.length ≤ 4000) : (takeW l).Wf := by
  unfold takeW
  split
  · exact cand_wf hb hl
  · exact ⟨⟨by decide, by decide⟩, ⟨by decide, by decide⟩, ⟨by decide, by decide, by decide, by decide⟩, by simp [zeroWr]⟩
theorem take_len {l : List Int} (hb : ∀ x ∈ l, 0 ≤ x ∧ x ≤ 255) (hl : l.length ≤ 4000) : (takeW l).inner.length ≤ l.length := by
  unfold takeW
  split
  · rename_i h
    unfold okTake at h
    have hk := cand_ok hb hl h.2.1 h.2.2.1 h.2.2.2.1
    have := wrB_len (cand_wf hb hl) hk
    rw [h.2.2.2.2] at this
    omega
  · simp [zeroWr]
/-- With a byte fewer it is none. -/
theorem take_short {l : List Int} {n : Nat} (hE : parseE l = 0) (hn : n < l.length) (h4 : 4 ≤ n) : ¬ okTake (l.take n) := by
  intro h
  unfold okTake at h
  have h1 := h.1
  have e1 : I2.wN l 2 = l.length := by
    rcases I2.parse_cases l with ⟨e, _⟩ | ⟨e, _⟩ | ⟨e, _⟩ | ⟨e, _⟩ | ⟨e, _⟩ | ⟨e, _⟩ | ⟨_, _, _, _, _, e, _⟩ <;> first | omega | exact e
  have e2 : I2.wN (l.take n) 2 = (l.take n).length := by
    rcases I2.parse_cases (l.take n) with ⟨e, _⟩ | ⟨e, _⟩ | ⟨e, _⟩ | ⟨e, _⟩ | ⟨e, _⟩ | ⟨e, _⟩ | ⟨_, _, _, _, _, e, _⟩ <;> first | omega | exact e
  have e3 : I2.wN (l.take n) 2 = I2.wN l 2 := by
    unfold I2.wN
    simp only [List.getD_eq_getElem?_getD, List.getElem?_take]
    rw [if_pos (by omega), if_pos (by omega)]
  rw [e3, e1, List.length_take] at e2
  omega

/-! ### wakes -/

def o0 : Opt := ⟨1, 5, 3, -1, 7, 9⟩
def n1 : Nd := ⟨1, 1⟩
def n2 : Nd := ⟨2, 3⟩
def zs (n : Nat) : List Int := List.replicate n 0
theorem zs_len (n : Nat) : (zs n).length = n := List.length_replicate
theorem zs_bytes (n : Nat) : ∀ x ∈ zs n, 0 ≤ x ∧ x ≤ 255 := fun x hx => by
  rw [List.eq_of_mem_replicate hx]; decide
theorem zerosV_zs : ∀ n, zerosV [.int .u8 0] n = ints .u8 (zs n)
  | 0 => rfl
  | n + 1 => by
    show [Value.int .u8 0] ++ zerosV [.int .u8 0] n = _
    rw [zerosV_zs n]; rfl
def w0 : Wr := ⟨n1, n2, o0, zs 40⟩
theorem n1_wf : n1.Wf := ⟨by decide, by decide⟩
theorem n2_wf : n2.Wf := ⟨by decide, by decide⟩
theorem o0_wf : o0.Wf := ⟨by decide, by decide, by decide, by decide⟩
theorem o0_ok : okOpt o0 = true := by unfold okOpt; rfl
theorem w0_wf : w0.Wf := ⟨n1_wf, n2_wf, o0_wf, zs_bytes 40⟩
theorem w0_ok : okWr w0 := ⟨by decide, by decide, o0_ok⟩
theorem w0_len : w0.inner.length = 40 := zs_len 40
def b0 : List Int := wrB w0
theorem b0_len : b0.length = 76 := by
  have := wrB_len w0_wf w0_ok
  rw [w0_len] at this
  exact this
theorem b0_bytes : ∀ x ∈ b0, 0 ≤ x ∧ x ≤ 255 := wrB_bytes w0_wf (by rw [w0_len]; omega)
attribute [local irreducible] b0 zs
def w0S (h n : Nat) : List S := [.n .u8 1, .n .i64 1, .n .u8 2, .n .i64 3, .n .u8 1, .n .u8 5, .n .i64 3, .n .i64 (-1), .n .i64 7, .n .i64 9, .sl h 0 n]
def w0V (h n : Nat) : List S := [.v (.int .u8 1), .v (.int .i64 1), .v (.int .u8 2), .v (.int .i64 3), .v (.int .u8 1), .v (.int .u8 5), .v (.int .i64 3), .v (.int .i64 (-1)), .v (.int .i64 7), .v (.int .i64 9), .sl h 0 n]
theorem wrapped_con : CallCon Try.prog 26 [] [] (.t (.agg (w0S 0 40))) [.row (ints .u8 (zs 40)) 1 5 true] := by
  refine con_of_call2 rfl ?_
  refine call_inline Try.func26 rfl rfl ?_
  intro _
  repeat' (refine is_asked ?_; (refine asked (40, 40, ints .u8 (zs 40)) ⟨rfl, rfl, by decide, by decide, by decide, zerosV_zs 40⟩ ?_); intro u; clear u)
  all_goals (refine con_end ?_ rfl; intro u; clear u; refine ⟨rfl, rfl, EntGoal.mk ?_ ?_⟩ <;> (repeat' (first | exact trivial | (with_reducible rfl) | apply And.intro | rfl)))
theorem put0 : CallCon Try.prog 13 [.agg (w0V 0 40)] [.row (ints .u8 (zs 40)) 1 5 false] (.tup [.one (.sl 0 0 76), .one (.n .u8 0)]) [.row (ints .u8 b0) 1 5 true] := by
  have := put_yes w0_wf (by rw [w0_len]; omega) w0_ok
  rw [wrT, wrS, w0_len, ← show b0 = wrB w0 by unfold b0; rfl, b0_len] at this
  exact con_num2 this
theorem take0 : CallCon Try.prog 15 [.one (.sl 0 0 76)] [.row (ints .u8 b0) 1 5 false] (.tup [.agg (w0V 0 40), .one (.n .u8 0)]) [.row (ints .u8 (zs 40)) 1 5 true] := by
  have := take_con (l := b0) b0_bytes (by rw [b0_len]; omega)
  obtain ⟨h1, h2⟩ := wr_back w0_wf (by rw [w0_len]; omega) w0_ok
  rw [← show b0 = wrB w0 by unfold b0; rfl] at h1 h2
  rw [h1, h2, wrT, wrS, w0_len, b0_len] at this
  exact con_num2 this
theorem addr2 : CallCon Try.prog 9 [.agg [.v (.int .u8 2), .v (.int .i64 3)]] [] (.tup [.one (.n .u32 167772675), .one (.v (.bool true))]) [] := con_numb (addr_con n2)
theorem addr3 : CallCon Try.prog 9 [.agg [.v (.int .u8 3), .v (.int .i64 1)]] [] (.tup [.one (.n .u32 0), .one (.v (.bool false))]) [] := con_numb (addr_con ⟨3, 1⟩)
theorem node2 : CallCon Try.prog 11 [.one (.v (.int .u32 167772675))] [] (.tup [.agg [.v (.int .u8 2), .v (.int .i64 3)], .one (.v (.bool true))]) [] := con_known2 (node_con (a := 167772675) (by decide))
theorem node3 : CallCon Try.prog 11 [.one (.v (.int .u32 167772678))] [] (.tup [.agg [.v (.int .u8 0), .v (.int .i64 0)], .one (.v (.bool false))]) [] := con_known2 (node_con (a := 167772678) (by decide))
theorem put_long : CallCon Try.prog 13 [.agg (w0V 0 65500)] [.row (ints .u8 (zs 65500)) 1 5 false] (.tup [.one (.sl 0 0 0), .one (.n .u8 12)]) [.row (ints .u8 []) 1 5 true] := by
  have hp := O6.put_yes o0_wf o0_ok
  have ha : CallCon Try.prog 9 [.agg [.v (.int .u8 1), .v (.int .i64 1)]] [] (.tup [.one (.n .u32 167772417), .one (.v (.bool true))]) [] := con_numb (addr_con n1)
  refine con_of_call2 rfl ?_
  refine call_inline Try.func13 rfl rfl ?_
  intro _
  repeat' (first | (refine is_split ?_; (first | refine sp_yes (by rfl) ?_ | refine sp_no (by rfl) ?_) <;> (intro u; clear u)) | (refine is_asked ?_; (refine is_spec ?_; (first | (with_reducible refine asked _ (sp_add (by simp only [lo, hi]; omega) (by simp only [lo, hi]; omega)) ?_) | (with_reducible refine asked _ (sp_maskL 2 4 (by decide) (by decide) (by decide) (by simp only [lo, hi]; omega)) ?_))); intro u; clear u) | (refine is_scope ?_; refine scope_step ?_; intro u; clear u) | (refine is_call ?_; (first | refine call_auto (hp) (lets_rfl rfl) (by exact trivial) rfl ?_ | refine call_auto (ha) (lets_rfl rfl) (by exact trivial) rfl ?_ | refine call_auto (addr2) (lets_rfl rfl) (by exact trivial) rfl ?_ | refine call_inline Try.func30 rfl rfl ?_ | refine call_inline Try.func44 rfl rfl ?_); intro u; clear u))
  all_goals (refine con_end ?_ rfl; intro u; clear u; refine ⟨rfl, rfl, EntGoal.mk ?_ ?_⟩ <;> (repeat' (first | exact trivial | (with_reducible rfl) | apply And.intro | rfl)))

theorem put_zero : CallCon Try.prog 13 [.agg [.v (.int .u8 0), .v (.int .i64 0), .v (.int .u8 0), .v (.int .i64 0), .v (.int .u8 0), .v (.int .u8 0), .v (.int .i64 0), .v (.int .i64 0), .v (.int .i64 0), .v (.int .i64 0), .v (.slice none 0 0)]] [] (.tup [.one (.sl 0 0 0), .one (.n .u8 13)]) [.row (ints .u8 []) 1 5 true] := by
  have hp := O6.put_no (o := zeroO) ⟨by decide, by decide, by decide, by decide⟩ (by unfold okOpt; rfl)
  have ha : CallCon Try.prog 9 [.agg [.v (.int .u8 0), .v (.int .i64 0)]] [] (.tup [.one (.n .u32 0), .one (.v (.bool false))]) [] := con_numb (addr_con zeroNd)
  refine con_of_call2 rfl ?_
  refine call_inline Try.func13 rfl rfl ?_
  intro _
  repeat' (first | (refine is_split ?_; refine sp_yes (by rfl) ?_ <;> (intro u; clear u)) | (refine is_scope ?_; refine scope_step ?_; intro u; clear u) | (refine is_call ?_; (first | refine call_auto (hp) (lets_rfl rfl) (by exact trivial) rfl ?_ | refine call_auto (ha) (lets_rfl rfl) (by exact trivial) rfl ?_); intro u; clear u))
  all_goals (refine con_end ?_ rfl; intro u; clear u; refine ⟨rfl, rfl, EntGoal.mk ?_ ?_⟩ <;> (repeat' (first | exact trivial | (with_reducible rfl) | apply And.intro | rfl)))
theorem take75 : CallCon Try.prog 15 [.one (.sl 0 0 75)] [.row (ints .u8 b0) 1 5 false] (.tup [.agg [.v (.int .u8 0), .v (.int .i64 0), .v (.int .u8 0), .v (.int .i64 0), .v (.int .u8 0), .v (.int .u8 0), .v (.int .i64 0), .v (.int .i64 0), .v (.int .i64 0), .v (.int .i64 0), .sl 0 0 0], .one (.n .u8 13)]) [.row (ints .u8 []) 1 5 true] := by
  have hl : (b0.take 75).length = 75 := by rw [List.length_take, b0_len]; rfl
  have := take_con (l := b0.take 75) (fun x hx => b0_bytes x (List.mem_of_mem_take hx)) (by omega)
  have hE : parseE b0 = 0 := by
    have := (wr_parse w0_wf (by rw [w0_len]; omega) w0_ok).1
    rwa [← show b0 = wrB w0 by unfold b0; rfl] at this
  have hk : ¬ okTake (b0.take 75) := take_short hE (by rw [b0_len]; omega) (by omega)
  rw [(take_no hk).1, (take_no hk).2, hl] at this
  refine con_take 75 ?_
  have e : (ints .u8 b0).take 75 = ints .u8 (b0.take 75) := I2.ints_take _ _ _
  rw [e]
  exact con_num2 this
theorem refsame0 : CallCon Try.prog 18 [.agg (w0V 0 40), .agg (w0V 1 40)] [.row (ints .u8 (zs 40)) 1 5 false, .row (ints .u8 (zs 40)) 1 5 false] (.t (.one (.v (.bool true)))) [] := by
  have := con_yes (refsame_con w0_wf w0_wf) rfl
  rwa [wrT, wrT, wrS, wrS, w0_len] at this
theorem same0 : CallCon Try.prog 22 [.agg (w0V 0 40), .agg (w0V 1 40)] [.row (ints .u8 (zs 40)) 1 5 false, .row (ints .u8 (zs 40)) 1 5 false] (.t (.one (.v (.bool true)))) [] := by
  have := con_yes (same_con w0_wf w0_wf) rfl
  rwa [wrT, wrT, wrS, wrS, w0_len] at this
theorem same_long : CallCon Try.prog 22 [.agg (w0V 0 40), .agg (w0V 1 65500)] [.row (ints .u8 (zs 40)) 1 5 false, .row (ints .u8 (zs 65500)) 1 5 false] (.t (.one (.v (.bool false)))) [] := by
  have := con_no (same_con w0_wf (b := ⟨n1, n2, o0, zs 65500⟩) ⟨n1_wf, n2_wf, o0_wf, zs_bytes 65500⟩) (fun q => by
    have q : zs 40 = zs 65500 := by injection q
    have := congrArg List.length q
    rw [zs_len, zs_len] at this
    omega)
  rwa [wrT, wrT, wrS, wrS, w0_len, show (Wr.mk n1 n2 o0 (zs 65500)).inner.length = 65500 from zs_len 65500] at this
theorem own0 : CallCon Try.prog 23 [.agg (w0V 0 40)] [.row (ints .u8 (zs 40)) 1 5 false] (.t (.agg (w0V 0 40))) [.row (ints .u8 (zs 40)) 1 5 true] := by
  have := own_con (a := w0) (by rw [w0_len]; omega)
  rwa [wrT, wrS, w0_len] at this
theorem wakes_con : CallCon Try.prog 8 [] [] (.t (.one (.v (.bool true)))) [] := by
  refine con_of_call2 rfl ?_
  refine call_inline Try.func8 rfl rfl ?_
  intro _
  repeat' (first | (refine is_split ?_; refine sp_yes (by rfl) ?_ <;> (intro u; clear u)) | (refine is_asked ?_; (first | (refine asked (65500, 65500, ints .u8 (zs 65500)) ⟨rfl, rfl, by decide, by decide, by decide, zerosV_zs 65500⟩ ?_) | (refine asked (0, 75) ⟨rfl, rfl, by decide, by decide⟩ ?_) | refine asked () (by show heldFree Try.prog _ _ = true; decide +kernel) ?_); intro u; clear u) | (refine is_draw ?_; refine draw_step mixed (by kernel_rfl) ?_; intro u; clear u) | (refine is_call ?_; (first | refine call_auto (wrapped_con) (lets_rfl rfl) (by exact trivial) rfl ?_ | refine call_le (by (repeat' (first | exact trivial | apply And.intro | exact rfl)); (first | done | fail)) (put0) (by exact ⟨⟨_, rfl, rfl, rfl⟩, trivial⟩) rfl ?_ | refine call_auto (take0) (lets_rfl rfl) (by exact ⟨⟨_, rfl, rfl, rfl⟩, trivial⟩) rfl ?_ | refine call_le (by (repeat' (first | exact trivial | apply And.intro | exact rfl)); (first | done | fail)) (addr2) (by exact trivial) rfl ?_ | refine call_le (by (repeat' (first | exact trivial | apply And.intro | exact rfl)); (first | done | fail)) (node2) (by exact trivial) rfl ?_ | refine call_le (by (repeat' (first | exact trivial | apply And.intro | exact rfl)); (first | done | fail)) (addr3) (by exact trivial) rfl ?_ | refine call_le (by (repeat' (first | exact trivial | apply And.intro | exact rfl)); (first | done | fail)) (node3) (by exact trivial) rfl ?_ | refine call_le (by (repeat' (first | exact trivial | apply And.intro | exact rfl)); (first | done | fail)) (put_long) (by exact ⟨⟨_, rfl, rfl, rfl⟩, trivial⟩) rfl ?_ | refine call_le (by (repeat' (first | exact trivial | apply And.intro | exact rfl)); (first | done | fail)) (put_zero) (by exact trivial) rfl ?_ | refine call_auto (take75) (lets_rfl rfl) (by exact ⟨⟨_, rfl, rfl, rfl⟩, trivial⟩) rfl ?_); intro u; clear u) | (refine is_dcall ?_; (first | refine dcall_le (by (repeat' (first | exact trivial | apply And.intro | exact rfl)); (first | done | fail)) (refsame0) (by exact ⟨⟨_, rfl, rfl, rfl⟩, ⟨_, rfl, rfl, rfl⟩, trivial⟩) rfl ?_ | refine dcall_auto (nodes_con) (lets_rfl rfl) (by exact trivial) rfl ?_ | refine dcall_le (by (repeat' (first | exact trivial | apply And.intro | exact rfl)); (first | done | fail)) (same0) (by exact ⟨⟨_, rfl, rfl, rfl⟩, ⟨_, rfl, rfl, rfl⟩, trivial⟩) rfl ?_ | refine dcall_le (by (repeat' (first | exact trivial | apply And.intro | exact rfl)); (first | done | fail)) (same_long) (by exact ⟨⟨_, rfl, rfl, rfl⟩, ⟨_, rfl, rfl, rfl⟩, trivial⟩) rfl ?_ | refine dcall_le (by (repeat' (first | exact trivial | apply And.intro | exact rfl)); (first | done | fail)) (own0) (by exact ⟨⟨_, rfl, rfl, rfl⟩, trivial⟩) rfl ?_); intro u; clear u))
  all_goals (refine con_end ?_ rfl; intro u; clear u; refine ⟨rfl, rfl, EntGoal.mk ?_ ?_⟩ <;> (repeat' (first | exact trivial | (with_reducible rfl) | apply And.intro | rfl)))
