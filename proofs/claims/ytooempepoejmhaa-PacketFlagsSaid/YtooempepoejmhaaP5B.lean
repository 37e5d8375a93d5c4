/- Contracts of functions of the program, or a row of the seat, proved out of them. No condition beyond those that stand in each statement. -/
import Derived.Test.YtooempepoejmhaaP5A
namespace Go.Proofs.P5
open Go Go.SE
set_option maxRecDepth 100000
set_option maxHeartbeats 4000000
attribute [local irreducible] specI

/-! ### memory of one's own -/

theorem sclone_con {l : List Int} (hne : l ≠ []) (hl : l.length ≤ 100000) : CallCon Try.prog 35 [.one (.sl 0 0 l.length)] [.row (ints .u8 l) 1 5 false] (.t (.one (.sl 0 0 l.length))) [.row (ints .u8 l) 1 5 true] := by
  have hx : ints IntKind.u8 l ≠ [] := by cases l with
    | nil => exact absurd rfl hne
    | cons x l => simp [ints]
  refine con_of_call2 rfl ?_
  refine call_inline Try.func35 rfl rfl ?_
  intro _
  repeat' (refine is_asked ?_; (first | (refine asked () (.inr hx) ?_) | (refine asked (ints .u8 l) ⟨by rw [P2.ints_all]; rfl, rfl, by rw [P2.ints_all, ints_length]; show _ = _ * 1; omega, by unfold maxLen; omega, by show _ * 1 ≤ _; omega⟩ ?_)); intro u; clear u)
  (refine con_end ?_ rfl; intro u; clear u; refine ⟨rfl, rfl, EntGoal.mk ?_ ?_⟩ <;> (repeat' (first | exact trivial | (with_reducible rfl) | apply And.intro | rfl)))
  all_goals omega
theorem sclone_nil : CallCon Try.prog 35 [.one (.v (.slice none 0 0))] [] (.t (.one (.sl 0 0 0))) [.row (ints .u8 []) 1 5 true] := by
  refine con_of_call2 rfl ?_
  refine call_inline Try.func35 rfl rfl ?_
  intro _
  repeat' fail
  (refine con_end ?_ rfl; intro u; clear u; refine ⟨rfl, rfl, EntGoal.mk ?_ ?_⟩ <;> (repeat' (first | exact trivial | (with_reducible rfl) | apply And.intro | rfl)))
theorem sclone_empty (a : Addr) (cap : Nat) : CallCon Try.prog 35 [.one (.v (.slice (some a) 0 cap))] [] (.t (.one (.sl 0 0 0))) [.row (ints .u8 []) 1 5 true] := by
  refine con_of_call2 rfl ?_
  refine call_inline Try.func35 rfl rfl ?_
  intro _
  repeat' (refine is_asked ?_; (refine asked [] ⟨rfl, rfl, rfl, by decide, by decide⟩ ?_); intro u; clear u)
  (refine con_end ?_ rfl; intro u; clear u; refine ⟨rfl, rfl, EntGoal.mk ?_ ?_⟩ <;> (repeat' (first | exact trivial | (with_reducible rfl) | apply And.intro | rfl)))
theorem sclone_all {l : List Int} (hl : l.length ≤ 100000) : CallCon Try.prog 35 [.one (.sl 0 0 l.length)] [.row (ints .u8 l) 1 5 false] (.t (.one (.sl 0 0 l.length))) [.row (ints .u8 l) 1 5 true] := by
  by_cases h : l = []
  · subst h
    exact con_empty sclone_nil sclone_empty
  · exact sclone_con h hl
theorem own_con {p : Pk} (hl : p.bytes.length ≤ 100000) : CallCon Try.prog 19 [pkT p 0] [.row (ints .u8 p.bytes) 1 5 false] (.t (pkT p 0)) [.row (ints .u8 p.bytes) 1 5 true] := by
  have e1 := sclone_all hl
  refine con_of_call2 rfl ?_
  refine call_inline Try.func19 rfl rfl ?_
  intro _
  repeat' (refine is_call ?_; refine call_auto (e1) (lets_rfl rfl) (by exact ⟨⟨_, rfl, rfl, rfl⟩, trivial⟩) rfl ?_; intro u; clear u)
  (refine con_end ?_ rfl; intro u; clear u; refine ⟨rfl, rfl, EntGoal.mk ?_ ?_⟩ <;> (repeat' (first | exact trivial | (with_reducible rfl) | apply And.intro | rfl)))

/-! ### what is made -/

structure Tu where
  src : Int
  dst : Int
  sport : Int
  dport : Int
structure Tu.Wf (t : Tu) : Prop where
  src : 0 ≤ t.src ∧ t.src ≤ 4294967295
  dst : 0 ≤ t.dst ∧ t.dst ≤ 4294967295
  sport : 0 ≤ t.sport ∧ t.sport ≤ 65535
  dport : 0 ≤ t.dport ∧ t.dport ≤ 65535
def tuT (t : Tu) : T := .agg [.v (.int .u32 t.src), .v (.int .u32 t.dst), .v (.int .u16 t.sport), .v (.int .u16 t.dport)]
def segOf (t : Tu) (flags : Int) (data : List Int) : P3.Seg := ⟨t.sport, t.dport, flags, 20, data⟩
def hdOf (t : Tu) (b : List Int) : P2.Hd := ⟨0, 0, 0, 64, 6, t.src, t.dst, [], b⟩
def tcpL (t : Tu) (flags : Int) (data : List Int) : List Int := P3.putL t.src t.dst (segOf t flags data)
def makeL (t : Tu) (flags : Int) (data : List Int) : List Int := P2.putL (hdOf t (tcpL t flags data))

theorem seg_wf {t : Tu} {f : Int} {d : List Int} (h : t.Wf) (hf : 0 ≤ f ∧ f ≤ 255) (hd : ∀ x ∈ d, 0 ≤ x ∧ x ≤ 255) (hl : d.length ≤ 3000) : (segOf t f d).Wf := ⟨h.sport, h.dport, hf, (show (-9223372036854775808 : Int) ≤ 20 ∧ (20 : Int) ≤ 9223372036854775807 by decide), hd, by show d.length ≤ 4000; omega⟩
theorem seg_ok (t : Tu) (f : Int) (d : List Int) : P3.okSeg (segOf t f d) := (show ((20 : Int) ≤ 20 ∧ (20 : Int) ≤ 60) ∧ (20 : Int) % 4 = 0 by decide)
theorem tcp_len {t : Tu} {f : Int} {d : List Int} : (tcpL t f d).length = 20 + d.length := by
  unfold tcpL P3.putL
  rw [if_pos (seg_ok t f d), P3.seg_len (seg_ok t f d)]
  rfl
theorem tcp_bytes {t : Tu} {f : Int} {d : List Int} (h : t.Wf) (hf : 0 ≤ f ∧ f ≤ 255) (hd : ∀ x ∈ d, 0 ≤ x ∧ x ≤ 255) (hl : d.length ≤ 3000) : ∀ x ∈ tcpL t f d, 0 ≤ x ∧ x ≤ 255 := P3.put_bytes (seg_wf h hf hd hl)
theorem hd_wf {t : Tu} {b : List Int} (h : t.Wf) (hb : ∀ x ∈ b, 0 ≤ x ∧ x ≤ 255) (hl : b.length ≤ 4000) : (hdOf t b).Wf := ⟨⟨(show (0 : Int) ≤ 0 ∧ (0 : Int) ≤ 255 by decide), (show (0 : Int) ≤ 0 ∧ (0 : Int) ≤ 65535 by decide), (show (0 : Int) ≤ 0 ∧ (0 : Int) ≤ 65535 by decide), (show (0 : Int) ≤ 64 ∧ (64 : Int) ≤ 255 by decide), (show (0 : Int) ≤ 6 ∧ (6 : Int) ≤ 255 by decide), h.src, h.dst, by simp [hdOf], hb⟩, (show 0 ≤ 4000 by decide), hl⟩
theorem hd_ok (t : Tu) (b : List Int) : P2.okHd (hdOf t b) := ⟨.inl rfl, (show 0 ≤ 40 by decide), (show 0 % 4 = 0 by decide)⟩
theorem make_len {t : Tu} {f : Int} {d : List Int} : (makeL t f d).length = 40 + d.length := by
  unfold makeL
  rw [P2.put_len, if_pos (hd_ok _ _)]
  show 20 + 0 + (tcpL t f d).length = _
  rw [tcp_len]; omega
theorem make_bytes {t : Tu} {f : Int} {d : List Int} (h : t.Wf) (hf : 0 ≤ f ∧ f ≤ 255) (hd : ∀ x ∈ d, 0 ≤ x ∧ x ≤ 255) (hl : d.length ≤ 3000) : ∀ x ∈ makeL t f d, 0 ≤ x ∧ x ≤ 255 := P2.put_bytes (hd_wf h (tcp_bytes h hf hd hl) (by rw [tcp_len]; omega))

def hdN (t : Tu) (b : List Int) : T := .agg [.v (.int .u8 0), .v (.int .u16 0), .v (.int .u16 0), .v (.int .u8 64), .v (.int .u8 6), .v (.int .u32 t.src), .v (.int .u32 t.dst), .v (.slice none 0 0), .sl 0 0 b.length]
theorem ipput_con {t : Tu} {b : List Int} (h : t.Wf) (hb : ∀ x ∈ b, 0 ≤ x ∧ x ≤ 255) (hl : b.length ≤ 4000) : CallCon Try.prog 31 [hdN t b] [.row (ints .u8 b) 1 5 false] (.tup [.one (.sl 0 0 (P2.putL (hdOf t b)).length), .one (.v (.bool true))]) [.row (ints .u8 (P2.putL (hdOf t b))) 1 5 true] := by
  have h1 := P2.put_con (hd_wf h hb hl)
  rw [decide_eq_true (hd_ok t b)] at h1
  exact con_nil0 [hdN t b] (con_known2 h1) (by repeat' (first | exact trivial | exact rfl | exact Or.inl rfl | apply And.intro))
theorem refipput_con {t : Tu} {b : List Int} (h : t.Wf) (hb : ∀ x ∈ b, 0 ≤ x ∧ x ≤ 255) (hl : b.length ≤ 4000) : CallCon Try.prog 33 [hdN t b] [.row (ints .u8 b) 1 5 false] (.tup [.one (.sl 0 0 (P2.putL (hdOf t b)).length), .one (.v (.bool true))]) [.row (ints .u8 (P2.putL (hdOf t b))) 1 5 true] := by
  have h1 := P2.refput_con (hd_wf h hb hl)
  rw [decide_eq_true (hd_ok t b)] at h1
  exact con_nil0 [hdN t b] (con_known2 h1) (by repeat' (first | exact trivial | exact rfl | exact Or.inl rfl | apply And.intro))
theorem make_con {t : Tu} {f : Int} {d : List Int} (h : t.Wf) (hf : 0 ≤ f ∧ f ≤ 255) (hd : ∀ x ∈ d, 0 ≤ x ∧ x ≤ 255) (hl : d.length ≤ 3000) : CallCon Try.prog 10 [tuT t, .one (.v (.int .u8 f)), .one (.sl 0 0 d.length)] [.row (ints .u8 d) 1 5 false] (.tup [.one (.sl 0 0 (makeL t f d).length), .one (.v (.bool true))]) [.row (ints .u8 (makeL t f d)) 1 5 true] := by
  have h1 := P3.put_con h.src h.dst (seg_wf h hf hd hl)
  rw [decide_eq_true (seg_ok t f d)] at h1
  have h2 := con_known2 h1
  have h3 := ipput_con h (tcp_bytes h hf hd hl) (by rw [tcp_len]; omega)
  refine con_of_call2 rfl ?_
  refine call_inline Try.func10 rfl rfl ?_
  intro _
  repeat' (refine is_call ?_; (first | refine call_le (by (repeat' (first | exact trivial | apply And.intro | exact rfl)); (first | done | fail)) (h2) (by exact ⟨⟨_, rfl, rfl, rfl⟩, trivial⟩) rfl ?_ | refine call_le (by (repeat' (first | exact trivial | apply And.intro | exact rfl)); (first | done | fail)) (h3) (by exact ⟨⟨_, rfl, rfl, rfl⟩, trivial⟩) rfl ?_); intro u; clear u)
  (refine con_end ?_ rfl; intro u; clear u; refine ⟨rfl, rfl, EntGoal.mk ?_ ?_⟩ <;> (repeat' (first | exact trivial | (with_reducible rfl) | apply And.intro | rfl)))
theorem refmake_con {t : Tu} {f : Int} {d : List Int} (h : t.Wf) (hf : 0 ≤ f ∧ f ≤ 255) (hd : ∀ x ∈ d, 0 ≤ x ∧ x ≤ 255) (hl : d.length ≤ 3000) : CallCon Try.prog 11 [tuT t, .one (.v (.int .u8 f)), .one (.sl 0 0 d.length)] [.row (ints .u8 d) 1 5 false] (.tup [.one (.sl 0 0 (makeL t f d).length), .one (.v (.bool true))]) [.row (ints .u8 (makeL t f d)) 1 5 true] := by
  have h1 := P3.refput_con h.src h.dst (seg_wf h hf hd hl)
  rw [decide_eq_true (seg_ok t f d)] at h1
  have h2 := con_known2 h1
  have h3 := refipput_con h (tcp_bytes h hf hd hl) (by rw [tcp_len]; omega)
  refine con_of_call2 rfl ?_
  refine call_inline Try.func11 rfl rfl ?_
  intro _
  repeat' (refine is_call ?_; (first | refine call_le (by (repeat' (first | exact trivial | apply And.intro | exact rfl)); (first | done | fail)) (h2) (by exact ⟨⟨_, rfl, rfl, rfl⟩, trivial⟩) rfl ?_ | refine call_le (by (repeat' (first | exact trivial | apply And.intro | exact rfl)); (first | done | fail)) (h3) (by exact ⟨⟨_, rfl, rfl, rfl⟩, trivial⟩) rfl ?_); intro u; clear u)
  (refine con_end ?_ rfl; intro u; clear u; refine ⟨rfl, rfl, EntGoal.mk ?_ ?_⟩ <;> (repeat' (first | exact trivial | (with_reducible rfl) | apply And.intro | rfl)))
