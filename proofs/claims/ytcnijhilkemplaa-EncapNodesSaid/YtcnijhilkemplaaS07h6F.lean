/- Contracts of functions of the program, or a row of the seat, proved out of them. No condition beyond those that stand in each statement. -/
import Derived.Test.YtcnijhilkemplaaS07h6D
namespace Go.Proofs.S07.O6
open Go Go.SE
set_option maxRecDepth 100000
set_option maxHeartbeats 4000000
attribute [local irreducible] specI
attribute [local irreducible] okOpt

theorem take_put {o : Opt} (h : o.Wf) (hok : okOpt o = true) : takeO (putS o) = o ∧ takeE (putS o) = 0 ∧ (putS o).length = 16 := by
  have hk := hok
  unfold okOpt at hk
  replace hk := of_decide_eq_true hk
  have e : putS o = [158, 16, o.kind, o.bucket, o.cur % 256, o.prev % 256, o.gen / 16777216 % 256, o.gen / 65536 % 256, o.gen / 256 % 256, o.gen % 256,
    o.tick / 1099511627776 % 256, o.tick / 4294967296 % 256, o.tick / 16777216 % 256, o.tick / 65536 % 256, o.tick / 256 % 256, o.tick % 256] := by simp [putS, hok]
  have e2 : parseO o.kind o.bucket (o.cur % 256) (o.prev % 256) (o.gen / 16777216 % 256) (o.gen / 65536 % 256) (o.gen / 256 % 256) (o.gen % 256)
    (o.tick / 1099511627776 % 256) (o.tick / 4294967296 % 256) (o.tick / 16777216 % 256) (o.tick / 65536 % 256) (o.tick / 256 % 256) (o.tick % 256) = o := by
    obtain ⟨kind, bucket, cur, prev, gen, tick⟩ := o
    simp only at hk
    simp only [parseO, num, nodeS, Opt.mk.injEq, true_and]
    refine ⟨?_, ?_, ?_, ?_⟩ <;> (repeat' split) <;> omega
  rw [e]
  refine ⟨?_, ?_, rfl⟩ <;> simp [takeO, takeE, e2, hok]

theorem take_cases {l : List Int} (hb : Bytes l) : (takeE l = 0 ∧ okOpt (takeO l) = true ∧ putS (takeO l) = l ∧ (takeO l).Wf ∧ l.length = 16) ∨ (takeE l = 60 ∧ takeO l = zeroO ∧ 16 ≤ l.length) ∨ (takeE l = 61 ∧ takeO l = zeroO ∧ l.length < 16) := by
  by_cases h : l.length = 16
  · obtain ⟨b0, b1, b2, b3, b4, b5, b6, b7, b8, b9, b10, b11, b12, b13, b14, b15, rfl⟩ := len16 h
    simp only [Bytes, List.mem_cons, List.not_mem_nil, or_false, forall_eq_or_imp, forall_eq] at hb
    obtain ⟨h0, h1, h2, h3, h4, h5, h6, h7, h8, h9, h10, h11, h12, h13, h14, h15⟩ := hb
    simp only [takeO, takeE]
    by_cases hc : b0 = 158 ∧ b1 = 16 ∧ okOpt (parseO b2 b3 b4 b5 b6 b7 b8 b9 b10 b11 b12 b13 b14 b15) = true
    · rw [if_pos hc, if_pos hc]
      exact .inl ⟨rfl, hc.2.2, (put_parse h0 h1 h2 h3 h4 h5 h6 h7 h8 h9 h10 h11 h12 h13 h14 h15 hc.2.2).2 ⟨hc.1, hc.2.1⟩, ⟨h2.1, h2.2, h3.1, h3.2⟩, rfl⟩
    · rw [if_neg hc, if_neg hc]
      exact .inr (.inl ⟨rfl, rfl, Nat.le_refl _⟩)
  · obtain ⟨e1, e2⟩ := take_len h
    rw [e1, e2]
    by_cases h2 : l.length < 16
    · rw [if_pos h2]; exact .inr (.inr ⟨rfl, rfl, h2⟩)
    · rw [if_neg h2]; exact .inr (.inl ⟨rfl, rfl, by omega⟩)

/-- What Put tells of an option that may be, and of one that may not. -/
theorem put_yes {o : Opt} (h : o.Wf) (hok : okOpt o = true) : CallCon Try.prog 29 [optT o] [] (.tup [.one (.sl 0 0 16), .one (.v (.int .i64 0))]) [.row (ints .u8 (putS o)) 1 5 true] := by
  have := put_con h
  rwa [(take_put h hok).2.2, putE_zero.2 hok] at this
theorem put_as {o : Opt} {l : List Int} (h : o.Wf) (hok : okOpt o = true) (e : putS o = l) : CallCon Try.prog 29 [optT o] [] (.tup [.one (.sl 0 0 l.length), .one (.v (.int .i64 0))]) [.row (ints .u8 l) 1 5 true] := by
  subst e
  have := put_con h
  rwa [putE_zero.2 hok] at this
theorem put_no {o : Opt} (h : o.Wf) (hok : okOpt o = false) : CallCon Try.prog 29 [optT o] [] (.tup [.one (.sl 0 0 0), .one (.v (.int .i64 2))]) [.row (ints .u8 []) 1 5 true] := by
  have := put_con h
  rwa [show putS o = [] by simp [putS, hok], show putE o = 2 by simp [putE, hok]] at this
theorem right_yes {o : Opt} {b : Bool} (h : o.Wf) (hok : okOpt o = b) : CallCon Try.prog 42 [optT o] [] (.t (.one (.b b))) [] := by
  have := right_con h
  rwa [hok] at this
theorem take_yes {o : Opt} (h : o.Wf) (hok : okOpt o = true) : CallCon Try.prog 34 [.one (.sl 0 0 16)] [.row (ints .u8 (putS o)) 1 5 false] (.tup [optT o, .one (.v (.int .i64 0))]) [] := by
  have hl := (take_put h hok).2.2
  have := take_con (l := putS o) (by omega) (put_bytes h)
  rwa [hl, (take_put h hok).1, (take_put h hok).2.1] at this
theorem take_e {l : List Int} {e : Int} {o : Opt} (hl : l.length ≤ 100) (hb : Bytes l) (he : takeE l = e) (ho : takeO l = o) : CallCon Try.prog 34 [.one (.sl 0 0 l.length)] [.row (ints .u8 l) 1 5 false] (.tup [optT o, .one (.v (.int .i64 e))]) [] := by
  have := take_con hl hb
  rwa [he, ho] at this

