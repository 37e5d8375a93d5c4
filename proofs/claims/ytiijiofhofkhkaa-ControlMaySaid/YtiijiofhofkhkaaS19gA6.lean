/- Contracts of functions of the program, or a row of the seat, proved out of them. No condition beyond those that stand in each statement. -/
import Derived.Test.YtiijiofhofkhkaaS19g9X
import Derived.Test.YtiijiofhofkhkaaS19gY
namespace Go.Proofs.S19
open Go Go.SE
set_option maxRecDepth 100000
set_option maxHeartbeats 4000000

theorem ctl_ext {c d : Ctl} (h1 : c.kind = d.kind) (h2 : c.of = d.of) (h3 : c.agent = d.agent) (h4 : c.bkt = d.bkt) (h5 : c.gen = d.gen) (h6 : c.peer = d.peer) (h7 : c.ver = d.ver) (h8 : c.sh = d.sh) : c = d := by
  cases c; cases d; simp_all
theorem tkE_ok {b : List Int} (h : tkE b = 0) : tkOk b := by
  unfold tkE at h
  split at h
  · exact absurd h (by decide)
  · split at h
    · assumption
    · exact absurd h (by decide)
theorem ok_kind {c : Ctl} (h : okCtl c) : c.kind = 1 ∨ c.kind = 2 ∨ c.kind = 3 ∨ c.kind = 4 ∨ c.kind = 5 ∨ c.kind = 6 := by
  unfold okCtl at h; omega

/-- What is put of kind 1: it is read; with a byte fewer, or one more, it is none; it is of bytes. -/
theorem bk1 {of agent bkt gen peer ver base to : Int} {rows : List Row} (h : okCtl ⟨1, of, agent, bkt, gen, peer, ver, ⟨base, to, rows⟩⟩) :
    (tcOk (cpL ⟨1, of, agent, bkt, gen, peer, ver, ⟨base, to, rows⟩⟩) ∧ rdC (cpL ⟨1, of, agent, bkt, gen, peer, ver, ⟨base, to, rows⟩⟩) = ⟨1, of, agent, bkt, gen, peer, ver, ⟨base, to, rows⟩⟩) ∧ tcE ((cpL ⟨1, of, agent, bkt, gen, peer, ver, ⟨base, to, rows⟩⟩).take ((cpL ⟨1, of, agent, bkt, gen, peer, ver, ⟨base, to, rows⟩⟩).length - 1)) = 61 ∧ (∀ x, tcE (cpL ⟨1, of, agent, bkt, gen, peer, ver, ⟨base, to, rows⟩⟩ ++ [x]) = 60) ∧ Bytes (cpL ⟨1, of, agent, bkt, gen, peer, ver, ⟨base, to, rows⟩⟩) ∧ (2 ≤ (cpL ⟨1, of, agent, bkt, gen, peer, ver, ⟨base, to, rows⟩⟩).length ∧ (cpL ⟨1, of, agent, bkt, gen, peer, ver, ⟨base, to, rows⟩⟩).length ≤ 1002) := by
  have hr : rows = [] := Decidable.byContradiction fun q => ok1_no (of := of) (agent := agent) (bkt := bkt) (gen := gen) (peer := peer) (ver := ver) (base := base) (to := to) q h
  have q := (ok1_yes (of := of) (agent := agent) (bkt := bkt) (gen := gen) (peer := peer) (ver := ver) (base := base) (to := to) hr).1 h
  have e : cpL ⟨1, of, agent, bkt, gen, peer, ver, ⟨base, to, rows⟩⟩ = [1, agent / 1 % 256, bkt / 1 % 256, gen / 16777216 % 256, gen / 65536 % 256, gen / 256 % 256, gen / 1 % 256, (peer + 1) / 1 % 256] := by rw [cpL_yes h]; rfl
  rw [e]
  subst hr
  have hz : base = 0 ∧ to = 0 := by omega
  obtain ⟨rfl, rfl⟩ := hz
  have hn : numAt [1, agent / 1 % 256, bkt / 1 % 256, gen / 16777216 % 256, gen / 65536 % 256, gen / 256 % 256, gen / 1 % 256, (peer + 1) / 1 % 256] 3 4 = gen := by rw [num_lit4]; show ((gen / 16777216 % 256 * 256 + gen / 65536 % 256) * 256 + gen / 256 % 256) * 256 + gen / 1 % 256 = gen; exact be4_num (by omega)
  have hrd : rdC [1, agent / 1 % 256, bkt / 1 % 256, gen / 16777216 % 256, gen / 65536 % 256, gen / 256 % 256, gen / 1 % 256, (peer + 1) / 1 % 256] = ⟨1, of, agent, bkt, gen, peer, ver, ⟨0, 0, []⟩⟩ := by
    have : rdC [1, agent / 1 % 256, bkt / 1 % 256, gen / 16777216 % 256, gen / 65536 % 256, gen / 256 % 256, gen / 1 % 256, (peer + 1) / 1 % 256] = ⟨1, 0, agent / 1 % 256, bkt / 1 % 256, numAt [1, agent / 1 % 256, bkt / 1 % 256, gen / 16777216 % 256, gen / 65536 % 256, gen / 256 % 256, gen / 1 % 256, (peer + 1) / 1 % 256] 3 4, (peer + 1) / 1 % 256 - 1, 0, zeroSh⟩ := by unfold rdC; rfl
    rw [this, hn]
    apply ctl_ext <;> first | rfl | (dsimp only; omega)
  refine ⟨⟨⟨by show (1 : Int) ≤ 1 ∧ (1 : Int) ≤ 6; decide, fun w => absurd w (by show ¬ ((1 : Int) = 5); decide), fun _ => rfl, by rw [hrd]; exact h⟩, hrd⟩, ?_, fun x => ?_, ?_, by show 2 ≤ 8; decide, by show 8 ≤ 1002; decide⟩
  · exact tcE_short (by show ¬ (7 = 0); decide) (by show ¬ ((1 : Int) < 1 ∨ (6 : Int) < 1); decide) (by show 7 < 8; decide)
  · exact tcE_no (by show ¬ (9 = 0); decide) (by show ¬ ((1 : Int) < 1 ∨ (6 : Int) < 1); decide) (by show ¬ (9 < 8); decide) (fun w => absurd w.1 (by show ¬ ((1 : Int) = 5); decide)) (fun w => absurd (w.2.2.1 (by show ¬ ((1 : Int) = 5); decide)) (by show ¬ (9 = 8); decide))
  · intro y hy
    simp only [List.mem_cons, List.not_mem_nil, or_false] at hy
    omega
/-- What is put of kind 2: it is read; with a byte fewer, or one more, it is none; it is of bytes. -/
theorem bk2 {of agent bkt gen peer ver base to : Int} {rows : List Row} (h : okCtl ⟨2, of, agent, bkt, gen, peer, ver, ⟨base, to, rows⟩⟩) :
    (tcOk (cpL ⟨2, of, agent, bkt, gen, peer, ver, ⟨base, to, rows⟩⟩) ∧ rdC (cpL ⟨2, of, agent, bkt, gen, peer, ver, ⟨base, to, rows⟩⟩) = ⟨2, of, agent, bkt, gen, peer, ver, ⟨base, to, rows⟩⟩) ∧ tcE ((cpL ⟨2, of, agent, bkt, gen, peer, ver, ⟨base, to, rows⟩⟩).take ((cpL ⟨2, of, agent, bkt, gen, peer, ver, ⟨base, to, rows⟩⟩).length - 1)) = 61 ∧ (∀ x, tcE (cpL ⟨2, of, agent, bkt, gen, peer, ver, ⟨base, to, rows⟩⟩ ++ [x]) = 60) ∧ Bytes (cpL ⟨2, of, agent, bkt, gen, peer, ver, ⟨base, to, rows⟩⟩) ∧ (2 ≤ (cpL ⟨2, of, agent, bkt, gen, peer, ver, ⟨base, to, rows⟩⟩).length ∧ (cpL ⟨2, of, agent, bkt, gen, peer, ver, ⟨base, to, rows⟩⟩).length ≤ 1002) := by
  have hr : rows = [] := Decidable.byContradiction fun q => ok2_no (of := of) (agent := agent) (bkt := bkt) (gen := gen) (peer := peer) (ver := ver) (base := base) (to := to) q h
  have q := (ok2_yes (of := of) (agent := agent) (bkt := bkt) (gen := gen) (peer := peer) (ver := ver) (base := base) (to := to) hr).1 h
  have e : cpL ⟨2, of, agent, bkt, gen, peer, ver, ⟨base, to, rows⟩⟩ = [2, agent / 1 % 256, bkt / 1 % 256, gen / 16777216 % 256, gen / 65536 % 256, gen / 256 % 256, gen / 1 % 256, (peer + 1) / 1 % 256] := by rw [cpL_yes h]; rfl
  rw [e]
  subst hr
  have hz : base = 0 ∧ to = 0 := by omega
  obtain ⟨rfl, rfl⟩ := hz
  have hn : numAt [2, agent / 1 % 256, bkt / 1 % 256, gen / 16777216 % 256, gen / 65536 % 256, gen / 256 % 256, gen / 1 % 256, (peer + 1) / 1 % 256] 3 4 = gen := by rw [num_lit4]; show ((gen / 16777216 % 256 * 256 + gen / 65536 % 256) * 256 + gen / 256 % 256) * 256 + gen / 1 % 256 = gen; exact be4_num (by omega)
  have hrd : rdC [2, agent / 1 % 256, bkt / 1 % 256, gen / 16777216 % 256, gen / 65536 % 256, gen / 256 % 256, gen / 1 % 256, (peer + 1) / 1 % 256] = ⟨2, of, agent, bkt, gen, peer, ver, ⟨0, 0, []⟩⟩ := by
    have : rdC [2, agent / 1 % 256, bkt / 1 % 256, gen / 16777216 % 256, gen / 65536 % 256, gen / 256 % 256, gen / 1 % 256, (peer + 1) / 1 % 256] = ⟨2, 0, agent / 1 % 256, bkt / 1 % 256, numAt [2, agent / 1 % 256, bkt / 1 % 256, gen / 16777216 % 256, gen / 65536 % 256, gen / 256 % 256, gen / 1 % 256, (peer + 1) / 1 % 256] 3 4, (peer + 1) / 1 % 256 - 1, 0, zeroSh⟩ := by unfold rdC; rfl
    rw [this, hn]
    apply ctl_ext <;> first | rfl | (dsimp only; omega)
  refine ⟨⟨⟨by show (1 : Int) ≤ 2 ∧ (2 : Int) ≤ 6; decide, fun w => absurd w (by show ¬ ((2 : Int) = 5); decide), fun _ => rfl, by rw [hrd]; exact h⟩, hrd⟩, ?_, fun x => ?_, ?_, by show 2 ≤ 8; decide, by show 8 ≤ 1002; decide⟩
  · exact tcE_short (by show ¬ (7 = 0); decide) (by show ¬ ((2 : Int) < 1 ∨ (6 : Int) < 2); decide) (by show 7 < 8; decide)
  · exact tcE_no (by show ¬ (9 = 0); decide) (by show ¬ ((2 : Int) < 1 ∨ (6 : Int) < 2); decide) (by show ¬ (9 < 8); decide) (fun w => absurd w.1 (by show ¬ ((2 : Int) = 5); decide)) (fun w => absurd (w.2.2.1 (by show ¬ ((2 : Int) = 5); decide)) (by show ¬ (9 = 8); decide))
  · intro y hy
    simp only [List.mem_cons, List.not_mem_nil, or_false] at hy
    omega
/-- What is put of kind 3: it is read; with a byte fewer, or one more, it is none; it is of bytes. -/
theorem bk3 {of agent bkt gen peer ver base to : Int} {rows : List Row} (h : okCtl ⟨3, of, agent, bkt, gen, peer, ver, ⟨base, to, rows⟩⟩) :
    (tcOk (cpL ⟨3, of, agent, bkt, gen, peer, ver, ⟨base, to, rows⟩⟩) ∧ rdC (cpL ⟨3, of, agent, bkt, gen, peer, ver, ⟨base, to, rows⟩⟩) = ⟨3, of, agent, bkt, gen, peer, ver, ⟨base, to, rows⟩⟩) ∧ tcE ((cpL ⟨3, of, agent, bkt, gen, peer, ver, ⟨base, to, rows⟩⟩).take ((cpL ⟨3, of, agent, bkt, gen, peer, ver, ⟨base, to, rows⟩⟩).length - 1)) = 61 ∧ (∀ x, tcE (cpL ⟨3, of, agent, bkt, gen, peer, ver, ⟨base, to, rows⟩⟩ ++ [x]) = 60) ∧ Bytes (cpL ⟨3, of, agent, bkt, gen, peer, ver, ⟨base, to, rows⟩⟩) ∧ (2 ≤ (cpL ⟨3, of, agent, bkt, gen, peer, ver, ⟨base, to, rows⟩⟩).length ∧ (cpL ⟨3, of, agent, bkt, gen, peer, ver, ⟨base, to, rows⟩⟩).length ≤ 1002) := by
  have hr : rows = [] := Decidable.byContradiction fun q => ok3_no (of := of) (agent := agent) (bkt := bkt) (gen := gen) (peer := peer) (ver := ver) (base := base) (to := to) q h
  have q := (ok3_yes (of := of) (agent := agent) (bkt := bkt) (gen := gen) (peer := peer) (ver := ver) (base := base) (to := to) hr).1 h
  have e : cpL ⟨3, of, agent, bkt, gen, peer, ver, ⟨base, to, rows⟩⟩ = [3, agent / 1 % 256, bkt / 1 % 256, gen / 16777216 % 256, gen / 65536 % 256, gen / 256 % 256, gen / 1 % 256] := by rw [cpL_yes h]; rfl
  rw [e]
  subst hr
  have hz : base = 0 ∧ to = 0 := by omega
  obtain ⟨rfl, rfl⟩ := hz
  have hn : numAt [3, agent / 1 % 256, bkt / 1 % 256, gen / 16777216 % 256, gen / 65536 % 256, gen / 256 % 256, gen / 1 % 256] 3 4 = gen := by rw [num_lit4]; show ((gen / 16777216 % 256 * 256 + gen / 65536 % 256) * 256 + gen / 256 % 256) * 256 + gen / 1 % 256 = gen; exact be4_num (by omega)
  have hrd : rdC [3, agent / 1 % 256, bkt / 1 % 256, gen / 16777216 % 256, gen / 65536 % 256, gen / 256 % 256, gen / 1 % 256] = ⟨3, of, agent, bkt, gen, peer, ver, ⟨0, 0, []⟩⟩ := by
    have : rdC [3, agent / 1 % 256, bkt / 1 % 256, gen / 16777216 % 256, gen / 65536 % 256, gen / 256 % 256, gen / 1 % 256] = ⟨3, 0, agent / 1 % 256, bkt / 1 % 256, numAt [3, agent / 1 % 256, bkt / 1 % 256, gen / 16777216 % 256, gen / 65536 % 256, gen / 256 % 256, gen / 1 % 256] 3 4, 0, 0, zeroSh⟩ := by unfold rdC; rfl
    rw [this, hn]
    apply ctl_ext <;> first | rfl | (dsimp only; omega)
  refine ⟨⟨⟨by show (1 : Int) ≤ 3 ∧ (3 : Int) ≤ 6; decide, fun w => absurd w (by show ¬ ((3 : Int) = 5); decide), fun _ => rfl, by rw [hrd]; exact h⟩, hrd⟩, ?_, fun x => ?_, ?_, by show 2 ≤ 7; decide, by show 7 ≤ 1002; decide⟩
  · exact tcE_short (by show ¬ (6 = 0); decide) (by show ¬ ((3 : Int) < 1 ∨ (6 : Int) < 3); decide) (by show 6 < 7; decide)
  · exact tcE_no (by show ¬ (8 = 0); decide) (by show ¬ ((3 : Int) < 1 ∨ (6 : Int) < 3); decide) (by show ¬ (8 < 7); decide) (fun w => absurd w.1 (by show ¬ ((3 : Int) = 5); decide)) (fun w => absurd (w.2.2.1 (by show ¬ ((3 : Int) = 5); decide)) (by show ¬ (8 = 7); decide))
  · intro y hy
    simp only [List.mem_cons, List.not_mem_nil, or_false] at hy
    omega
/-- What is put of kind 4: it is read; with a byte fewer, or one more, it is none; it is of bytes. -/
theorem bk4 {of agent bkt gen peer ver base to : Int} {rows : List Row} (h : okCtl ⟨4, of, agent, bkt, gen, peer, ver, ⟨base, to, rows⟩⟩) :
    (tcOk (cpL ⟨4, of, agent, bkt, gen, peer, ver, ⟨base, to, rows⟩⟩) ∧ rdC (cpL ⟨4, of, agent, bkt, gen, peer, ver, ⟨base, to, rows⟩⟩) = ⟨4, of, agent, bkt, gen, peer, ver, ⟨base, to, rows⟩⟩) ∧ tcE ((cpL ⟨4, of, agent, bkt, gen, peer, ver, ⟨base, to, rows⟩⟩).take ((cpL ⟨4, of, agent, bkt, gen, peer, ver, ⟨base, to, rows⟩⟩).length - 1)) = 61 ∧ (∀ x, tcE (cpL ⟨4, of, agent, bkt, gen, peer, ver, ⟨base, to, rows⟩⟩ ++ [x]) = 60) ∧ Bytes (cpL ⟨4, of, agent, bkt, gen, peer, ver, ⟨base, to, rows⟩⟩) ∧ (2 ≤ (cpL ⟨4, of, agent, bkt, gen, peer, ver, ⟨base, to, rows⟩⟩).length ∧ (cpL ⟨4, of, agent, bkt, gen, peer, ver, ⟨base, to, rows⟩⟩).length ≤ 1002) := by
  have hr : rows = [] := Decidable.byContradiction fun q => ok4_no (of := of) (agent := agent) (bkt := bkt) (gen := gen) (peer := peer) (ver := ver) (base := base) (to := to) q h
  have q := (ok4_yes (of := of) (agent := agent) (bkt := bkt) (gen := gen) (peer := peer) (ver := ver) (base := base) (to := to) hr).1 h
  have e : cpL ⟨4, of, agent, bkt, gen, peer, ver, ⟨base, to, rows⟩⟩ = [4, agent / 1 % 256, bkt / 1 % 256, gen / 16777216 % 256, gen / 65536 % 256, gen / 256 % 256, gen / 1 % 256, of / 1 % 256] := by rw [cpL_yes h]; rfl
  rw [e]
  subst hr
  have hz : base = 0 ∧ to = 0 := by omega
  obtain ⟨rfl, rfl⟩ := hz
  have hn : numAt [4, agent / 1 % 256, bkt / 1 % 256, gen / 16777216 % 256, gen / 65536 % 256, gen / 256 % 256, gen / 1 % 256, of / 1 % 256] 3 4 = gen := by rw [num_lit4]; show ((gen / 16777216 % 256 * 256 + gen / 65536 % 256) * 256 + gen / 256 % 256) * 256 + gen / 1 % 256 = gen; exact be4_num (by omega)
  have hrd : rdC [4, agent / 1 % 256, bkt / 1 % 256, gen / 16777216 % 256, gen / 65536 % 256, gen / 256 % 256, gen / 1 % 256, of / 1 % 256] = ⟨4, of, agent, bkt, gen, peer, ver, ⟨0, 0, []⟩⟩ := by
    have : rdC [4, agent / 1 % 256, bkt / 1 % 256, gen / 16777216 % 256, gen / 65536 % 256, gen / 256 % 256, gen / 1 % 256, of / 1 % 256] = ⟨4, of / 1 % 256, agent / 1 % 256, bkt / 1 % 256, numAt [4, agent / 1 % 256, bkt / 1 % 256, gen / 16777216 % 256, gen / 65536 % 256, gen / 256 % 256, gen / 1 % 256, of / 1 % 256] 3 4, 0, 0, zeroSh⟩ := by unfold rdC; rfl
    rw [this, hn]
    apply ctl_ext <;> first | rfl | (dsimp only; omega)
  refine ⟨⟨⟨by show (1 : Int) ≤ 4 ∧ (4 : Int) ≤ 6; decide, fun w => absurd w (by show ¬ ((4 : Int) = 5); decide), fun _ => rfl, by rw [hrd]; exact h⟩, hrd⟩, ?_, fun x => ?_, ?_, by show 2 ≤ 8; decide, by show 8 ≤ 1002; decide⟩
  · exact tcE_short (by show ¬ (7 = 0); decide) (by show ¬ ((4 : Int) < 1 ∨ (6 : Int) < 4); decide) (by show 7 < 8; decide)
  · exact tcE_no (by show ¬ (9 = 0); decide) (by show ¬ ((4 : Int) < 1 ∨ (6 : Int) < 4); decide) (by show ¬ (9 < 8); decide) (fun w => absurd w.1 (by show ¬ ((4 : Int) = 5); decide)) (fun w => absurd (w.2.2.1 (by show ¬ ((4 : Int) = 5); decide)) (by show ¬ (9 = 8); decide))
  · intro y hy
    simp only [List.mem_cons, List.not_mem_nil, or_false] at hy
    omega
/-- What is put of kind 5: it is read; with a byte fewer, or one more, it is none; it is of bytes. -/
theorem bk5 {of agent bkt gen peer ver base to : Int} {rows : List Row} (h : okCtl ⟨5, of, agent, bkt, gen, peer, ver, ⟨base, to, rows⟩⟩) :
    (tcOk (cpL ⟨5, of, agent, bkt, gen, peer, ver, ⟨base, to, rows⟩⟩) ∧ rdC (cpL ⟨5, of, agent, bkt, gen, peer, ver, ⟨base, to, rows⟩⟩) = ⟨5, of, agent, bkt, gen, peer, ver, ⟨base, to, rows⟩⟩) ∧ tcE ((cpL ⟨5, of, agent, bkt, gen, peer, ver, ⟨base, to, rows⟩⟩).take ((cpL ⟨5, of, agent, bkt, gen, peer, ver, ⟨base, to, rows⟩⟩).length - 1)) = 61 ∧ (∀ x, tcE (cpL ⟨5, of, agent, bkt, gen, peer, ver, ⟨base, to, rows⟩⟩ ++ [x]) = 60) ∧ Bytes (cpL ⟨5, of, agent, bkt, gen, peer, ver, ⟨base, to, rows⟩⟩) ∧ (2 ≤ (cpL ⟨5, of, agent, bkt, gen, peer, ver, ⟨base, to, rows⟩⟩).length ∧ (cpL ⟨5, of, agent, bkt, gen, peer, ver, ⟨base, to, rows⟩⟩).length ≤ 1002) := by
  have hr : okSh ⟨base, to, rows⟩ := Decidable.byContradiction fun q => ok5_no (of := of) (agent := agent) (bkt := bkt) (gen := gen) (peer := peer) (ver := ver) (base := base) (to := to) q h
  have q := (ok5_yes (of := of) (agent := agent) (bkt := bkt) (gen := gen) (peer := peer) (ver := ver) (base := base) (to := to) hr).1 h
  have e : cpL ⟨5, of, agent, bkt, gen, peer, ver, ⟨base, to, rows⟩⟩ = 5 :: agent / 1 % 256 :: putSh ⟨base, to, rows⟩ := by rw [cpL_yes h]; rfl
  rw [e]
  obtain ⟨t1, t2⟩ := take_put hr
  have t3 := take_less hr
  have t4 := take_more hr
  have t5 := putSh_byte ⟨base, to, rows⟩
  have t6 := putSh_len _ hr
  have t7 := putSh_le ⟨base, to, rows⟩
  generalize hP : putSh ⟨base, to, rows⟩ = P at *
  have hrd : rdC (5 :: agent / 1 % 256 :: P) = ⟨5, of, agent, bkt, gen, peer, ver, ⟨base, to, rows⟩⟩ := by
    have : rdC (5 :: agent / 1 % 256 :: P) = ⟨5, 0, agent / 1 % 256, 0, 0, 0, 0, tkSh P⟩ := by unfold rdC; rfl
    rw [this, t1]
    apply ctl_ext <;> first | rfl | (dsimp only; omega)
  have hl : (5 :: agent / 1 % 256 :: P).length = P.length + 2 := rfl
  have hr2 : 13 ≤ P.length := by omega
  refine ⟨⟨⟨by show (1 : Int) ≤ 5 ∧ (5 : Int) ≤ 6; decide, fun _ => ⟨by omega, t2⟩, fun w => absurd rfl w, by rw [hrd]; exact h⟩, hrd⟩, ?_, fun x => ?_, ?_, by omega, by omega⟩
  · have et : (5 :: agent / 1 % 256 :: P).take ((5 :: agent / 1 % 256 :: P).length - 1) = 5 :: agent / 1 % 256 :: P.take (P.length - 1) := by
      rw [hl, show P.length + 2 - 1 = (P.length - 1) + 2 by omega]; rfl
    rw [et, tcE_sheet (b := 5 :: agent / 1 % 256 :: P.take (P.length - 1)) (Nat.succ_ne_zero _) (by show ¬ ((5 : Int) < 1 ∨ (6 : Int) < 5); decide) (by show ¬ (_ + 2 < 2); omega) ⟨rfl, by show tkE (P.take (P.length - 1)) ≠ 0; rw [t3]; decide⟩]
    exact t3
  · have et : (5 :: agent / 1 % 256 :: P) ++ [x] = 5 :: agent / 1 % 256 :: (P ++ [x]) := rfl
    rw [et, tcE_sheet (b := 5 :: agent / 1 % 256 :: (P ++ [x])) (Nat.succ_ne_zero _) (by show ¬ ((5 : Int) < 1 ∨ (6 : Int) < 5); decide) (by show ¬ (_ + 2 < 2); omega) ⟨rfl, by show tkE (P ++ [x]) ≠ 0; rw [t4]; decide⟩]
    exact t4 x
  · intro y hy
    rcases List.mem_cons.1 hy with rfl | hy
    · decide
    rcases List.mem_cons.1 hy with rfl | hy
    · omega
    exact t5 y hy
/-- What is put of kind 6: it is read; with a byte fewer, or one more, it is none; it is of bytes. -/
theorem bk6 {of agent bkt gen peer ver base to : Int} {rows : List Row} (h : okCtl ⟨6, of, agent, bkt, gen, peer, ver, ⟨base, to, rows⟩⟩) :
    (tcOk (cpL ⟨6, of, agent, bkt, gen, peer, ver, ⟨base, to, rows⟩⟩) ∧ rdC (cpL ⟨6, of, agent, bkt, gen, peer, ver, ⟨base, to, rows⟩⟩) = ⟨6, of, agent, bkt, gen, peer, ver, ⟨base, to, rows⟩⟩) ∧ tcE ((cpL ⟨6, of, agent, bkt, gen, peer, ver, ⟨base, to, rows⟩⟩).take ((cpL ⟨6, of, agent, bkt, gen, peer, ver, ⟨base, to, rows⟩⟩).length - 1)) = 61 ∧ (∀ x, tcE (cpL ⟨6, of, agent, bkt, gen, peer, ver, ⟨base, to, rows⟩⟩ ++ [x]) = 60) ∧ Bytes (cpL ⟨6, of, agent, bkt, gen, peer, ver, ⟨base, to, rows⟩⟩) ∧ (2 ≤ (cpL ⟨6, of, agent, bkt, gen, peer, ver, ⟨base, to, rows⟩⟩).length ∧ (cpL ⟨6, of, agent, bkt, gen, peer, ver, ⟨base, to, rows⟩⟩).length ≤ 1002) := by
  have hr : rows = [] := Decidable.byContradiction fun q => ok6_no (of := of) (agent := agent) (bkt := bkt) (gen := gen) (peer := peer) (ver := ver) (base := base) (to := to) q h
  have q := (ok6_yes (of := of) (agent := agent) (bkt := bkt) (gen := gen) (peer := peer) (ver := ver) (base := base) (to := to) hr).1 h
  have e : cpL ⟨6, of, agent, bkt, gen, peer, ver, ⟨base, to, rows⟩⟩ = [6, agent / 1 % 256, ver / 1099511627776 % 256, ver / 4294967296 % 256, ver / 16777216 % 256, ver / 65536 % 256, ver / 256 % 256, ver / 1 % 256] := by rw [cpL_yes h]; rfl
  rw [e]
  subst hr
  have hz : base = 0 ∧ to = 0 := by omega
  obtain ⟨rfl, rfl⟩ := hz
  have hn : numAt [6, agent / 1 % 256, ver / 1099511627776 % 256, ver / 4294967296 % 256, ver / 16777216 % 256, ver / 65536 % 256, ver / 256 % 256, ver / 1 % 256] 2 6 = ver := by rw [num_lit6]; show ((((ver / 1099511627776 % 256 * 256 + ver / 4294967296 % 256) * 256 + ver / 16777216 % 256) * 256 + ver / 65536 % 256) * 256 + ver / 256 % 256) * 256 + ver / 1 % 256 = ver; exact be6_num (by omega)
  have hrd : rdC [6, agent / 1 % 256, ver / 1099511627776 % 256, ver / 4294967296 % 256, ver / 16777216 % 256, ver / 65536 % 256, ver / 256 % 256, ver / 1 % 256] = ⟨6, of, agent, bkt, gen, peer, ver, ⟨0, 0, []⟩⟩ := by
    have : rdC [6, agent / 1 % 256, ver / 1099511627776 % 256, ver / 4294967296 % 256, ver / 16777216 % 256, ver / 65536 % 256, ver / 256 % 256, ver / 1 % 256] = ⟨6, 0, agent / 1 % 256, 0, 0, 0, numAt [6, agent / 1 % 256, ver / 1099511627776 % 256, ver / 4294967296 % 256, ver / 16777216 % 256, ver / 65536 % 256, ver / 256 % 256, ver / 1 % 256] 2 6, zeroSh⟩ := by unfold rdC; rfl
    rw [this, hn]
    apply ctl_ext <;> first | rfl | (dsimp only; omega)
  refine ⟨⟨⟨by show (1 : Int) ≤ 6 ∧ (6 : Int) ≤ 6; decide, fun w => absurd w (by show ¬ ((6 : Int) = 5); decide), fun _ => rfl, by rw [hrd]; exact h⟩, hrd⟩, ?_, fun x => ?_, ?_, by show 2 ≤ 8; decide, by show 8 ≤ 1002; decide⟩
  · exact tcE_short (by show ¬ (7 = 0); decide) (by show ¬ ((6 : Int) < 1 ∨ (6 : Int) < 6); decide) (by show 7 < 8; decide)
  · exact tcE_no (by show ¬ (9 = 0); decide) (by show ¬ ((6 : Int) < 1 ∨ (6 : Int) < 6); decide) (by show ¬ (9 < 8); decide) (fun w => absurd w.1 (by show ¬ ((6 : Int) = 5); decide)) (fun w => absurd (w.2.2.1 (by show ¬ ((6 : Int) = 5); decide)) (by show ¬ (9 = 8); decide))
  · intro y hy
    simp only [List.mem_cons, List.not_mem_nil, or_false] at hy
    omega
/-- What is put is taken. -/
theorem bk {c : Ctl} (h : okCtl c) : (tcOk (cpL c) ∧ rdC (cpL c) = c) ∧ tcE ((cpL c).take ((cpL c).length - 1)) = 61 ∧ (∀ x, tcE (cpL c ++ [x]) = 60) ∧ Bytes (cpL c) ∧ (2 ≤ (cpL c).length ∧ (cpL c).length ≤ 1002) := by
  have hk := ok_kind h
  obtain ⟨kind, of, agent, bkt, gen, peer, ver, ⟨base, to, rows⟩⟩ := c
  dsimp only at hk
  rcases hk with rfl | rfl | rfl | rfl | rfl | rfl
  · exact bk1 h
  · exact bk2 h
  · exact bk3 h
  · exact bk4 h
  · exact bk5 h
  · exact bk6 h
theorem tc_put {c : Ctl} (h : okCtl c) : tcC (cpL c) = c ∧ tcE (cpL c) = 0 := by
  obtain ⟨⟨h1, h2⟩, _⟩ := bk h
  exact ⟨by rw [tcC_yes h1, h2], tcE_yes h1⟩
theorem cp_inj {c d : Ctl} (hc : okCtl c) (hd : okCtl d) : cpL c = cpL d ↔ c = d :=
  ⟨fun e => by rw [← (tc_put hc).1, e, (tc_put hd).1], fun e => by rw [e]⟩
theorem cp_byte (c : Ctl) : Bytes (cpL c) := by
  by_cases h : okCtl c
  · exact (bk h).2.2.2.1
  · rw [cpL_no h]; intro x hx; cases hx
theorem cp_le (c : Ctl) : (cpL c).length ≤ 1002 := by
  by_cases h : okCtl c
  · exact (bk h).2.2.2.2.2
  · rw [cpL_no h]; decide
theorem tcC_le {b : List Int} (hb : Bytes b) : (tcC b).sh.rows.length ≤ 255 := by
  by_cases h : tcOk b
  · rw [tcC_yes h]
    unfold rdC
    split
    · show (0 : Nat) ≤ 255; decide
    split
    · exact tkSh_le (bytes_drop hb 2)
    split
    · show (0 : Nat) ≤ 255; decide
    split <;> (show (0 : Nat) ≤ 255; decide)
  · rw [tcC_no h]; decide
theorem tc_bounds {b : List Int} (hb : Bytes b) : (0 ≤ (tcC b).of ∧ (tcC b).of ≤ 255) ∧ 0 ≤ (tcC b).kind := by
  by_cases h : tcOk b
  · have h0 := byte_bd hb 0
    have h7 := byte_bd hb 7
    rw [tcC_yes h]
    unfold rdC
    split
    · exact ⟨by show (0 : Int) ≤ 0 ∧ (0 : Int) ≤ 255; decide, h0.1⟩
    split
    · exact ⟨by show (0 : Int) ≤ 0 ∧ (0 : Int) ≤ 255; decide, h0.1⟩
    split
    · exact ⟨h7, h0.1⟩
    split
    · exact ⟨by show (0 : Int) ≤ 0 ∧ (0 : Int) ≤ 255; decide, h0.1⟩
    · exact ⟨by show (0 : Int) ≤ 0 ∧ (0 : Int) ≤ 255; decide, h0.1⟩
  · rw [tcC_no h]; decide
/-- What is taken has just those bytes. -/
theorem put_tc {b : List Int} (hb : Bytes b) (h : tcOk b) : cpL (tcC b) = b := by
  have hok := h.2.2.2
  rw [tcC_yes h, cpL_yes hok]
  obtain ⟨h1, h2, h3, _⟩ := h
  have q : b.getD 0 0 = 1 ∨ b.getD 0 0 = 2 ∨ b.getD 0 0 = 3 ∨ b.getD 0 0 = 4 ∨ b.getD 0 0 = 5 ∨ b.getD 0 0 = 6 := by omega
  rcases q with q | q | q | q | q | q
  · have hl := h3 (by omega)
    rw [q] at hl
    match b, hl with
    | [x0, x1, x2, x3, x4, x5, x6, x7], _ =>
      have hx : x0 = 1 := q
      have y1 := hb x1 (by simp)
      have y2 := hb x2 (by simp)
      have y3 := hb x3 (by simp)
      have y4 := hb x4 (by simp)
      have y5 := hb x5 (by simp)
      have y6 := hb x6 (by simp)
      have y7 := hb x7 (by simp)
      subst hx
      have e : rdC [1, x1, x2, x3, x4, x5, x6, x7] = ⟨1, 0, x1, x2, numAt [1, x1, x2, x3, x4, x5, x6, x7] 3 4, x7 - 1, 0, zeroSh⟩ := by unfold rdC; rfl
      have en : numAt [1, x1, x2, x3, x4, x5, x6, x7] 3 4 = ((x3 * 256 + x4) * 256 + x5) * 256 + x6 := by rw [num_lit4]; rfl
      rw [e, en]
      show 1 :: (be1 x1 ++ (be1 x2 ++ (be4 (((x3 * 256 + x4) * 256 + x5) * 256 + x6) ++ be1 (x7 - 1 + 1)))) = _
      simp only [be1, be4, be6, List.cons_append, List.nil_append, List.append_nil, List.cons.injEq, and_true, true_and]
      omega
  · have hl := h3 (by omega)
    rw [q] at hl
    match b, hl with
    | [x0, x1, x2, x3, x4, x5, x6, x7], _ =>
      have hx : x0 = 2 := q
      have y1 := hb x1 (by simp)
      have y2 := hb x2 (by simp)
      have y3 := hb x3 (by simp)
      have y4 := hb x4 (by simp)
      have y5 := hb x5 (by simp)
      have y6 := hb x6 (by simp)
      have y7 := hb x7 (by simp)
      subst hx
      have e : rdC [2, x1, x2, x3, x4, x5, x6, x7] = ⟨2, 0, x1, x2, numAt [2, x1, x2, x3, x4, x5, x6, x7] 3 4, x7 - 1, 0, zeroSh⟩ := by unfold rdC; rfl
      have en : numAt [2, x1, x2, x3, x4, x5, x6, x7] 3 4 = ((x3 * 256 + x4) * 256 + x5) * 256 + x6 := by rw [num_lit4]; rfl
      rw [e, en]
      show 2 :: (be1 x1 ++ (be1 x2 ++ (be4 (((x3 * 256 + x4) * 256 + x5) * 256 + x6) ++ be1 (x7 - 1 + 1)))) = _
      simp only [be1, be4, be6, List.cons_append, List.nil_append, List.append_nil, List.cons.injEq, and_true, true_and]
      omega
  · have hl := h3 (by omega)
    rw [q] at hl
    match b, hl with
    | [x0, x1, x2, x3, x4, x5, x6], _ =>
      have hx : x0 = 3 := q
      have y1 := hb x1 (by simp)
      have y2 := hb x2 (by simp)
      have y3 := hb x3 (by simp)
      have y4 := hb x4 (by simp)
      have y5 := hb x5 (by simp)
      have y6 := hb x6 (by simp)
      subst hx
      have e : rdC [3, x1, x2, x3, x4, x5, x6] = ⟨3, 0, x1, x2, numAt [3, x1, x2, x3, x4, x5, x6] 3 4, 0, 0, zeroSh⟩ := by unfold rdC; rfl
      have en : numAt [3, x1, x2, x3, x4, x5, x6] 3 4 = ((x3 * 256 + x4) * 256 + x5) * 256 + x6 := by rw [num_lit4]; rfl
      rw [e, en]
      show 3 :: (be1 x1 ++ (be1 x2 ++ (be4 (((x3 * 256 + x4) * 256 + x5) * 256 + x6) ++ []))) = _
      simp only [be1, be4, be6, List.cons_append, List.nil_append, List.append_nil, List.cons.injEq, and_true, true_and]
      omega
  · have hl := h3 (by omega)
    rw [q] at hl
    match b, hl with
    | [x0, x1, x2, x3, x4, x5, x6, x7], _ =>
      have hx : x0 = 4 := q
      have y1 := hb x1 (by simp)
      have y2 := hb x2 (by simp)
      have y3 := hb x3 (by simp)
      have y4 := hb x4 (by simp)
      have y5 := hb x5 (by simp)
      have y6 := hb x6 (by simp)
      have y7 := hb x7 (by simp)
      subst hx
      have e : rdC [4, x1, x2, x3, x4, x5, x6, x7] = ⟨4, x7, x1, x2, numAt [4, x1, x2, x3, x4, x5, x6, x7] 3 4, 0, 0, zeroSh⟩ := by unfold rdC; rfl
      have en : numAt [4, x1, x2, x3, x4, x5, x6, x7] 3 4 = ((x3 * 256 + x4) * 256 + x5) * 256 + x6 := by rw [num_lit4]; rfl
      rw [e, en]
      show 4 :: (be1 x1 ++ (be1 x2 ++ (be4 (((x3 * 256 + x4) * 256 + x5) * 256 + x6) ++ be1 x7))) = _
      simp only [be1, be4, be6, List.cons_append, List.nil_append, List.append_nil, List.cons.injEq, and_true, true_and]
      omega
  · obtain ⟨g1, g2⟩ := h2 q
    match b, g1 with
    | x :: y :: l, _ =>
      have hx : x = 5 := q
      have y0 := hb y (by simp)
      subst hx
      have e : rdC (5 :: y :: l) = ⟨5, 0, y, 0, 0, 0, 0, tkSh l⟩ := by unfold rdC; rfl
      rw [e]
      show 5 :: y / 1 % 256 :: putSh (tkSh l) = _
      rw [show putSh (tkSh l) = l from put_take (b := l) (fun z hz => hb z (by simp [hz])) (tkE_ok g2), show y / 1 % 256 = y by omega]
  · have hl := h3 (by omega)
    rw [q] at hl
    match b, hl with
    | [x0, x1, x2, x3, x4, x5, x6, x7], _ =>
      have hx : x0 = 6 := q
      have y1 := hb x1 (by simp)
      have y2 := hb x2 (by simp)
      have y3 := hb x3 (by simp)
      have y4 := hb x4 (by simp)
      have y5 := hb x5 (by simp)
      have y6 := hb x6 (by simp)
      have y7 := hb x7 (by simp)
      subst hx
      have e : rdC [6, x1, x2, x3, x4, x5, x6, x7] = ⟨6, 0, x1, 0, 0, 0, numAt [6, x1, x2, x3, x4, x5, x6, x7] 2 6, zeroSh⟩ := by unfold rdC; rfl
      have en : numAt [6, x1, x2, x3, x4, x5, x6, x7] 2 6 = ((((x2 * 256 + x3) * 256 + x4) * 256 + x5) * 256 + x6) * 256 + x7 := by rw [num_lit6]; rfl
      rw [e, en]
      show 6 :: be1 x1 ++ be6 (((((x2 * 256 + x3) * 256 + x4) * 256 + x5) * 256 + x6) * 256 + x7) = _
      simp only [be1, be4, be6, List.cons_append, List.nil_append, List.append_nil, List.cons.injEq, and_true, true_and]
      omega
end Go.Proofs.S19
