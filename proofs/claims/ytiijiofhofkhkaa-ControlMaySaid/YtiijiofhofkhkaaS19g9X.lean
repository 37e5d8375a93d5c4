/- Contracts of functions of the program, or a row of the seat, proved out of them. No condition beyond those that stand in each statement. -/
import Derived.Test.YtiijiofhofkhkaaS19g9V
import Derived.Test.YtiijiofhofkhkaaS19g9P
namespace Go.Proofs.S19
open Go Go.SE
set_option maxRecDepth 100000
set_option maxHeartbeats 4000000
attribute [local irreducible] specI

theorem con_drop {P : Program} {f : FuncId} {res : X} {post : List Reg} {xs : List Value} {e : TypeId} {p n : Nat} (hn : 0 < n) (h : CallCon P f [.one (.sl 0 0 n)] [.row (xs.drop p) 1 e false] res post) : CallCon P f [.one (.sl 0 p n)] [.row xs 1 e false] res post := by
  refine ⟨h.ent, fun m ρ w ys hp hys => ?_⟩
  obtain ⟨r1, r2, r3⟩ := hp 0 _ rfl
  match ys, hys with
  | [y], ⟨h1, _⟩ =>
    rcases h1 with ⟨_, _, hp0, hn0, rfl⟩ | ⟨k1, k2, a, rfl, k3⟩
    · omega
    · have ha := k3 (.inl (by omega))
      rcases r3 with ⟨q, _⟩ | ⟨q1, q2⟩
      · rw [k1] at q; cases q
      · refine h.go m (fun j => if j = 0 then ⟨(ρ 0).blk, (ρ 0).base + p, (ρ 0).cap - p, 1, false⟩ else ρ j) w _ (fun i r hi => ?_) ⟨.inr ⟨rfl, by show 0 + n ≤ (ρ 0).cap - p; omega, a, rfl, fun _ => by rw [ha, r1, Nat.mul_one]; rfl⟩, trivial⟩
        cases i with
        | succ i => simp at hi
        | zero =>
          simp at hi
          subst hi
          refine ⟨rfl, fun x hx => r2 x (List.mem_of_mem_drop hx), .inr ⟨rfl, fun i x hx => ?_⟩⟩
          rw [List.getElem?_drop] at hx
          have := q2 _ _ hx
          show w.cell? ⟨(ρ 0).blk, (ρ 0).base + p + i, none⟩ = some x
          rwa [Nat.add_assoc]
theorem con_n2 {P : Program} {f : FuncId} {args : List T} {pre : List Reg} {post : List Reg} {x : T} {k : IntKind} {i : Int} (h : CallCon P f args pre (.tup [x, .one (.v (.int k i))]) post) : CallCon P f args pre (.tup [x, .one (.n k i)]) post := by
  refine ⟨h.ent, fun n ρ w ys hp hys => (h.go n ρ w ys hp hys).mono ?_⟩
  rintro e w' ⟨v, ρ', h1, h2, h3⟩
  obtain ⟨zs, rfl, h4⟩ := h2
  refine ⟨_, ρ', h1, ⟨zs, rfl, ?_⟩, h3⟩
  match zs, h4 with
  | [_, _], ⟨h5, h6, h7⟩ => exact ⟨h5, h6.1, h7⟩
theorem tkE_cases (b : List Int) : tkE b = 0 ∨ tkE b = 60 ∨ tkE b = 61 := by
  unfold tkE
  split
  · exact .inr (.inr rfl)
  · split
    · exact .inl rfl
    · exact .inr (.inl rfl)
theorem ints_drop (k : IntKind) : ∀ (l : List Int) (p : Nat), (ints k l).drop p = ints k (l.drop p)
  | [], 0 => rfl
  | [], p + 1 => rfl
  | x :: l, 0 => rfl
  | x :: l, p + 1 => ints_drop k l p
theorem bytes_drop {b : List Int} (hb : Bytes b) (p : Nat) : Bytes (b.drop p) := fun x hx => hb x (List.mem_of_mem_drop hx)
theorem drop_nil {b : List Int} {p n : Nat} (h : p + n = b.length) (h0 : n = 0) : b.drop p = [] := List.drop_eq_nil_of_le (by omega)
theorem take_off {b : List Int} (hb : Bytes b) (hl : b.length ≤ 100000) {p n : Nat} (h : p + n = b.length) : CallCon Try.prog 44 [.one (.sl 0 p n)] [.row (ints .u8 b) 1 5 false] (.tup [shT 0 (tkSh (b.drop p)), .one (.v (.int .i64 (tkE (b.drop p))))]) [.row (rowsV (tkSh (b.drop p)).rows) 5 101 true] := by
  by_cases h0 : n = 0
  · rw [drop_nil h h0, show tkSh [] = zeroSh from rfl, show tkE [] = 61 from rfl]
    subst h0
    refine con_of_call2 rfl ?_
    refine call_inline Try.func44 rfl rfl ?_
    intro _
    repeat' (first | (refine is_split ?_; refine sp_yes (by rfl) ?_ <;> (intro u; clear u)) | (refine is_draw ?_; refine draw_step mixed (by kernel_rfl) ?_; intro u; clear u) | (refine is_scope ?_; refine scope_step ?_; intro u; clear u))
    all_goals (refine con_end ?_ rfl; intro u; clear u; refine ⟨rfl, rfl, EntGoal.mk ?_ ?_⟩ <;> (repeat' (first | exact trivial | (with_reducible rfl) | apply And.intro | rfl)))
  · refine con_drop (by omega) ?_
    have hd : (b.drop p).length = n := by rw [List.length_drop]; omega
    have t := take_con (bytes_drop hb p) (by omega)
    rw [hd] at t
    rw [ints_drop]
    exact t
theorem reftake_off {b : List Int} (hb : Bytes b) (hl : b.length ≤ 100000) {p n : Nat} (h : p + n = b.length) : CallCon Try.prog 46 [.one (.sl 0 p n)] [.row (ints .u8 b) 1 5 false] (.tup [shT 0 (tkSh (b.drop p)), .one (.v (.int .i64 (tkE (b.drop p))))]) [.row (rowsV (tkSh (b.drop p)).rows) 5 101 true] := by
  by_cases h0 : n = 0
  · rw [drop_nil h h0, show tkSh [] = zeroSh from rfl, show tkE [] = 61 from rfl]
    subst h0
    refine con_of_call2 rfl ?_
    refine call_inline Try.func46 rfl rfl ?_
    intro _
    repeat' (refine is_split ?_; refine sp_yes (by rfl) ?_ <;> (intro u; clear u))
    all_goals (refine con_end ?_ rfl; intro u; clear u; refine ⟨rfl, rfl, EntGoal.mk ?_ ?_⟩ <;> (repeat' (first | exact trivial | (with_reducible rfl) | apply And.intro | rfl)))
  · refine con_drop (by omega) ?_
    have hd : (b.drop p).length = n := by rw [List.length_drop]; omega
    have t := reftake_con (bytes_drop hb p) (by omega)
    rw [hd] at t
    rw [ints_drop]
    exact t
theorem ctlrightn_con {c : Ctl} (ho : 0 ≤ c.of ∧ c.of ≤ 255) (h0 : 0 ≤ c.kind) (hd : c.sh.rows = []) : CallCon Try.prog 21 [ctlN c] [] (.t (.one (.b (okCtl c)))) [] :=
  con_nil [ctlN c] [] (by rw [hd]; rfl) (ctlright_con (c := c) ho h0 (by rw [hd]; decide)) (by rw [show ctlT 0 c = .agg [.v (.int .u8 c.kind), .v (.int .u8 c.of), .v (.int .i64 c.agent), .v (.int .i64 c.bkt), .v (.int .i64 c.gen), .v (.int .i64 c.peer), .v (.int .i64 c.ver), .v (.int .i64 c.sh.base), .v (.int .i64 c.sh.to), .sl 0 0 0] by unfold ctlT ctlS; rw [hd]; rfl]; repeat' (first | exact trivial | exact rfl | exact Or.inl rfl | apply And.intro)) rfl

theorem tkSh_len {b : List Int} (h : b.length ≤ 100000) : (tkSh b).rows.length ≤ 1000000 := by
  unfold tkSh
  split
  · rename_i q
    have h2 := q.1.2
    show (tkRows b (tkN b)).length ≤ _
    rw [tkRows_len]; omega
  · decide
def szC (k : Int) : Nat := if k = 1 ∨ k = 2 ∨ k = 4 ∨ k = 6 then 8 else if k = 3 then 7 else if k = 5 then 2 else 0
def rdC (b : List Int) : Ctl :=
  if b.getD 0 0 = 6 then ⟨b.getD 0 0, 0, b.getD 1 0, 0, 0, 0, numAt b 2 6, zeroSh⟩
  else if b.getD 0 0 = 5 then ⟨b.getD 0 0, 0, b.getD 1 0, 0, 0, 0, 0, tkSh (b.drop 2)⟩
  else if b.getD 0 0 = 4 then ⟨b.getD 0 0, b.getD 7 0, b.getD 1 0, b.getD 2 0, numAt b 3 4, 0, 0, zeroSh⟩
  else if b.getD 0 0 = 3 then ⟨b.getD 0 0, 0, b.getD 1 0, b.getD 2 0, numAt b 3 4, 0, 0, zeroSh⟩
  else ⟨b.getD 0 0, 0, b.getD 1 0, b.getD 2 0, numAt b 3 4, b.getD 7 0 - 1, 0, zeroSh⟩
def tcOk (b : List Int) : Prop := (1 ≤ b.getD 0 0 ∧ b.getD 0 0 ≤ 6) ∧ (b.getD 0 0 = 5 → 2 ≤ b.length ∧ tkE (b.drop 2) = 0) ∧ (b.getD 0 0 ≠ 5 → b.length = szC (b.getD 0 0)) ∧ okCtl (rdC b)
instance (b : List Int) : Decidable (tcOk b) := by unfold tcOk; infer_instance
def tcC (b : List Int) : Ctl := if tcOk b then rdC b else zeroCtl
def tcE (b : List Int) : Int := if b.length = 0 then 61 else if b.getD 0 0 < 1 ∨ 6 < b.getD 0 0 then 60 else if b.length < szC (b.getD 0 0) then 61 else if b.getD 0 0 = 5 ∧ tkE (b.drop 2) ≠ 0 then tkE (b.drop 2) else if tcOk b then 0 else 60
theorem tcC_yes {b : List Int} (h : tcOk b) : tcC b = rdC b := if_pos h
theorem tcC_no {b : List Int} (h : ¬ tcOk b) : tcC b = zeroCtl := if_neg h
theorem getD_pos {b : List Int} (h : b.getD 0 0 ≠ 0) : 0 < b.length := by
  cases b with
  | nil => exact absurd rfl h
  | cons x l => exact Nat.succ_pos _
theorem tcE_yes {b : List Int} (h : tcOk b) : tcE b = 0 := by
  obtain ⟨h1, h2, h3, h4⟩ := h
  have hz := getD_pos (b := b) (by omega)
  unfold tcE
  rw [if_neg (by omega), if_neg (by omega), if_neg ?_, if_neg ?_, if_pos ⟨h1, h2, h3, h4⟩]
  · intro q; exact q.2 (h2 q.1).2
  · by_cases h5 : b.getD 0 0 = 5
    · have h6 := h2 h5
      rw [h5]; show ¬ b.length < 2; omega
    · have := h3 h5; omega
theorem tcE_0 {b : List Int} (h : b.length = 0) : tcE b = 61 := if_pos h
theorem tcE_kind {b : List Int} (h0 : b.length ≠ 0) (h : b.getD 0 0 < 1 ∨ 6 < b.getD 0 0) : tcE b = 60 := by unfold tcE; rw [if_neg h0, if_pos h]
theorem tcE_short {b : List Int} (h0 : b.length ≠ 0) (h : ¬ (b.getD 0 0 < 1 ∨ 6 < b.getD 0 0)) (hs : b.length < szC (b.getD 0 0)) : tcE b = 61 := by unfold tcE; rw [if_neg h0, if_neg h, if_pos hs]
theorem tcE_sheet {b : List Int} (h0 : b.length ≠ 0) (h : ¬ (b.getD 0 0 < 1 ∨ 6 < b.getD 0 0)) (hs : ¬ b.length < szC (b.getD 0 0)) (h5 : b.getD 0 0 = 5 ∧ tkE (b.drop 2) ≠ 0) : tcE b = tkE (b.drop 2) := by unfold tcE; rw [if_neg h0, if_neg h, if_neg hs, if_pos h5]
theorem tcE_no {b : List Int} (h0 : b.length ≠ 0) (h : ¬ (b.getD 0 0 < 1 ∨ 6 < b.getD 0 0)) (hs : ¬ b.length < szC (b.getD 0 0)) (h5 : ¬ (b.getD 0 0 = 5 ∧ tkE (b.drop 2) ≠ 0)) (hn : ¬ tcOk b) : tcE b = 60 := by unfold tcE; rw [if_neg h0, if_neg h, if_neg hs, if_neg h5, if_neg hn]

end Go.Proofs.S19
