/- The symbolic executor is sound: code, calls, loops over functions. No condition. -/
import Derived.Test.YtlefpinmgabmfaaGreatSeA
import Derived.Laws.MakeOwn
namespace Go.SE
open Go Go.RowKit

theorem TsRel.append {ρ : Rho} : ∀ {l : List T} {ys : List Value} {l' : List T} {ys' : List Value}, TsRel ρ l ys → TsRel ρ l' ys' → TsRel ρ (l ++ l') (ys ++ ys')
  | [], [], _, _, _, h => h
  | _ :: _, _ :: _, _, _, h, h' => ⟨h.1, TsRel.append h.2 h'⟩

theorem evArgs_rel {ρ : Rho} {env : Env} {a : Act} (he : EnvOk ρ env a) : ∀ {l : List Operand} {ts : List T}, evArgs env l = some ts → TsRel ρ ts (l.map a.eval)
  | [], ts, h => by simp [evArgs] at h; subst h; trivial
  | o :: l, ts, h => by
    simp only [evArgs] at h
    split at h
    · rename_i t l' h1 h2
      cases h
      exact ⟨evt_rel he h1, evArgs_rel he h2⟩
    · cases h

theorem caps_rel {ρ : Rho} : ∀ (caps : List (Nat × Nat)), TsRel ρ (caps.map fun p => .one (.ptr p.1 p.2)) (caps.map fun p => ptrVal ρ p.1 p.2)
  | [] => trivial
  | _ :: l => ⟨rfl, caps_rel l⟩

def capturedOf : Value → List Value
  | .func _ _ c => c.toList
  | _ => []

def firstOf : Value → List Value
  | .func _ b _ => b.toList
  | _ => []

variable {P : Program} {o : Oper} {env : Env} {m : M}

theorem call_ok {c : Call} {f : Operand} {g : FuncId} {caps : List (Nat × Nat)} {l : List T}
    (ho : o.op = .call c) (hc : c.callee = .value f) (hf : evs env f = some (.fn g caps)) (hl : evArgs env c.args.toList = some l) :
    (Comes.call g (l ++ caps.map fun p => .one (.ptr p.1 p.2))).Ok P o env m := by
  intro a
  refine ⟨c.args.toList.map a.eval ++ capturedOf (a.eval f), fun ρ he => ?_⟩
  have h1 := evs_rel he hf
  simp only [S.Rel] at h1
  refine ⟨(evArgs_rel he hl).append ?_, fun w => ?_, fun c => by rw [ho]; simp⟩
  · rw [h1]; simp only [capturedOf]; exact caps_rel caps
  · have e1 : (c.args.toList.map a.eval ++ capturedOf (a.eval f)).toArray = c.args.map a.eval ++ (caps.map fun p => ptrVal ρ p.1 p.2).toArray := by
      rw [h1]; simp [capturedOf]
    rw [e1]
    simp [execOp, ho, resolve, hc, h1, Deferred.ofValue, invoke]

theorem callb_ok {c : Call} {f : Operand} {g : FuncId} {h k : Nat} {l : List T}
    (ho : o.op = .call c) (hc : c.callee = .value f) (hf : evs env f = some (.bm g h k)) (hl : evArgs env c.args.toList = some l) :
    (Comes.call g (.one (.ptr h k) :: l)).Ok P o env m := by
  intro a
  refine ⟨firstOf (a.eval f) ++ c.args.toList.map a.eval, fun ρ he => ?_⟩
  have h1 := evs_rel he hf
  simp only [S.Rel] at h1
  refine ⟨?_, fun w => ?_, fun c => by rw [ho]; simp⟩
  · rw [h1]; exact ⟨rfl, evArgs_rel he hl⟩
  · have e1 : (firstOf (a.eval f) ++ c.args.toList.map a.eval).toArray = #[ptrVal ρ h k] ++ c.args.map a.eval := by
      rw [h1]; simp [firstOf]
    rw [e1]
    simp [execOp, ho, resolve, hc, h1, Deferred.ofValue, invoke]

theorem yield_ok {c : Call} {f : Operand} {h : Nat} {l : List T}
    (ho : o.op = .call c) (hc : c.callee = .value f) (hf : evs env f = some (.yld h)) (hl : evArgs env c.args.toList = some l) :
    (Comes.yield h l).Ok P o env m := by
  intro a
  refine ⟨c.args.toList.map a.eval, fun ρ he => ?_⟩
  have h1 := evs_rel he hf
  simp only [S.Rel] at h1
  refine ⟨evArgs_rel he hl, fun w => ?_, fun c => by rw [ho]; simp⟩
  have e1 : (c.args.toList.map a.eval).toArray = c.args.map a.eval := by rw [← Array.toList_map, Array.toArray_toList]
  rw [e1]
  simp [execOp, ho, resolve, hc, h1, Deferred.ofValue, invoke]

theorem len_sl_ok {c : Call} {x : Operand} {t e : TypeId} {h off len : Nat} {s : S}
    (ho : o.op = .call c) (hc : c.callee = .builtin .len) (ha : c.args.toList = [x]) (hx : evs env x = some (.sl h off len)) (ht : c.argTypes[0]? = some t) (hu : P.underlying t = some (.slice e)) (hs : s = .n .i64 len ∨ s = .v (.int .i64 len)) :
    OpOk P o env m { val := .t (.one s), regs := [], nh := m.nh } := by
  refine opOk_pure fun B w0 ρ a w he hm => ?_
  have h1 := evs_rel he hx
  have ha' : c.args = #[x] := by rw [← Array.toArray_toList (xs := c.args), ha]
  refine ⟨.int .i64 len, ?_, ?_⟩
  · rcases h1 with ⟨_, _, _, rfl, h1⟩ | ⟨_, _, ad, h1, _⟩ <;> simp [execOp, ho, resolve, hc, invoke, builtin, Builtin.len_, ha', ht, h1, run_underlying hu, goInt]
  · rcases hs with rfl | rfl
    · rfl
    · exact ⟨rfl, rfl⟩

theorem underlying_of_info {t : TypeId} (h : (P.info? t).isSome = true) (w : World) : (sizeOf t).run P w = .ok (P.cellsOf t) w := by
  obtain ⟨i, hi⟩ := Option.isSome_iff_exists.1 h
  exact run_sizeOf w hi

theorem index_arr_ok {t : TypeId} {x ix : Operand} {h k : Nat} {kk : IntKind} {j : Int} {s sx sy : S} {kn : Bool} {len : Nat} {elem : TypeId}
    (ho : o.op = .indexAddr t x ix) (hx : evs env x = some sx) (hsx : sx = .ptr h k ∨ sx = .pts h k) (hi : evs env ix = some s) (hs : s.int? = some (kk, j, kn)) (hu : P.underlying t = some (.array len elem)) (hd : (P.info? elem).isSome = true)
    (h01 : 0 ≤ j ∧ j < len) (hsy : sy = .ptr h (k + j.toNat * P.cellsOf elem) ∨ sy = .pts h (k + j.toNat * P.cellsOf elem)) : OpOk P o env m { val := .t (.one sy), regs := [], nh := m.nh } := by
  refine opOk_pure fun B w0 ρ a w he hm => ?_
  have hx1 : a.eval x = ptrVal ρ h k := by
    have := evs_rel he hx
    rcases hsx with rfl | rfl <;> exact this
  have hi2 := S.int?_rel hs (evs_rel he hi)
  refine ⟨ptrVal ρ h (k + j.toNat * P.cellsOf elem), ?_, ?_⟩
  · simp [execOp, ho, hx1, hi2, ptrVal, Instr.indexAt, Instr.sureAddr, asIntOf, run_underlying hu, underlying_of_info hd, h01.1, h01.2, addr_add, Nat.add_assoc]
  · rcases hsy with rfl | rfl <;> rfl

theorem index_sl_ok {t : TypeId} {x ix : Operand} {h off len : Nat} {kk : IntKind} {j : Int} {s sy : S} {kn : Bool} {elem : TypeId} {r : Reg} {sz : Nat}
    (ho : o.op = .indexAddr t x ix) (hx : evs env x = some (.sl h off len)) (hi : evs env ix = some s) (hs : s.int? = some (kk, j, kn)) (hu : P.underlying t = some (.slice elem)) (hd : (P.info? elem).isSome = true)
    (hr : m.reg h = some r) (hrs : ∀ ρ w, RegOk ρ w h r → (ρ h).sz = sz) (hsz : sz = P.cellsOf elem) (h01 : 0 ≤ j ∧ j < len) (hsy : sy = .ptr h ((off + j.toNat) * sz) ∨ sy = .pts h ((off + j.toNat) * sz)) :
    OpOk P o env m { val := .t (.one sy), regs := [], nh := m.nh } := by
  refine opOk_pure fun B w0 ρ a w he hm => ?_
  have hx1 := evs_rel he hx
  have hi2 := S.int?_rel hs (evs_rel he hi)
  have hs2 := hrs ρ w (hm.regs _ _ hr)
  refine ⟨ptrVal ρ h ((off + j.toNat) * sz), ?_, ?_⟩
  · rcases hx1 with ⟨_, _, _, h5, _⟩ | ⟨_, h6, ad, h7, h8⟩
    · omega
    · have h9 := h8 (by omega)
      subst h9
      simp [execOp, ho, h7, hi2, ptrVal, Instr.indexAt, asIntOf, run_underlying hu, underlying_of_info hd, h01.1, h01.2, addr_add, hs2, hsz, Nat.add_mul, Nat.add_assoc]
  · rcases hsy with rfl | rfl <;> rfl

theorem load_agg' {t : TypeId} {x : Operand} {h k : Nat} {cells : List S} {sz : Nat} {e : TypeId} {sx : S}
    (ho : o.op = .load t x) (hx : evs env x = some sx) (hsx : sx = .ptr h k ∨ sx = .pts h k) (hr : m.reg h = some (.box cells sz e)) (ha : isAggT P t = some true) (hs : k + P.cellsOf t ≤ cells.length) :
    OpOk P o env m { val := .t (.agg (cut cells k (P.cellsOf t))), regs := [], nh := m.nh } := by
  refine opOk_pure fun B w0 ρ a w he hm => ?_
  have h1 : a.eval x = ptrVal ρ h k := by
    have := evs_rel he hx
    rcases hsx with rfl | rfl <;> exact this
  obtain ⟨h2, ys, h3, h4, h5⟩ := box_cell (hm.regs _ _ hr)
  refine ⟨.agg ((ys.drop k).take (P.cellsOf t)).toArray, ?_, _, rfl, h4.cut _ _⟩
  have hd : ∃ d, P.underlying t = some d := by
    unfold isAggT at ha
    cases hu : P.underlying t with
    | none => simp [hu] at ha
    | some d => exact ⟨d, rfl⟩
  obtain ⟨d, hd⟩ := hd
  have hl := h4.length
  have hlc := run_loadCells_list (P := P) (w := w) ⟨(ρ h).blk, k, none⟩ ((ys.drop k).take (P.cellsOf t)) (by
    intro j v hv
    rw [addr_add, h5]
    rw [List.getElem?_take] at hv
    split at hv
    · rw [List.getElem?_drop] at hv; exact hv
    · cases hv)
  have hlen : ((ys.drop k).take (P.cellsOf t)).length = P.cellsOf t := by simp; omega
  rw [hlen] at hlc
  simp [execOp, ho, h1, ptrVal, Instr.loadAt, Instr.sureAddr, loadVar, run_isAgg ha, h2, run_sizeOf' hd, hlc]

theorem load_one' {t : TypeId} {x : Operand} {h k : Nat} {cells : List S} {sz : Nat} {e : TypeId} {s sx : S}
    (ho : o.op = .load t x) (hx : evs env x = some sx) (hsx : sx = .ptr h k ∨ sx = .pts h k) (hr : m.reg h = some (.box cells sz e)) (ha : isAggT P t = some false) (hs : nth cells k = some s) :
    OpOk P o env m { val := .t (.one s), regs := [], nh := m.nh } := by
  refine opOk_pure fun B w0 ρ a w he hm => ?_
  have h1 : a.eval x = ptrVal ρ h k := by
    have := evs_rel he hx
    rcases hsx with rfl | rfl <;> exact this
  obtain ⟨h2, ys, h3, h4, h5⟩ := box_cell (hm.regs _ _ hr)
  obtain ⟨y, hy, hrel⟩ := h4.nth hs
  refine ⟨y, ?_, hrel⟩
  simp [execOp, ho, h1, ptrVal, Instr.loadAt, Instr.sureAddr, loadVar, run_isAgg ha, h2, h5, hy]

theorem allOne_of {l : List Value} (h : ∀ x ∈ l, x.oneCell' = true) : allOne l = true := by
  induction l with
  | nil => rfl
  | cons x l ih => simp only [allOne, h x (by simp), cond_true]; exact ih fun y hy => h y (by simp [hy])

theorem load_row_one {t : TypeId} {x : Operand} {h k : Nat} {xs : List Value} {sz : Nat} {e : TypeId} {own : Bool} {y : Value}
    (ho : o.op = .load t x) (hx : evs env x = some (.pts h k)) (hr : m.reg h = some (.row xs sz e own)) (ha : isAggT P t = some false) (hs : xs[k]? = some y) :
    OpOk P o env m { val := .t (.one (.v y)), regs := [], nh := m.nh } := by
  refine opOk_pure fun B w0 ρ a w he hm => ?_
  have h1 : a.eval x = ptrVal ρ h k := evs_rel he hx
  obtain ⟨h2, h3⟩ := row_cell (hm.regs _ _ hr)
  refine ⟨y, ?_, rfl, h2 y (List.mem_of_getElem? hs)⟩
  simp [execOp, ho, h1, ptrVal, Instr.loadAt, Instr.sureAddr, loadVar, run_isAgg ha, h3 k y hs]

theorem load_row_agg {t : TypeId} {x : Operand} {h k : Nat} {xs : List Value} {sz : Nat} {e : TypeId} {own : Bool}
    (ho : o.op = .load t x) (hx : evs env x = some (.pts h k)) (hr : m.reg h = some (.row xs sz e own)) (ha : isAggT P t = some true) (hs : k + P.cellsOf t ≤ xs.length) :
    OpOk P o env m { val := .t (.agg (vS ((xs.drop k).take (P.cellsOf t)))), regs := [], nh := m.nh } := by
  refine opOk_pure fun B w0 ρ a w he hm => ?_
  have h1 : a.eval x = ptrVal ρ h k := evs_rel he hx
  obtain ⟨h2, h3⟩ := row_cell (hm.regs _ _ hr)
  have hone : ∀ y ∈ (xs.drop k).take (P.cellsOf t), y.oneCell' = true := fun y hy => h2 y (List.mem_of_mem_drop (List.mem_of_mem_take hy))
  refine ⟨.agg ((xs.drop k).take (P.cellsOf t)).toArray, ?_, _, rfl, vS_rel hone⟩
  have hd : ∃ d, P.underlying t = some d := by
    unfold isAggT at ha
    cases hu : P.underlying t with
    | none => simp [hu] at ha
    | some d => exact ⟨d, rfl⟩
  obtain ⟨d, hd⟩ := hd
  have hlc := run_loadCells_list (P := P) (w := w) ⟨(ρ h).blk, (ρ h).base + k, none⟩ ((xs.drop k).take (P.cellsOf t)) (by
    intro j v hv
    rw [addr_add]
    rw [List.getElem?_take] at hv
    split at hv
    · rw [List.getElem?_drop] at hv
      have := h3 (k + j) v hv
      rwa [← Nat.add_assoc] at this
    · cases hv)
  have hlen : ((xs.drop k).take (P.cellsOf t)).length = P.cellsOf t := by simp; omega
  rw [hlen] at hlc
  simp [execOp, ho, h1, ptrVal, Instr.loadAt, Instr.sureAddr, loadVar, run_isAgg ha, run_sizeOf' hd, hlc]

theorem store' {t : TypeId} {x y : Operand} {h k : Nat} {cells : List S} {sz : Nat} {e : TypeId} {v : T} {d : TypeDesc} {sx : S}
    (ho : o.op = .store t x y) (hx : evs env x = some sx) (hsx : sx = .ptr h k ∨ sx = .pts h k) (hy : evt env y = some v) (hr : m.reg h = some (.box cells sz e)) (hd : P.underlying t = some d) (hl : v.cells.length = P.cellsOf t) (hs : k + v.cells.length ≤ cells.length) :
    OpOk P o env m { val := .unk, regs := [(h, .box (setAt cells k v.cells) sz e)], nh := m.nh } := by
  refine opOk_write hr rfl ⟨fun _ => rfl, fun _ => rfl⟩ fun B w0 ρ a w he hm => ?_
  have h1 : a.eval x = ptrVal ρ h k := by
    have := evs_rel he hx
    rcases hsx with rfl | rfl <;> exact this
  have h2 := evt_rel he hy
  obtain ⟨g1, g2, g3, ys, g4, g5⟩ := hm.regs _ _ hr
  have hlen := g5.length
  have hsz := h2.cells_size
  obtain ⟨w', h3, h4, h5⟩ := run_storeCells_set (P := P) (ρ h).blk k e (a.eval y).cells.toList 0 ys w g4 (by simp; omega) (LRel.one h2.cells)
  refine ⟨w', ?_, g1, h5, g1, g2, ?_, _, h4, g5.setAt h2.cells _⟩
  · simp [execOp, ho, h1, ptrVal, Instr.storeAt, Instr.sureAddr, storeVar, run_sizeOf' hd, g2, hsz, hl]
    rw [h3]; rfl
  · have := (g5.setAt h2.cells k).length
    rw [setVals_length] at this
    omega

theorem fieldAddr' {t : TypeId} {x : Operand} {i h k : Nat} {fields : Array Field} {f : Field} {sx sy : S}
    (ho : o.op = .fieldAddr t x i) (hx : evs env x = some sx) (hsx : sx = .ptr h k ∨ sx = .pts h k) (hu : P.underlying t = some (.struct fields)) (hf : fields[i]? = some f) (hz : P.cellsOf f.type ≠ 0)
    (hsy : sy = .ptr h (k + f.offset) ∨ sy = .pts h (k + f.offset)) :
    OpOk P o env m { val := .t (.one sy), regs := [], nh := m.nh } := by
  refine opOk_pure fun B w0 ρ a w he hm => ?_
  have h1 : a.eval x = ptrVal ρ h k := by
    have := evs_rel he hx
    rcases hsx with rfl | rfl <;> exact this
  refine ⟨ptrVal ρ h (k + f.offset), ?_, ?_⟩
  · have hi : ∃ i, P.info? f.type = some i := by
      unfold Program.cellsOf at hz
      cases hi : P.info? f.type with
      | none => simp [hi] at hz
      | some i => exact ⟨i, rfl⟩
    obtain ⟨inf, hi⟩ := hi
    simp [execOp, ho, h1, ptrVal, Instr.fieldAt, Instr.sureAddr, run_underlying hu, hf, fieldPlace, run_sizeOf w hi, hz, addr_add, Nat.add_assoc]
  · rcases hsy with rfl | rfl <;> rfl

end Go.SE

namespace Go.SE
open Go Go.RowKit
variable {P : Program} {o : Oper} {env : Env} {m : M}

/-! ### making -/

theorem zerosV_length (z : List Value) : ∀ n, (zerosV z n).length = n * z.length
  | 0 => by simp [zerosV]
  | n + 1 => by simp [zerosV, zerosV_length z n, Nat.succ_mul]; omega

theorem zerosV_add (z : List Value) : ∀ n k, zerosV z (n + k) = zerosV z n ++ zerosV z k
  | 0, k => by simp [zerosV]
  | n + 1, k => by
    rw [show n + 1 + k = (n + k) + 1 by omega]
    simp [zerosV, zerosV_add z n k]

theorem madeCells_zeros (z : List Value) : ∀ n, (madeCells z.toArray (n * z.length)).toList = zerosV z n
  | 0 => by simp [madeCells, zerosV]
  | n + 1 => by
    have ih := madeCells_zeros z n
    simp only [madeCells, Array.toList_map, Array.toList_range] at ih ⊢
    have e1 : (List.range ((n + 1) * z.length)).map (fun i => z.toArray[i % z.toArray.size]!) = z ++ (List.range (n * z.length)).map fun i => z.toArray[i % z.toArray.size]! := by
      rw [Nat.succ_mul, Nat.add_comm, List.range_add, List.map_append]
      congr 1
      · apply List.ext_getElem
        · simp
        · intro i h1 h2
          have : i < z.length := by simpa using h1
          simp [Nat.mod_eq_of_lt this, this]
      · simp [Function.comp_def]
    rw [e1, ih, zerosV]

theorem elemZero_spec {t : TypeId} {el : Elem} {z : List Value} (h : elemZero P t = some (el, z)) : elemInfo P t = some el ∧ ∃ i zv, P.info? el.e = some i ∧ i.zero = some zv ∧ zv.cells.toList = z ∧ allOne z = true := by
  unfold elemZero at h
  split at h
  · rename_i el' hel
    split at h
    · rename_i zv hz
      simp only [cond_eq_ite] at h
      split at h
      · rename_i hb
        simp only [Option.some.injEq, Prod.mk.injEq] at h
        obtain ⟨rfl, rfl⟩ := h
        cases hi : P.info? el'.e with
        | none => simp [hi] at hz
        | some i => exact ⟨hel, i, zv, rfl, by simpa [hi] using hz, rfl, hb⟩
      · cases h
    · cases h
  · cases h

theorem allOne_mem : ∀ {l : List Value}, allOne l = true → ∀ x ∈ l, x.oneCell' = true
  | [], _, x, hx => by simp at hx
  | y :: l, h, x, hx => by
    simp only [allOne, cond_eq_ite] at h
    split at h
    · rename_i h1
      rcases List.mem_cons.1 hx with rfl | hx
      · exact h1
      · exact allOne_mem h x hx
    · cases h

theorem zerosV_one {z : List Value} (h : allOne z = true) : ∀ n, ∀ x ∈ zerosV z n, x.oneCell' = true
  | 0, x, hx => by simp [zerosV] at hx
  | n + 1, x, hx => by
    simp only [zerosV, List.mem_append] at hx
    rcases hx with hx | hx
    · exact allOne_mem h x hx
    · exact zerosV_one h n x hx

theorem grownBy_alloc_none (w : World) (ob : Obj) : w.grownBy (w.alloc ob) none := World.grownBy_alloc w ob none

theorem cMakeSlice_ok {t : TypeId} {l c : Operand} (ho : o.op = .makeSlice t l c) : (cMakeSlice P env m t l c).Ok P o env m := by
  unfold cMakeSlice
  split
  · rename_i el z sl sc hel hl hc
    split
    · rename_i kl l kl' kc c kc' h1 h2
      rw [withN_eq]
      rintro ⟨p, q, r⟩ ⟨e1, e2, h3, h4, h5, e3⟩
      simp only at e1 e2 h3 h4 h5 e3 ⊢
      subst e1; subst e2; subst e3
      obtain ⟨hei, i, zv, hi, hz, hzl, hone⟩ := elemZero_spec hel
      obtain ⟨e, sz, by_⟩ := el
      obtain ⟨hu, i', z', hi', hz', hsize, hzs, hsz, hbytes⟩ := elemInfo_spec hei
      simp only at hi hi'
      rw [hi] at hi'; cases hi'
      rw [hz] at hz'; cases hz'
      refine opOk_grow none (fun _ h => by cases h) fun B w0 ρ a w he hm => ?_
      have g1 := S.int?_rel h1 (evs_rel he hl)
      have g2 := S.int?_rel h2 (evs_rel he hc)
      have hb : (i.bytes : Int) * (q : Int) ≤ 281474976710656 := by
        have h : ((i.bytes * q : Nat) : Int) ≤ 281474976710656 := by
          have h4' : q * by_ ≤ 281474976710656 := h4
          rw [hbytes, Nat.mul_comm]; omega
        rwa [Int.natCast_mul] at h
      have h63 : (q : Int) ≤ 9223372036854775807 := by
        have h := h5
        simp [maxLen] at h
        omega
      have hr := run_make (P := P) w t e i zv hu hi hz kl kc (p : Int) (q : Int) (Int.natCast_nonneg _) (by omega) hb h63
      simp only [Int.toNat_natCast] at hr
      have hzlen : z.length = sz := by rw [← hzl]; simpa using hzs
      have hys : (madeCells zv.cells (q * i.size)).toList = zerosV z q := by
        have := madeCells_zeros z q
        rw [hzlen, ← hsize] at this
        rw [← this, ← hzl, Array.toArray_toList]
      refine ⟨.slice (some ⟨w.heap.size, 0, none⟩) p q, w.alloc (.cells (madeCells zv.cells (q * i.size)) e), none, by simp [execOp, ho, g1, g2, hr], ?_, ?_, grownBy_alloc_none _ _, fun k hk => (by cases hk), fun _ => .inl (by simp [locOf])⟩
      · refine ⟨rfl, zerosV_one hone p, .inr ⟨rfl, rfl, zerosV z q, ?_, ⟨?_, by simpa [locOf] using h5⟩, ?_⟩⟩
        · simp only [locOf]
          rw [World.alloc_heap_new, ← hys]
        · rw [zerosV_length, hzlen]; rfl
        · have : q = p + (q - p) := by omega
          rw [this, zerosV_add]
          exact List.prefix_append _ _
      · exact .inr ⟨rfl, by simpa [locOf] using h3, _, rfl, fun _ => by simp [locOf]⟩
    · trivial
  · trivial

/-! ### writing rows -/

theorem setVals_append : ∀ (xs : List Value) (k : Nat) (vs zs : List Value), k + vs.length ≤ xs.length → setVals (xs ++ zs) k vs = setVals xs k vs ++ zs
  | [], 0, [], zs, _ => by cases zs <;> simp [setVals]
  | [], 0, v :: vs, zs, h => by simp at h
  | [], k + 1, vs, zs, h => by simp at h
  | x :: xs, 0, [], zs, _ => by simp [setVals]
  | x :: xs, 0, v :: vs, zs, h => by simp [setVals, setVals_append xs 0 vs zs (by simpa using h)]
  | x :: xs, k + 1, vs, zs, h => by
    have := setVals_append xs k vs zs (by simp at h; omega)
    cases vs <;> simp [setVals, this]

theorem setVals_mem : ∀ (xs : List Value) (k : Nat) (vs : List Value) (x : Value), x ∈ setVals xs k vs → x ∈ xs ∨ x ∈ vs
  | [], k, vs, x, h => by cases k <;> cases vs <;> simp [setVals] at h
  | y :: xs, 0, [], x, h => .inl (by simpa [setVals] using h)
  | y :: xs, 0, v :: vs, x, h => by
    simp only [setVals, List.mem_cons] at h
    rcases h with rfl | h
    · exact .inr (by simp)
    · rcases setVals_mem xs 0 vs x h with h | h
      · exact .inl (by simp [h])
      · exact .inr (by simp [h])
  | y :: xs, k + 1, vs, x, h => by
    have : setVals (y :: xs) (k + 1) vs = y :: setVals xs k vs := by cases vs <;> simp [setVals]
    rw [this, List.mem_cons] at h
    rcases h with rfl | h
    · exact .inl (by simp)
    · rcases setVals_mem xs k vs x h with h | h
      · exact .inl (by simp [h])
      · exact .inr h

/-- A row of one's own, written. -/
theorem row_write {ρ : Rho} {w : World} {h k sz : Nat} {xs vs : List Value} {e : TypeId} (hr : RegOk ρ w h (.row xs sz e true)) (hn : (ρ h).nil = false) (hk : k + vs.length ≤ xs.length) (hv : ∀ v ∈ vs, v.oneCell' = true) :
    ∃ w', (storeCells ⟨(ρ h).blk, k, none⟩ vs 0).run P w = .ok () w' ∧ SameBut (ρ h).blk w w' ∧ RegOk ρ w' h (.row (setVals xs k vs) sz e true) := by
  obtain ⟨g1, g2, ⟨g3, _⟩ | ⟨g3, g4, ys, g5, g6, g7⟩⟩ := hr
  · rw [g3] at hn; cases hn
  · obtain ⟨zs, rfl⟩ := g7
    obtain ⟨w', h1, h2, h3⟩ := run_storeCells_set (P := P) (ρ h).blk k e vs 0 (xs ++ zs) w g5 (by simp; omega) hv
    refine ⟨w', h1, h3, g1, fun x hx => ?_, .inr ⟨g3, g4, _, h2, ?_, ?_⟩⟩
    · rcases setVals_mem _ _ _ _ hx with hx | hx
      · exact g2 x hx
      · exact hv x hx
    · rw [setVals_length]; exact g6
    · rw [Nat.add_zero, setVals_append _ _ _ _ hk]; exact List.prefix_append _ _

theorem store_row_ok {t : TypeId} {x y : Operand} {h k : Nat} {xs vs : List Value} {sz : Nat} {e : TypeId} {v : T} {d : TypeDesc}
    (ho : o.op = .store t x y) (hx : evs env x = some (.pts h k)) (hy : evt env y = some v) (hr : m.reg h = some (.row xs sz e true)) (hd : P.underlying t = some d) (hl : v.cells.length = P.cellsOf t) (hvs : valsOf v.cells = some vs)
    (hpos : 0 < v.cells.length) (hs : k + vs.length ≤ xs.length) :
    OpOk P o env m { val := .unk, regs := [(h, .row (setVals xs k vs) sz e true)], nh := m.nh } := by
  refine opOk_write hr rfl ⟨fun _ => rfl, fun _ => rfl⟩ fun B w0 ρ a w he hm => ?_
  have h1 : a.eval x = ptrVal ρ h k := evs_rel he hx
  have h2 := evt_rel he hy
  have hreg := hm.regs _ _ hr
  have hvl := valsOf_rel hvs h2.cells
  have hlen : vs.length = v.cells.length := by rw [← hvl]; exact h2.cells.length.symm
  have hn : (ρ h).nil = false := by
    rcases hreg.2.2 with ⟨_, _, rfl⟩ | ⟨g, _⟩
    · have := hs; simp only [List.length_nil] at this; omega
    · exact g
  have hb : (ρ h).base = 0 := by
    rcases hreg.2.2 with ⟨g, _⟩ | ⟨_, g, _⟩
    · rw [g] at hn; cases hn
    · exact g
  obtain ⟨w', h3, h4, h5⟩ := row_write (P := P) hreg hn hs (by rw [← hvl]; exact LRel.one h2.cells)
  refine ⟨w', ?_, hn, h4, h5⟩
  have hsz := h2.cells_size
  simp [execOp, ho, h1, ptrVal, Instr.storeAt, Instr.sureAddr, storeVar, run_sizeOf' hd, hb, hsz, hl]
  rw [hvl, h3]; rfl

/-! ### a value and a write at once -/

theorem MOk.writeNil {B : Nat} {w0 : World} {ρ : Rho} {w : World} {r' : Reg} {h k : Nat} (hm : MOk P B w0 ρ m w) (hn : (ρ h).nil = true) (hr' : RegOk ρ w h r') (x : X) :
    MOk P B w0 ρ (m.app { val := x, regs := [(h, r')], nh := k }) w := by
  have hreg : ∀ h2 r2, (m.app { val := x, regs := [(h, r')], nh := k }).reg h2 = some r2 → (h2 = h ∧ r2 = r') ∨ (h2 ≠ h ∧ m.reg h2 = some r2) := by
    intro h2 r2 hh
    rw [reg_app] at hh
    simp only [regGet, cond_eq_ite] at hh
    split at hh
    · rename_i he
      have := Nat.eq_of_beq_eq_true he
      simp at hh
      exact .inl ⟨this.symm, hh.symm⟩
    · rename_i he
      simp at hh
      exact .inr ⟨fun e => he (by rw [e]; exact Nat.beq_refl _), hh⟩
  refine ⟨?_, ?_, ?_, hm.below, hm.hB⟩
  · intro h2 r2 hh
    rcases hreg h2 r2 hh with ⟨rfl, rfl⟩ | ⟨_, hh⟩
    · exact hr'
    · exact hm.regs _ _ hh
  · intro h1 h2 r1 r2 e1 e2 hne ht hw1 hl n1 n2
    rcases hreg _ _ e1 with ⟨rfl, rfl⟩ | ⟨g1, f1⟩
    · rw [hn] at n1; cases n1
    rcases hreg _ _ e2 with ⟨rfl, rfl⟩ | ⟨g2, f2⟩
    · rw [hn] at n2; cases n2
    exact hm.dist _ _ _ _ f1 f2 hne ht hw1 hl n1 n2
  · intro h2 r2 hh hw2 n2
    rcases hreg h2 r2 hh with ⟨rfl, rfl⟩ | ⟨_, hh⟩
    · rw [hn] at n2; cases n2
    · exact hm.base _ _ hh hw2 n2

theorem opOk_writeV {h : Nat} {r r' : Reg} {x : X} {y : Value} (hr : m.reg h = some r) (ho : r.own = true) (hns : (∀ z, tied r z = false) ∧ ∀ z, tied r' z = false) (hxy : ∀ ρ, x.Rel ρ y)
    (hx : ∀ (B : Nat) (w0 : World) (ρ : Rho) (a : Act) (w : World), EnvOk ρ env a → MOk P B w0 ρ m w → ∃ w', (execOp a.eval o).run P w = .ok (.value y) w' ∧ RegOk ρ w' h r' ∧ (((ρ h).nil = false ∧ SameBut (ρ h).blk w w') ∨ ((ρ h).nil = true ∧ w' = w))) :
    OpOk P o env m { val := x, regs := [(h, r')], nh := m.nh } := by
  refine ⟨Nat.le_refl _, fun nt B w0 D ρ a w _ hok => ?_⟩
  obtain ⟨w', hy, _⟩ := hx B w0 ρ a w (hok.env ρ (Agree.refl _ _)) (hok.mem ρ (Agree.refl _ _))
  refine ⟨y, w', ρ, .inl hy, Agree.refl _ _, fun ρ'' hag => ?_⟩
  have hag' : Agree D ρ ρ'' := hag.mono fun h hd => .inl hd
  have hm := hok.mem ρ'' hag'
  obtain ⟨w'', hy', hreg, hc⟩ := hx B w0 ρ'' a w (hok.env ρ'' hag') hm
  rw [hy] at hy'
  cases hy'
  rcases hc with ⟨hn, hs⟩ | ⟨hn, rfl⟩
  · exact ⟨hm.write hr ho hn hs hreg x hns, hxy _⟩
  · exact ⟨hm.writeNil hn hreg x, hxy _⟩

/-- The row that a slice lies in, whole. -/
theorem rowOf_spec {h : Nat} {sz : Nat} {xs : List Value} {e : TypeId} (h1 : rowOf m h = some (xs, sz, e)) (hsz : 0 < sz) : (∃ r, m.reg h = some r ∧ r.own = true ∧ ∀ z, tied r z = false) ∧ ∀ {B : Nat} {w0 : World} {ρ : Rho} {w : World}, MOk P B w0 ρ m w → RegOk ρ w h (.row xs sz e true) := by
  unfold rowOf at h1
  split at h1
  · rename_i hr
    cases h1
    exact ⟨⟨_, hr, rfl, fun _ => rfl⟩, fun hm => hm.regs _ _ hr⟩
  · rename_i hr
    split at h1
    · rename_i vs hv
      cases h1
      refine ⟨⟨_, hr, rfl, fun _ => rfl⟩, fun {B w0 ρ w} hm => ?_⟩
      obtain ⟨g1, g2, ⟨g3, g6, g7⟩, ys, g4, g5⟩ := hm.regs _ _ hr
      have := valsOf_rel hv g5
      subst this
      exact ⟨g3, LRel.one g5, .inr ⟨g1, g2, ys, g4, ⟨by rw [← g5.length]; exact g6.symm, g7 (by omega)⟩, List.prefix_refl _⟩⟩
    · cases h1
  · cases h1

theorem gives_run {w : World} {sz k : Nat} {y : Value} {news : List Value} (h : Gives w sz y k news) (n : Nat) (hn : n ≤ k) (hl : news.length = k * sz) :
    (Builtin.lenOf y).run P w = .ok k w ∧ (Builtin.firstCells sz n y).run P w = .ok (news.take (n * sz)).toArray w ∧ ∀ v ∈ news.take (n * sz), v.oneCell' = true := by
  cases h with
  | none => exact ⟨by simp [Builtin.lenOf], by simp [Builtin.firstCells], fun v hv => by simp at hv⟩
  | some ad k c news g1 g2 g3 =>
    have hlc := run_loadCells_list (P := P) w ad (news.take (n * sz)) (fun j v hv => g2 j v (by
      rw [List.getElem?_take] at hv
      split at hv
      · exact hv
      · cases hv))
    have hl3 : (news.take (n * sz)).length = n * sz := by
      rw [List.length_take, g1]
      exact Nat.min_eq_left (Nat.mul_le_mul_right _ hn)
    rw [hl3] at hlc
    exact ⟨by simp [Builtin.lenOf], by simpa [Builtin.firstCells] using hlc, fun v hv => g3 v (List.mem_of_mem_take hv)⟩

theorem cCopy_ok {c : Call} (ho : o.op = .call c) (hc : c.callee = .builtin .copy) : (cCopy P env m c).Ok P o env m := by
  unfold cCopy
  split
  · rename_i d s t t' ha ht
    split
    · rename_i e sz by_ h off len vx hel hd hs
      split
      · rename_i xs sz' e' news k hrow hgv
        refine Comes.Ok.bif fun hb => ?_
        have hb := Nat.eq_of_beq_eq_true hb
        subst hb
        rintro ⟨n, r⟩ ⟨e1, hl2, hfit, e2⟩
        simp only at e1 hl2 hfit e2 ⊢
        subst e1; subst e2
        obtain ⟨hu, i, z, hi, hz, hsize, hzs, hsz, hbytes⟩ := elemInfo_spec hel
        obtain ⟨⟨r0, hr0, hown, htie⟩, hrok⟩ := rowOf_spec (P := P) hrow hsz
        have hargs : c.args = #[d, s] := by rw [← Array.toArray_toList (xs := c.args), ha]
        have htys : c.argTypes[0]? = some t := by
          have : c.argTypes = #[t, t'] := by rw [← Array.toArray_toList (xs := c.argTypes), ht]
          rw [this]; rfl
        refine opOk_writeV (y := .int .i64 ((Nat.min k len : Nat) : Int)) hr0 hown ⟨htie, fun _ => rfl⟩ (fun ρ => ⟨rfl, rfl⟩) fun B w0 ρ a w he hm => ?_
        have hreg := hrok hm
        have q4 := givesOf_rel hm hgv (evs_rel he hs) hl2 hsz
        have hd1 := evs_rel he hd
        have hsize' : ∀ w, (sizeOf e).run P w = .ok sz' w := fun w => by rw [run_sizeOf w hi, Program.cellsOf, hi]; simp [hsize]
        obtain ⟨hlenof, hfirst, hone⟩ := gives_run (P := P) q4 (Nat.min k len) (Nat.min_le_left _ _) hl2
        rcases hd1 with ⟨g1, g2, rfl, rfl, g5⟩ | ⟨g1, g2, ad, g3, g4⟩
        · have e0 : Nat.min k 0 = 0 := Nat.min_zero k
          refine ⟨w, ?_, ?_, .inr ⟨g1, rfl⟩⟩
          · simp only [e0, Nat.zero_mul, List.take_zero] at hfirst ⊢
            simp [execOp, ho, resolve, hc, invoke, Go.builtin, hargs, Builtin.copy_, htys, run_underlying hu, g5, hlenof, hsize', hfirst, goInt, e0]
          · simp only [e0, Nat.zero_mul, List.take_zero, setVals_nil]
            exact hreg
        · by_cases hz0 : Nat.min k len * sz' = 0
          · refine ⟨w, ?_, ?_, .inl ⟨g1, SameBut.refl _ _⟩⟩
            · rw [hz0] at hfirst
              simp only [List.take_zero] at hfirst
              simp [execOp, ho, resolve, hc, invoke, Go.builtin, hargs, Builtin.copy_, htys, run_underlying hu, g3, hlenof, hsize', hfirst, goInt, storeCells]
            · simp only [hz0, List.take_zero, setVals_nil]
              exact hreg
          · have hpos : 0 < Nat.min k len := Nat.pos_of_ne_zero fun e0 => hz0 (by rw [e0, Nat.zero_mul])
            have hlen : Nat.min k len ≤ len := Nat.min_le_right _ _
            have hsr : (ρ h).sz = sz' := hreg.1
            have hbase : (ρ h).base = 0 := by
              rcases hreg.2.2 with ⟨g, _⟩ | ⟨_, g, _⟩
              · rw [g] at g1; cases g1
              · exact g
            have had := g4 (.inl (by omega))
            subst had
            have hl3 : (news.take (Nat.min k len * sz')).length = Nat.min k len * sz' := by
              rw [List.length_take, hl2]
              exact Nat.min_eq_left (Nat.mul_le_mul_right _ (Nat.min_le_left _ _))
            obtain ⟨w', h3, h4, h5⟩ := row_write (P := P) hreg g1 (k := off * sz') (vs := news.take (Nat.min k len * sz')) (by rw [hl3, ← Nat.add_mul]; exact hfit) hone
            refine ⟨w', ?_, h5, .inl ⟨g1, h4⟩⟩
            simp [execOp, ho, resolve, hc, invoke, Go.builtin, hargs, Builtin.copy_, htys, run_underlying hu, g3, hlenof, hsize', hfirst, goInt, hbase, hsr, h3]
      · trivial
    · trivial
  · trivial

/-! ### values -/

theorem cMinMax_ok {c : Call} {b : Bool} (ho : o.op = .call c) (hc : c.callee = .builtin (if b then .max else .min)) : (cMinMax env m b c).Ok P o env m := by
  unfold cMinMax
  split
  · rename_i x y ha
    split
    · rename_i sx sy hx hy
      split
      · rename_i k i ki k' j kj h1 h2
        have hargs : c.args = #[x, y] := by rw [← Array.toArray_toList (xs := c.args), ha]
        have key : ∀ s : S, (∀ ρ, s.Rel ρ (.int k (minMax b i j))) → OpOk P o env m { val := .t (.one s), regs := [], nh := m.nh } := by
          intro s hs
          refine opOk_pure fun B w0 ρ a w he hm => ?_
          have g1 := S.int?_rel h1 (evs_rel he hx)
          have g2 := S.int?_rel h2 (evs_rel he hy)
          refine ⟨.int k (minMax b i j), ?_, hs ρ⟩
          cases b
          · simp [execOp, ho, resolve, hc, invoke, Go.builtin, hargs, g1, g2, Builtin.min_, Builtin.min2, minMax]
          · simp [execOp, ho, resolve, hc, invoke, Go.builtin, hargs, g1, g2, Builtin.max_, Builtin.max2, minMax]
        exact Comes.Ok.bifs (fun _ => by rw [valI_eq]; exact key _ fun ρ => rfl) fun _ => key _ fun ρ => ⟨rfl, rfl⟩
      · trivial
    · trivial
  · trivial

theorem cXor_ok {t : TypeId} {x : Operand} (ho : o.op = .unOp .xor t x) : (cXor env m x).Ok P o env m := by
  unfold cXor
  split
  · rename_i sx hx
    split
    · rename_i k i kn h1
      have key : ∀ (s : S) (r : Int), k.wrap (BitVec.ofInt k.bits (if k.signed then -1 else k.max) ^^^ BitVec.ofInt k.bits i).toNat = r → (∀ ρ, s.Rel ρ (.int k r)) → OpOk P o env m { val := .t (.one s), regs := [], nh := m.nh } := by
        intro s r hr hs
        refine opOk_pure fun B w0 ρ a w he hm => ?_
        have g1 := S.int?_rel h1 (evs_rel he hx)
        refine ⟨.int k r, ?_, hs ρ⟩
        subst hr
        simp [execOp, ho, g1, Op.unary, Op.intBits]
      exact Comes.Ok.bifs (fun _ => by rw [valI_eq]; exact key _ _ rfl fun ρ => rfl) fun _ r hr => key _ r hr fun ρ => ⟨rfl, rfl⟩
    · trivial
  · trivial

theorem cNeg_ok {t : TypeId} {x : Operand} (ho : o.op = .unOp .neg t x) : (cNeg env m x).Ok P o env m := by
  unfold cNeg
  split
  · rename_i sx hx
    split
    · rename_i k i kn h1
      have key : ∀ (s : S) (r : Int), k.wrap (0 - i) = r → (∀ ρ, s.Rel ρ (.int k r)) → OpOk P o env m { val := .t (.one s), regs := [], nh := m.nh } := by
        intro s r hr hs
        refine opOk_pure fun B w0 ρ a w he hm => ?_
        have g1 := S.int?_rel h1 (evs_rel he hx)
        refine ⟨.int k r, ?_, hs ρ⟩
        subst hr
        simp [execOp, ho, g1, Op.unary, Op.intArith]
      exact Comes.Ok.bifs (fun _ => by rw [valI_eq]; exact key _ _ rfl fun ρ => rfl) fun _ r hr => key _ r hr fun ρ => ⟨rfl, rfl⟩
    · trivial
  · trivial

theorem run_part {ρ : Rho} {xs : List S} {ys : List Value} (hl : LRel ρ xs ys) {t : TypeId} {off : Nat} {x : T} (h : partT P t xs off = some x) (hd : (P.info? t).isSome = true) (w : World) : ∃ y, (part t ys.toArray off).run P w = .ok y w ∧ x.Rel ρ y := by
  unfold partT at h
  split at h
  · rename_i ha
    cases h
    refine ⟨.agg ((ys.drop off).take (P.cellsOf t)).toArray, ?_, _, rfl, hl.cut _ _⟩
    simp [part, run_isAgg ha, underlying_of_info hd]
  · rename_i ha
    split at h
    · rename_i s hs
      cases h
      obtain ⟨y, h1, h2⟩ := hl.nth hs
      exact ⟨y, by simp [part, run_isAgg ha, h1], h2⟩
    · cases h
  · cases h

theorem cField_ok {t : TypeId} {x : Operand} {i : Nat} (ho : o.op = .field t x i) : (cField P env m t x i).Ok P o env m := by
  unfold cField
  split
  · rename_i fields xs hu hx
    split
    · rename_i f hf
      refine Comes.Ok.bif fun hd => ?_
      split
      · rename_i y hp
        refine opOk_pure fun B w0 ρ a w he hm => ?_
        obtain ⟨ys, h1, h2⟩ := evt_rel he hx
        obtain ⟨v, h4, h5⟩ := run_part (P := P) h2 hp hd w
        refine ⟨v, ?_, h5⟩
        simp [execOp, ho, h1, Instr.field, asAgg, run_underlying hu, hf, h4]
      · trivial
    · trivial
  · trivial

theorem cIndex_ok {t : TypeId} {x i : Operand} (ho : o.op = .index t x i) : (cIndex P env m t x i).Ok P o env m := by
  unfold cIndex
  split
  · rename_i xs si len elem hx hi hu
    split
    · rename_i k j kn hs
      refine Comes.Ok.bif fun hd => ?_
      have key : ∀ y : T, 0 ≤ j ∧ j < len → partT P elem xs (j.toNat * P.cellsOf elem) = some y → OpOk P o env m { val := .t y, regs := [], nh := m.nh } := by
        intro y h01 hp
        refine opOk_pure fun B w0 ρ a w he hm => ?_
        obtain ⟨ys, h1, h2⟩ := evt_rel he hx
        have h3 := S.int?_rel hs (evs_rel he hi)
        obtain ⟨v, h4, h5⟩ := run_part (P := P) h2 hp hd w
        refine ⟨v, ?_, h5⟩
        simp [execOp, ho, h1, h3, Instr.index, asIntOf, run_underlying hu, h01.1, h01.2, underlying_of_info hd, h4]
      refine Comes.Ok.bifs (fun _ => ?_) fun _ y hy => key y hy.1 hy.2
      refine Comes.Ok.ite fun h01 => ?_
      split
      · rename_i y hy; exact key y h01 hy
      · trivial
    · trivial
  · rename_i s si hx hi hu
    split
    · rename_i str k j kn hstr hs
      rintro b ⟨h0, hb⟩
      refine opOk_pure fun B w0 ρ a w he hm => ?_
      have h1 : a.eval x = .string str := by
        have := evt_rel he hx
        unfold S.str? at hstr
        split at hstr
        · cases hstr; exact this.1
        · cases hstr
      have h3 := S.int?_rel hs (evs_rel he hi)
      refine ⟨.int .u8 b.toNat, ?_, ⟨rfl, rfl⟩⟩
      simp [execOp, ho, h1, h3, Instr.index, asIntOf, run_underlying hu, h0, hb]
    · trivial
  · trivial

end Go.SE

namespace Go.SE
open Go Go.RowKit
variable {P : Program} {o : Oper} {env : Env} {m : M}

/-! ### maps whose keys are structs of integers; the map is known whole -/

theorem run_getObj_map9 {r : Nat} {es : Array MapEntry} {c : Nat} {w : World} (h : w.heap[r]? = some (.map es c)) : (getObj r).run P w = .ok (.map es c) w := by simp [getObj, Sem.run, h]
theorem run_setObj_map9 {r : Nat} {es : Array MapEntry} {c : Nat} {w : World} (o : Obj) (h : w.heap[r]? = some (.map es c)) : (setObj r o).run P w = .ok () (w.putObj r o) := by simp [setObj, Sem.run, h, World.putObj]

theorem run_checkKey_leaf {b : Bool} {n : Nat} {t : TypeId} {q : IntKind} {v : Value} (h : P.underlying t = some (.int q)) (w : World) : (Instr.checkKey b (n + 1) t v).run P w = .ok () w := by
  simp only [Instr.checkKey, Sem.run_bind, run_underlying h, Result.andThen_ok]
  rfl

theorem run_checkKey_fields {ρ : Rho} {b : Bool} {n : Nat} {xs : List S} {ys : List Value} (hx : LRel ρ xs ys) (w : World) : ∀ fs : List Field, intFields P xs fs = true →
    ((forIn fs PUnit.unit fun f _ => do
        if f.name ≠ "_" then Instr.checkKey b (n + 1) f.type (← part f.type ys.toArray f.offset)
        pure (ForInStep.yield PUnit.unit)) : Sem PUnit).run P w = .ok PUnit.unit w := by
  intro fs
  induction fs with
  | nil => intro _; simp
  | cons f fs ih =>
    intro h
    unfold intFields at h
    split at h
    · rename_i q x hu hp
      obtain ⟨v, hv, _⟩ := partT_run hp hx w
      rw [List.forIn_cons]
      by_cases hn : f.name = "_"
      · simp only [hn, ne_eq, not_true_eq_false, if_false, Sem.run_bind, Sem.run_pure, Result.andThen_ok]
        simpa using ih h
      · simp only [hn, ne_eq, not_false_eq_true, if_true, Sem.run_bind, hv, Result.andThen_ok, run_checkKey_leaf hu, Sem.run_pure]
        simpa using ih h
    · cases h

theorem keyOk_spec {kt : TypeId} {xs : List S} (h : keyOk P kt xs = true) : ∃ fs, P.underlying kt = some (.struct fs) ∧ intFields P xs fs.toList = true := by
  unfold keyOk at h
  split at h
  · rename_i fs hu; exact ⟨fs, hu, h⟩
  · cases h

theorem run_checkKey_struct {ρ : Rho} {b : Bool} {kt : TypeId} {xs : List S} {ys : List Value} (h : keyOk P kt xs = true) (hx : LRel ρ xs ys) (w : World) : (Instr.checkKey b 10000 kt (.agg ys.toArray)).run P w = .ok () w := by
  obtain ⟨fs, hu, hi⟩ := keyOk_spec h
  have e : (10000 : Nat) = 9998 + 1 + 1 := rfl
  rw [e]
  generalize 9998 = n
  have := run_checkKey_fields (P := P) (b := b) (n := n) hx w fs.toList hi
  unfold Instr.checkKey
  simp only [Sem.run_bind, run_underlying hu, Result.andThen_ok]
  rw [← Array.forIn_toList]
  rw [this]
  rfl

theorem keyEq_run {ρ : Rho} {kt : TypeId} {xs : List S} {ys : List Value} {k : Value} {c : Bool} (hf : heldFree P 5 kt = true) (h : keyEq P kt xs k = some c) (hx : LRel ρ xs ys) (w : World) : (Op.equal kt (.agg ys.toArray) k).run P w = .ok c w := by
  unfold keyEq at h
  split at h
  · rename_i ky hk
    split at h
    · rename_i c' kn he
      cases h
      rw [← eqT0_eq _ _ hf] at he
      have : (5 : Nat) ≤ Op.maxDepth := by decide
      exact eqT_run 5 this _ _ _ _ _ _ _ he ⟨ys, rfl, hx⟩ (ofValue_rel hk) w
    · cases h
  · cases h

theorem findAsking_says {ρ : Rho} {kt : TypeId} {xs : List S} {ys : List Value} {z v : Value} {ok : Bool} (hf : heldFree P 5 kt = true) (hx : LRel ρ xs ys) (w : World) : ∀ (es : List MapEntry) (i : Nat), lookSays P kt xs z v ok es →
    ∃ r, (Instr.findAsking kt (.agg ys.toArray) es i).run P w = .ok r w ∧ ((ok = true ∧ ∃ i, r = some (i, v)) ∨ (ok = false ∧ r = none ∧ v = z))
  | [], i, h => ⟨none, rfl, .inr ⟨h.2, rfl, h.1⟩⟩
  | e :: es, i, h => by
    unfold lookSays at h
    split at h
    · rename_i c hc
      have he := keyEq_run hf hc hx w
      cases c with
      | true =>
        obtain ⟨rfl, rfl⟩ := h.1 rfl
        exact ⟨some (i, e.val), by simp [Instr.findAsking, he], .inl ⟨rfl, i, rfl⟩⟩
      | false =>
        obtain ⟨r, h1, h2⟩ := findAsking_says hf hx w es (i + 1) (h.2 rfl)
        exact ⟨r, by simp [Instr.findAsking, he, h1], h2⟩
    · exact h.elim

theorem findKey_says {ρ : Rho} {kt : TypeId} {xs : List S} {ys : List Value} {z v : Value} {ok : Bool} (hk : keyOk P kt xs = true) (hf : heldFree P 5 kt = true) (hx : LRel ρ xs ys) (w : World) {es : List MapEntry} (h : lookSays P kt xs z v ok es) :
    ∃ r, (Instr.findKey kt (.agg ys.toArray) es).run P w = .ok r w ∧ ((ok = true ∧ ∃ i, r = some (i, v)) ∨ (ok = false ∧ r = none ∧ v = z)) := by
  obtain ⟨fs, hu, _⟩ := keyOk_spec hk
  cases es with
  | nil => exact ⟨none, by simp [Instr.findKey, run_underlying hu, Instr.findNow], .inr ⟨h.2, rfl, h.1⟩⟩
  | cons e es =>
    obtain ⟨r, h1, h2⟩ := findAsking_says hf hx w (e :: es) 0 h
    exact ⟨r, by simp [Instr.findKey, run_underlying hu, Instr.findNow, Instr.sameNow, h1], h2⟩

theorem says_of_noKey {kt : TypeId} {xs : List S} : ∀ {es : List MapEntry}, noKey P kt xs es = true → lookSays P kt xs undef undef false es
  | [], _ => ⟨rfl, rfl⟩
  | e :: es, h => by
    unfold noKey at h
    split at h
    · rename_i hc
      unfold lookSays
      simp only [hc]
      exact And.intro (fun q => nomatch q) (fun _ => says_of_noKey h)
    · cases h

theorem zero_run {t : TypeId} {z : Value} (h : (P.info? t).bind (fun i => i.zero) = some z) (w : World) : (zeroValue t).run P w = .ok z w := by
  cases hi : P.info? t with
  | none => simp [hi] at h
  | some i => rw [hi] at h; exact run_zeroValue hi h w

theorem cLookupO_ok {t : TypeId} {mp k : Operand} (ho : o.op = .lookup t mp k true) : (cLookupO P env m t mp k).Ok P o env m := by
  unfold cLookupO
  split
  · rename_i kt e h xs hu hmp hk
    split
    · rename_i es c z hr hz
      refine Comes.Ok.bif fun hkk => ?_
      rintro ⟨v, ok⟩ ⟨h1, h2, h3⟩
      refine opOk_pure fun B w0 ρ a w he hm => ?_
      have g1 : a.eval mp = .map (some (ρ h).blk) := evs_rel he hmp
      obtain ⟨ys, g2, g3⟩ : T.Rel ρ (.agg xs) (a.eval k) := evt_rel he hk
      obtain ⟨_, g4⟩ := hm.regs _ _ hr
      obtain ⟨r, g5, g6⟩ := findKey_says hkk h2 g3 w h3
      refine ⟨.tuple #[v, .bool ok], ?_, [v, .bool ok], rfl, ⟨rfl, h1⟩, rfl, trivial⟩
      rcases g6 with ⟨rfl, i, rfl⟩ | ⟨rfl, rfl, rfl⟩
      · simp [execOp, ho, g1, g2, Instr.lookup, run_underlying hu, run_getObj_map9 g4, run_checkKey_struct hkk g3, g5]
      · simp [execOp, ho, g1, g2, Instr.lookup, run_underlying hu, run_getObj_map9 g4, run_checkKey_struct hkk g3, g5, zero_run hz]
    · trivial
  · trivial

theorem cMapUpdate_ok {t : TypeId} {mp k v : Operand} (ho : o.op = .mapUpdate t mp k v) : (cMapUpdate P env m t mp k v).Ok P o env m := by
  unfold cMapUpdate
  split
  · rename_i kt e h xs s hu hmp hk hv
    split
    · rename_i es c ks y hr hks hy
      refine Comes.Ok.bif fun hkk => ?_
      rintro _ ⟨h2, h3⟩
      refine opOk_write hr rfl ⟨fun _ => rfl, fun _ => rfl⟩ fun B w0 ρ a w he hm => ?_
      have g1 : a.eval mp = .map (some (ρ h).blk) := evs_rel he hmp
      obtain ⟨ys, g2, g3⟩ : T.Rel ρ (.agg xs) (a.eval k) := evt_rel he hk
      obtain ⟨g0, g4⟩ := hm.regs _ _ hr
      obtain ⟨r, g5, g6⟩ := findKey_says hkk h2 g3 w (says_of_noKey h3)
      have e1 : ys = ks := valsOf_rel hks g3
      have e2 : a.eval v = y := by
        have := valsOf_rel (ρ := ρ) (ys := [a.eval v]) hy ⟨evs_rel he hv, trivial⟩
        simpa using this
      rcases g6 with ⟨q, _⟩ | ⟨_, rfl, _⟩
      · cases q
      refine ⟨w.putObj (ρ h).blk (.map (es.push { key := .agg ks.toArray, val := y, born := c }) (c + 1)), ?_, g0, ⟨rfl, rfl, rfl, by simp [World.putObj], fun _ hk => World.putObj_heap_other (by first | exact hk | exact Ne.symm hk)⟩, g0, World.putObj_heap_same (Array.getElem?_eq_some_iff.1 g4).1⟩
      rw [e1] at g2 g5
      simp only [execOp, ho, g1, g2, e2]
      have : (Instr.mapUpdate t (.map (some (ρ h).blk)) (.agg ks.toArray) y).run P w = .ok () (w.putObj (ρ h).blk (.map (es.push { key := .agg ks.toArray, val := y, born := c }) (c + 1))) := by
        rw [e1] at g3
        simp [Instr.mapUpdate, run_underlying hu, run_getObj_map9 g4, run_checkKey_struct hkk g3, g5, run_setObj_map9 _ g4]
      simp [this]
    · trivial
  · trivial

theorem cMakeMapO_ok {t : TypeId} (ho : o.op = .makeMap t none) : (cMakeMapO P m t).Ok P o env m := by
  unfold cMakeMapO
  split
  · rw [withN_eq]
    refine ⟨Nat.le_add_right _ _, fun nt B w0 D ρ a w hD hok => ?_⟩
    have hrun : (execOp a.eval o).run P w = .ok (.value (.map (some w.heap.size))) (w.alloc (.map #[] 0)) := by simp [execOp, ho, Instr.makeMap]
    have hnD : ¬ D m.nh := hD m.nh ⟨Nat.le_refl _, by show m.nh < m.nh + 8; omega⟩
    refine ⟨_, _, upd ρ m.nh ⟨w.heap.size, 0, 0, 0, false⟩, .inl hrun, upd_agree ρ _ hnD, fun ρ'' hag => ?_⟩
    have hL : ρ'' m.nh = ⟨w.heap.size, 0, 0, 0, false⟩ := (hag m.nh (.inr ⟨Nat.le_refl _, by show m.nh < m.nh + 8; omega⟩)).trans (upd_same _ _ _)
    have hag' : Agree D ρ ρ'' := fun k hk => (hag k (.inl hk)).trans (upd_agree ρ _ hnD k hk)
    have hm := hok.mem ρ'' hag'
    refine ⟨?_, by show Value.map _ = Value.map _; rw [hL]⟩
    exact hm.new (r := .obj (.map #[] 0)) (k := m.nh + 8) (by rw [hL]) ⟨by rw [hL], by rw [hL]; exact alloc_heap_new _ _⟩
  · trivial

end Go.SE

namespace Go.SE
open Go Go.RowKit
variable {P : Program} {o : Oper} {env : Env} {m : M}

/-! ### maps whose keys are bytes from 1 to 7 -/

theorem run_getObj_map' {r : Nat} {es : Array MapEntry} {c : Nat} {w : World} (h : w.heap[r]? = some (.map es c)) : (getObj r).run P w = .ok (.map es c) w := by simp [getObj, Sem.run, h]
theorem run_setObj_map' {r : Nat} {es : Array MapEntry} {c : Nat} {w : World} (o : Obj) (h : w.heap[r]? = some (.map es c)) : (setObj r o).run P w = .ok () (w.putObj r o) := by simp [setObj, Sem.run, h, World.putObj]

theorem mapElem_spec {t e : TypeId} (h : mapElem P t = some e) : ∃ k, P.underlying t = some (.map k e) ∧ P.underlying k = some (.int .u8) := by
  unfold mapElem at h
  split at h
  · rename_i k e' hu
    split at h
    · rename_i hk; cases h; exact ⟨k, hu, hk⟩
    · cases h
  · cases h

theorem run_checkKey_int {b : Bool} {t : TypeId} {q : IntKind} {k : IntKind} {i : Int} (h : P.underlying t = some (.int q)) (w : World) : (Instr.checkKey b 10000 t (.int k i)).run P w = .ok () w := by
  have e : (10000 : Nat) = 9999 + 1 := rfl
  rw [e]
  generalize 9999 = n
  simp [Instr.checkKey, run_underlying h]

theorem findNow_none {q : IntKind} {i : Int} : ∀ {es : List MapEntry} (n : Nat), smallKeys es → (∀ j : Nat, 1 ≤ j → j ≤ 7 → i = (j : Int) → findEnt j es = none) → Instr.findNow (.int q) (.int .u8 i) es n = some none
  | [], n, _, _ => rfl
  | e :: es, n, hk, hi => by
    obtain ⟨j, h1, h2, h3⟩ := hk e (by simp)
    have hne : i ≠ (j : Int) := fun q => by
      have := hi j h1 h2 q
      simp [findEnt, keyIs, h3] at this
    simp only [Instr.findNow, Instr.sameNow, h3, if_true]
    rw [show (i == (j : Int)) = false by simp [hne]]
    refine findNow_none (n + 1) (fun x hx => hk x (by simp [hx])) fun j' g1 g2 g3 => ?_
    have := hi j' g1 g2 g3
    simp only [findEnt, cond_eq_ite] at this
    split at this
    · cases this
    · exact this

theorem findNow_some {q : IntKind} {j : Nat} {y : Value} : ∀ {es : List MapEntry} (n : Nat), smallKeys es → findEnt j es = some y → ∃ k, Instr.findNow (.int q) (.int .u8 (j : Int)) es n = some (some (k, y))
  | [], n, _, h => by cases h
  | e :: es, n, hk, h => by
    obtain ⟨j', h1, h2, h3⟩ := hk e (by simp)
    simp only [findEnt, cond_eq_ite, h3, keyIs, beq_iff_eq] at h
    simp only [Instr.findNow, Instr.sameNow, h3, if_true]
    split at h
    · rename_i he
      cases h
      rw [show ((j : Int) == (j' : Int)) = true by simp [he]]
      exact ⟨n, rfl⟩
    · rename_i he
      rw [show ((j : Int) == (j' : Int)) = false by simp; omega]
      exact findNow_some (n + 1) (fun x hx => hk x (by simp [hx])) h

theorem run_findKey_now {kt : TypeId} {q : IntKind} {k : Value} {es : List MapEntry} {r : Option (Nat × Value)} (h : P.underlying kt = some (.int q)) (hf : Instr.findNow (.int q) k es 0 = some r) (w : World) : (Instr.findKey kt k es).run P w = .ok r w := by
  simp [Instr.findKey, run_underlying h, hf]

theorem findEnt_push {j : Nat} {e : MapEntry} : ∀ (es : List MapEntry), findEnt j (es ++ [e]) = (findEnt j es).or (bif keyIs j e.key then some e.val else none)
  | [] => by simp only [List.nil_append, findEnt, Option.none_or]
  | x :: es => by
    simp only [List.cons_append, findEnt, findEnt_push es]
    cases keyIs j x.key <;> simp

def resV (res : Option (Nat × Value)) (z : Value) : Value := match res with | some p => p.2 | none => z

theorem lookup_run {w : World} {t e kt : TypeId} {r : Nat} {es : Array MapEntry} {c : Nat} {i : Int} {res : Option (Nat × Value)} {z : Value} (hm : P.underlying t = some (.map kt e)) (hk : P.underlying kt = some (.int .u8)) (hr : w.heap[r]? = some (.map es c))
    (hf : Instr.findNow (.int .u8) (.int .u8 i) es.toList 0 = some res) (hz : res = none → (zeroValue e).run P w = .ok z w) : (Instr.lookup t (.map (some r)) (.int .u8 i) false).run P w = .ok (resV res z) w := by
  cases res with
  | none => simp [Instr.lookup, run_underlying hm, run_getObj_map' hr, run_checkKey_int hk, run_findKey_now hk hf, hz rfl, resV]
  | some p => simp [Instr.lookup, run_underlying hm, run_getObj_map' hr, run_checkKey_int hk, run_findKey_now hk hf, resV]

theorem lookAt_ok {t e : TypeId} {mp k : Operand} {h : Nat} {s : S} {i : Int} {kn : Bool} {j : Option Nat} {x : T} (ho : o.op = .lookup t mp k false) (hmt : mapElem P t = some e) (hmp : evs env mp = some (.mp h)) (hk : evs env k = some s) (hs : s.int? = some (.u8, i, kn))
    (hj : keySays i j) (hl : lookAt P m e h j = some x) : OpOk P o env m { val := .t x, regs := [], nh := m.nh } := by
  obtain ⟨kt, h1, h2⟩ := mapElem_spec hmt
  refine opOk_pure fun B w0 ρ a w he hm => ?_
  have g1 : a.eval mp = .map (some (ρ h).blk) := evs_rel he hmp
  have g2 := S.int?_rel hs (evs_rel he hk)
  have fin : ∀ {es : Array MapEntry} {c : Nat} {res : Option (Nat × Value)} {z : Value}, w.heap[(ρ h).blk]? = some (.map es c) → Instr.findNow (.int .u8) (.int .u8 i) es.toList 0 = some res → (res = none → (zeroValue e).run P w = .ok z w) →
      x.Rel ρ (resV res z) → ∃ y, (execOp a.eval o).run P w = .ok (.value y) w ∧ X.Rel ρ (.t x) y := by
    intro es c res z q1 q2 q3 q4
    have := lookup_run h1 h2 q1 q2 q3
    exact ⟨_, by simp [execOp, ho, g1, g2, this], q4⟩
  cases j with
  | some j =>
    obtain ⟨rfl, j1, j2⟩ := hj
    simp only [lookAt] at hl
    split at hl
    · rename_i mh j' s' hr
      simp only [cond_eq_ite, Bool.and_eq_true] at hl
      split at hl
      · rename_i hb
        have b1 := Nat.eq_of_beq_eq_true hb.1
        have b2 := Nat.eq_of_beq_eq_true hb.2
        subst b1; subst b2
        cases hl
        obtain ⟨r1, r2, es, c, r3, r4, y, r5, r6⟩ := hm.regs _ _ hr
        obtain ⟨k', hf⟩ := findNow_some (q := .u8) 0 r4 r5
        rw [r2] at r3
        exact fin (z := y) r3 hf (fun q => by cases q) r6
      · cases hl
    · rename_i mh j' hr
      simp only [cond_eq_ite, Bool.and_eq_true] at hl
      split at hl
      · rename_i hb
        have b1 := Nat.eq_of_beq_eq_true hb.1
        have b2 := Nat.eq_of_beq_eq_true hb.2
        subst b1; subst b2
        obtain ⟨r1, r2, es, c, r3, r4, r5⟩ := hm.regs _ _ hr
        obtain ⟨z, hz, hv⟩ := zeroT_spec hl
        rw [r2] at r3
        refine fin (z := z) r3 (findNow_none 0 r4 fun jj _ _ q => ?_) (fun _ => hz w) (ofValue_rel hv)
        have : jj = j' := by omega
        rw [this]; exact r5
      · cases hl
    · cases hl
  | none =>
    simp only [lookAt] at hl
    split at hl
    · rename_i mh hr
      simp only [cond_eq_ite] at hl
      split at hl
      · rename_i hb
        have b1 := Nat.eq_of_beq_eq_true hb
        subst b1
        obtain ⟨r1, r2, es, c, r3, r4, r5⟩ := hm.regs _ _ hr
        obtain ⟨z, hz, hv⟩ := zeroT_spec hl
        refine fin (z := z) r3 (findNow_none 0 r4 fun jj j1 j2 q => ?_) (fun _ => hz w) (ofValue_rel hv)
        simp only [keySays] at hj
        omega
      · cases hl
    · cases hl

theorem cLookup_ok {t : TypeId} {mp k : Operand} {c : Bool} (ho : o.op = .lookup t mp k c) : (cLookup P env m t mp k c).Ok P o env m := by
  unfold cLookup
  refine Comes.Ok.bifs (fun hc => by subst hc; exact cLookupO_ok ho) fun hc => ?_
  subst hc
  split
  · rename_i e h s hmt hmp hk
    split
    · rename_i i hs
      split
      · rename_i n
        refine Comes.Ok.bifs (fun hb => ?_) fun hb => ?_
        · have hb : n < 7 := Nat.le_of_ble_eq_true hb
          split
          · rename_i x hx; exact lookAt_ok ho hmt hmp hk hs (j := some (n + 1)) ⟨rfl, by omega, by omega⟩ hx
          · trivial
        · have hb : ¬ n < 7 := fun q => by rw [show Nat.blt n 7 = true from Nat.ble_eq_true_of_le q] at hb; cases hb
          split
          · rename_i x hx; exact lookAt_ok ho hmt hmp hk hs (j := none) (.inr (by simp only [Int.ofNat_eq_natCast]; omega)) hx
          · trivial
      · rename_i hne
        split
        · rename_i x hx
          refine lookAt_ok ho hmt hmp hk hs (j := none) (.inl ?_) hx
          cases i with
          | ofNat n =>
            cases n with
            | zero => decide
            | succ n => exact absurd rfl (hne n)
          | negSucc n => omega
        · trivial
    · rename_i i hs
      rintro ⟨j, ef⟩ ⟨h1, h2⟩
      simp only [lookEff] at h2
      split at h2
      · rename_i x hx
        simp only [Option.some.injEq] at h2
        simp only
        rw [← h2]
        exact lookAt_ok ho hmt hmp hk hs h1 hx
      · cases h2
    · trivial
  · trivial

/-- A place of a map is laid. -/
theorem cInsert_ok {t : TypeId} {mp k v : Operand} (ho : o.op = .insert t mp k v) : (cInsert P env m t mp k v).Ok P o env m := by
  unfold cInsert
  split
  · rename_i e h j s hmt hmp hk hv
    split
    · rename_i mh j' hr
      refine Comes.Ok.bif fun hb => ?_
      rw [Bool.and_eq_true] at hb
      have b1 := Nat.eq_of_beq_eq_true hb.1
      have b2 := Nat.eq_of_beq_eq_true hb.2
      subst b1; subst b2
      obtain ⟨kt, h1, h2⟩ := mapElem_spec hmt
      have hkey : ∃ s', evs env k = some s' ∧ s'.int? = some (.u8, (j' : Int), true) ∧ 1 ≤ j' ∧ j' ≤ 7 := by
        unfold keyOf? at hk
        split at hk
        · rename_i s' hs'
          split at hk
          · rename_i n hn
            simp only [cond_eq_ite] at hk
            split at hk
            · rename_i hb
              have hb : n < 7 := Nat.le_of_ble_eq_true hb
              cases hk
              exact ⟨s', hs', hn, by omega, by omega⟩
            · cases hk
          · cases hk
        · cases hk
      obtain ⟨s', hs1, hs2, j1, j2⟩ := hkey
      refine ⟨Nat.le_refl _, fun nt B w0 D ρ a w _ hok => ?_⟩
      have step : ∀ ρ, Agree D ρ ρ → ∀ _ : EnvOk ρ env a, ∀ hm : MOk P B w0 ρ m w, ∃ w', (execOp a.eval o).run P w = .ok .skip w' ∧ MOk P B w0 ρ (m.app { val := .unk, regs := [(mh + j', .slot mh (some j') (some s))], nh := m.nh }) w' := by
        intro ρ _ he hm
        obtain ⟨r1, r2, es, c, r3, r4, r5⟩ := hm.regs _ _ hr
        have g1 : a.eval mp = .map (some (ρ mh).blk) := evs_rel he hmp
        have g2 := S.int?_rel hs2 (evs_rel he hs1)
        have g3 := evs_rel he hv
        have hf : Instr.findNow (.int .u8) (.int .u8 (j' : Int)) es.toList 0 = some none := findNow_none 0 r4 fun jj _ _ q => by
          have : jj = j' := by omega
          rw [this]; exact r5
        have r3' : w.heap[(ρ mh).blk]? = some (.map es c) := by rw [← r2]; exact r3
        let ent : MapEntry := { key := .int .u8 (j' : Int), val := a.eval v, born := c }
        refine ⟨w.putObj (ρ mh).blk (.map (es.push ent) (c + 1)), ?_, ?_⟩
        · have : (Instr.mapUpdate t (.map (some (ρ mh).blk)) (.int .u8 (j' : Int)) (a.eval v)).run P w = .ok () (w.putObj (ρ mh).blk (.map (es.push ent) (c + 1))) := by
            simp [Instr.mapUpdate, run_underlying h1, run_getObj_map' r3', run_checkKey_int h2, run_findKey_now h2 hf, run_setObj_map' _ r3']; rfl
          simp [execOp, ho, g1, g2, this]
        · have hlt : (ρ mh).blk < w.heap.size := (Array.getElem?_eq_some_iff.1 r3').1
          have hsame : SameBut (ρ mh).blk w (w.putObj (ρ mh).blk (.map (es.push ent) (c + 1))) := ⟨rfl, rfl, rfl, by simp, fun _ hk => World.putObj_heap_other (by first | exact hk | exact Ne.symm hk)⟩
          have hnew : (w.putObj (ρ mh).blk (.map (es.push ent) (c + 1))).heap[(ρ mh).blk]? = some (.map (es.push ent) (c + 1)) := World.putObj_heap_same hlt
          have hsmall : smallKeys (es.push ent).toList := by
            intro x hx
            rw [Array.toList_push] at hx
            rcases List.mem_append.1 hx with hx | hx
            · exact r4 x hx
            · rw [List.mem_singleton] at hx; subst hx; exact ⟨j', j1, j2, rfl⟩
          have hreg : ∀ h2 r2, (m.app { val := .unk, regs := [(mh + j', .slot mh (some j') (some s))], nh := m.nh }).reg h2 = some r2 → (h2 = mh + j' ∧ r2 = .slot mh (some j') (some s)) ∨ (h2 ≠ mh + j' ∧ m.reg h2 = some r2) := by
            intro h2 r2 hh
            rw [reg_app] at hh
            simp only [regGet, cond_eq_ite] at hh
            split at hh
            · rename_i he
              have := Nat.eq_of_beq_eq_true he
              simp at hh
              exact .inl ⟨this.symm, hh.symm⟩
            · rename_i he
              simp at hh
              exact .inr ⟨fun e => he (by rw [e]; exact Nat.beq_refl _), hh⟩
          have htie : ∀ (z : Reg) (x : Option S), tied (.slot mh (some j') x) z = tied (.slot mh (some j') none) z := fun z x => by cases z <;> rfl
          refine ⟨fun k' z hz => ?_, fun k1 k2 z1 z2 e1 e2 hne ht hown hl n1 n2 => ?_, fun k' z hz hown hn => ?_, hm.below.trans (hsame.below ?_), hm.hB⟩
          · rcases hreg _ _ hz with ⟨rfl, rfl⟩ | ⟨hne, hz⟩
            · refine ⟨r1, r2, es.push ent, c + 1, by rw [r2]; exact hnew, hsmall, a.eval v, ?_, g3⟩
              rw [Array.toList_push, findEnt_push]
              have r5 : findEnt j' es.toList = none := r5
              simp only [r5, Option.none_or]
              simp [ent, keyIs]
            · by_cases ht : tied (.slot mh (some j') none) z = true
              · obtain ⟨mh2, key2, val2, rfl⟩ : ∃ a b c, z = .slot a b c := by cases z <;> first | (cases ht; done) | exact ⟨_, _, _, rfl⟩
                simp only [tied, Bool.not_eq_true', beq_eq_false_iff_ne] at ht
                obtain ⟨q1, q2, es2, c2, q3, q4, q5⟩ := hm.regs _ _ hz
                by_cases hb : (ρ k').blk = (ρ mh).blk
                · rw [hb, r3'] at q3
                  simp only [Option.some.injEq, Obj.map.injEq] at q3
                  obtain ⟨rfl, rfl⟩ := q3
                  refine ⟨q1, q2, es.push ent, c + 1, by rw [hb]; exact hnew, hsmall, ?_⟩
                  rw [Array.toList_push]
                  cases key2 with
                  | none => trivial
                  | some j2 =>
                    have hk2 : keyIs j2 ent.key = false := by
                      simp only [ent, keyIs, beq_eq_false_iff_ne, ne_eq]
                      intro q
                      exact ht (by rw [show j' = j2 by omega])
                    cases val2 with
                    | none =>
                      have q5 : findEnt j2 es.toList = none := q5
                      show findEnt j2 (es.toList ++ [ent]) = none
                      rw [findEnt_push, q5, hk2]; rfl
                    | some s2 =>
                      obtain ⟨y2, q5, q6⟩ := q5
                      exact ⟨y2, by rw [findEnt_push, q5, hk2]; rfl, q6⟩
                · exact ⟨q1, q2, es2, c2, (hsame.block _ hb).trans q3, q4, q5⟩
              · refine (hm.regs _ _ hz).same (fun n2 l2 => hsame.block _ fun e => ?_) (Nat.le_of_eq hsame.size.symm)
                have := hm.dist _ _ _ _ hr hz (Ne.symm hne) (by simpa using ht) rfl l2 r1 n2
                rw [r2] at this
                exact this e.symm
          · rcases hreg _ _ e1 with ⟨rfl, rfl⟩ | ⟨c1, f1⟩ <;> rcases hreg _ _ e2 with ⟨rfl, rfl⟩ | ⟨c2, f2⟩
            · exact absurd rfl hne
            · exact hm.dist _ _ _ _ hr f2 hne (by rw [htie] at ht; exact ht) rfl hl n1 n2
            · exact hm.dist _ _ _ _ f1 hr hne (by have := tied_symm ht; rw [htie] at this; exact tied_symm this) hown rfl n1 n2
            · exact hm.dist _ _ _ _ f1 f2 hne ht hown hl n1 n2
          · rcases hreg _ _ hz with ⟨rfl, rfl⟩ | ⟨_, hz⟩
            · exact hm.base _ _ hr rfl hn
            · exact hm.base _ _ hz hown hn
          · rw [← r2]; exact hm.base _ _ hr rfl r1
      obtain ⟨w', hw, _⟩ := step ρ (Agree.refl _ _) (hok.env ρ (Agree.refl _ _)) (hok.mem ρ (Agree.refl _ _))
      refine ⟨undef, w', ρ, .inr ⟨rfl, hw⟩, Agree.refl _ _, fun ρ'' hag => ?_⟩
      have hag' : Agree D ρ ρ'' := hag.mono fun h hd => .inl hd
      obtain ⟨w'', hw', hm'⟩ := step ρ'' (Agree.refl _ _) (hok.env ρ'' hag') (hok.mem ρ'' hag')
      rw [hw] at hw'
      cases hw'
      exact ⟨hm', trivial⟩
    · trivial
  · trivial

def slotKey (i : Nat) : Option Nat := if i = 0 then none else some i

theorem cMakeMap_ok {t : TypeId} {r : Option Operand} (ho : o.op = .makeMap t r) : (cMakeMap P m t r).Ok P o env m := by
  unfold cMakeMap
  split
  · exact cMakeMapO_ok ho
  · rw [withN_eq]
    refine ⟨Nat.le_add_right _ _, fun nt B w0 D ρ a w hD hok => ?_⟩
    have hrun : (execOp a.eval o).run P w = .ok (.value (.map (some w.heap.size))) (w.alloc (.map #[] 0)) := by simp [execOp, ho, Instr.makeMap]
    let L : Loc := ⟨w.heap.size, 0, 0, 0, false⟩
    let ρ' : Rho := fun k => if m.nh ≤ k ∧ k < m.nh + 8 then L else ρ k
    refine ⟨_, _, ρ', .inl hrun, fun k hk => ?_, fun ρ'' hag => ?_⟩
    · show (if m.nh ≤ k ∧ k < m.nh + 8 then L else ρ k) = ρ k
      rw [if_neg (show ¬ (m.nh ≤ k ∧ k < m.nh + 8) from fun hh => hD k hh hk)]
    have hL : ∀ k, m.nh ≤ k → k < m.nh + 8 → ρ'' k = L := fun k h1 h2 => (hag k (.inr ⟨h1, h2⟩)).trans (if_pos ⟨h1, h2⟩)
    have hag' : Agree D ρ ρ'' := fun k hk => (hag k (.inl hk)).trans (if_neg (show ¬ (m.nh ≤ k ∧ k < m.nh + 8) from fun hh => hD k hh hk))
    have hm := hok.mem ρ'' hag'
    refine ⟨?_, by show Value.map _ = Value.map _; rw [hL m.nh (Nat.le_refl _) (by omega)]⟩
    have hcase : ∀ k z, (m.app { val := .t (.one (.mp m.nh)), regs := [(m.nh, .slot m.nh none none), (m.nh + 1, .slot m.nh (some 1) none), (m.nh + 2, .slot m.nh (some 2) none), (m.nh + 3, .slot m.nh (some 3) none), (m.nh + 4, .slot m.nh (some 4) none), (m.nh + 5, .slot m.nh (some 5) none), (m.nh + 6, .slot m.nh (some 6) none), (m.nh + 7, .slot m.nh (some 7) none)], nh := m.nh + 8 }).reg k = some z →
        (∃ i, i < 8 ∧ k = m.nh + i ∧ z = .slot m.nh (slotKey i) none) ∨ ((k < m.nh ∨ m.nh + 8 ≤ k) ∧ m.reg k = some z) := by
      intro k z hz
      rw [reg_app] at hz
      have hb : ∀ i, Nat.beq (m.nh + i) k = true ↔ k = m.nh + i := fun i => ⟨fun q => (Nat.eq_of_beq_eq_true q).symm, fun q => by rw [q]; exact Nat.beq_refl _⟩
      have hb0 : Nat.beq m.nh k = true ↔ k = m.nh := ⟨fun q => (Nat.eq_of_beq_eq_true q).symm, fun q => by rw [q]; exact Nat.beq_refl _⟩
      simp only [regGet, cond_eq_ite, hb, hb0] at hz
      by_cases h : m.nh ≤ k ∧ k < m.nh + 8
      · obtain ⟨i, rfl⟩ := Nat.exists_eq_add_of_le h.1
        refine .inl ⟨i, by omega, rfl, ?_⟩
        have hi : i < 8 := by omega
        match i, hi with
        | 0, _ => simp at hz; rw [← hz]; rfl
        | 1, _ => simp at hz; rw [← hz]; rfl
        | 2, _ => simp at hz; rw [← hz]; rfl
        | 3, _ => simp at hz; rw [← hz]; rfl
        | 4, _ => simp at hz; rw [← hz]; rfl
        | 5, _ => simp at hz; rw [← hz]; rfl
        | 6, _ => simp at hz; rw [← hz]; rfl
        | 7, _ => simp at hz; rw [← hz]; rfl
      · refine .inr ⟨by omega, ?_⟩
        rw [if_neg (by omega), if_neg (by omega), if_neg (by omega), if_neg (by omega), if_neg (by omega), if_neg (by omega), if_neg (by omega), if_neg (by omega)] at hz
        simpa using hz
    have hBs : B ≤ w.heap.size := Nat.le_trans hm.hB hm.below.size
    refine ⟨fun k z hz => ?_, fun k1 k2 z1 z2 e1 e2 hne ht hown hl n1 n2 => ?_, fun k z hz hown hn => ?_, hm.below.alloc hBs _, hm.hB⟩
    · rcases hcase k z hz with ⟨i, hi, rfl, rfl⟩ | ⟨_, hz⟩
      · have e1 := hL (m.nh + i) (by omega) (by omega)
        have e0 := hL m.nh (Nat.le_refl _) (by omega)
        refine ⟨by rw [e1], by rw [e1, e0], #[], 0, by rw [e1]; exact alloc_heap_new _ _, fun x hx => by simp at hx, ?_⟩
        unfold slotKey
        split
        · trivial
        · rfl
      · exact (hm.regs _ _ hz).alloc _
    · rcases hcase _ _ e1 with ⟨i, hi, rfl, rfl⟩ | ⟨_, f1⟩ <;> rcases hcase _ _ e2 with ⟨i', hi', rfl, rfl⟩ | ⟨_, f2⟩
      · exfalso
        simp only [tied, Bool.not_eq_false', beq_iff_eq] at ht
        unfold slotKey at ht
        split at ht <;> split at ht <;> first
          | (cases ht; done)
          | (simp only [Option.some.injEq] at ht; omega)
          | omega
      · have := (hm.regs _ _ f2).lt n2 hl
        rw [hL (m.nh + i) (by omega) (by omega)]; show w.heap.size ≠ _; omega
      · have := (hm.regs _ _ f1).lt n1 (Reg.live_of_own hown)
        rw [hL (m.nh + i') (by omega) (by omega)]; show _ ≠ w.heap.size; omega
      · exact hm.dist _ _ _ _ f1 f2 hne ht hown hl n1 n2
    · rcases hcase _ _ hz with ⟨i, hi, rfl, rfl⟩ | ⟨_, hz⟩
      · rw [hL (m.nh + i) (by omega) (by omega)]; exact hBs
      · exact hm.base _ _ hz hown hn
  · trivial

/-! ### rows whose cells have handles -/

theorem srow_cell {ρ : Rho} {w : World} {h : Nat} {cells : List S} {sz : Nat} {e : TypeId} (hb : RegOk ρ w h (.srow cells sz e)) :
    (ρ h).base = 0 ∧ ∃ zs : List Value, LRel ρ cells zs ∧ ∀ i y, zs[i]? = some y → w.cell? ⟨(ρ h).blk, i, none⟩ = some y := by
  obtain ⟨_, h2, _, ys, zs, h3, _, ⟨us, rfl⟩, h5⟩ := hb
  refine ⟨h2, zs, h5, fun i y hy => ?_⟩
  have hi : i < zs.length := (List.getElem?_eq_some_iff.1 hy).1
  simp [World.cell?, h3, List.getElem?_append_left hi, hy]

theorem load_srow_one {t : TypeId} {x : Operand} {h k : Nat} {cells : List S} {sz : Nat} {e : TypeId} {s : S}
    (ho : o.op = .load t x) (hx : evs env x = some (.ptr h k)) (hr : m.reg h = some (.srow cells sz e)) (ha : isAggT P t = some false) (hs : nth cells k = some s) :
    OpOk P o env m { val := .t (.one s), regs := [], nh := m.nh } := by
  refine opOk_pure fun B w0 ρ a w he hm => ?_
  have h1 : a.eval x = ptrVal ρ h k := evs_rel he hx
  obtain ⟨h2, zs, h4, h5⟩ := srow_cell (hm.regs _ _ hr)
  obtain ⟨y, hy, hrel⟩ := h4.nth hs
  refine ⟨y, ?_, hrel⟩
  simp [execOp, ho, h1, ptrVal, Instr.loadAt, Instr.sureAddr, loadVar, run_isAgg ha, h2, h5 k y hy]

theorem load_srow_agg {t : TypeId} {x : Operand} {h k : Nat} {cells : List S} {sz : Nat} {e : TypeId}
    (ho : o.op = .load t x) (hx : evs env x = some (.ptr h k)) (hr : m.reg h = some (.srow cells sz e)) (ha : isAggT P t = some true) (hs : k + P.cellsOf t ≤ cells.length) :
    OpOk P o env m { val := .t (.agg (cut cells k (P.cellsOf t))), regs := [], nh := m.nh } := by
  refine opOk_pure fun B w0 ρ a w he hm => ?_
  have h1 : a.eval x = ptrVal ρ h k := evs_rel he hx
  obtain ⟨h2, zs, h4, h5⟩ := srow_cell (hm.regs _ _ hr)
  refine ⟨.agg ((zs.drop k).take (P.cellsOf t)).toArray, ?_, _, rfl, h4.cut _ _⟩
  have hd : ∃ d, P.underlying t = some d := by
    unfold isAggT at ha
    cases hu : P.underlying t with
    | none => simp [hu] at ha
    | some d => exact ⟨d, rfl⟩
  obtain ⟨d, hd⟩ := hd
  have hl := h4.length
  have hlc := run_loadCells_list (P := P) (w := w) ⟨(ρ h).blk, k, none⟩ ((zs.drop k).take (P.cellsOf t)) (by
    intro j v hv
    rw [addr_add]
    rw [List.getElem?_take] at hv
    split at hv
    · rw [List.getElem?_drop] at hv; exact h5 _ _ hv
    · cases hv)
  have hlen : ((zs.drop k).take (P.cellsOf t)).length = P.cellsOf t := by simp; omega
  rw [hlen] at hlc
  simp [execOp, ho, h1, ptrVal, Instr.loadAt, Instr.sureAddr, loadVar, run_isAgg ha, h2, run_sizeOf' hd, hlc]

end Go.SE

namespace Go.SE
open Go Go.RowKit
variable {P : Program} {o : Oper} {env : Env} {m : M}

theorem cMove_ok {x : Operand} (ho : o.op = .move x ∨ o.op = .assign x) : (cMove env m x).Ok P o env m := by
  unfold cMove; split
  · rename_i t ht; exact move_ok ho (by unfold evt; rw [ht])
  · rename_i l ht
    refine opOk_pure fun B w0 ρ a w he hm => ?_
    refine ⟨a.eval x, ?_, eval_of_env he ht⟩
    rcases ho with ho | ho <;> simp [execOp, ho]
  · trivial

theorem cPick_ok {c a b : Operand} (ho : o.op = .pick c a b) : (cPick env m c a b).Ok P o env m := by
  unfold cPick; split
  · rename_i hc; split
    · rename_i t ht; exact pick_ok (b := true) ho hc ht
    · trivial
  · rename_i hc; split
    · rename_i t ht; exact pick_ok (b := false) ho hc ht
    · trivial
  · trivial

theorem cBox_ok {e : TypeId} {x : Operand} (ho : o.op = .box e x) : (cBox env m e x).Ok P o env m := by
  unfold cBox; split
  · rename_i t ht; unfold newBox; refine Comes.Ok.bif fun hb => ?_; rw [withN_eq]; exact box_ok ho ht (Nat.le_of_ble_eq_true hb)
  · trivial

theorem cAlloc_ok {e : TypeId} (ho : o.op = .alloc e) : (cAlloc P m e).Ok P o env m := by
  unfold cAlloc; split
  · rename_i t ht; unfold newBox; refine Comes.Ok.bif fun hb => ?_; rw [withN_eq]; exact alloc_ok ho ht (Nat.le_of_ble_eq_true hb)
  · trivial

theorem cBuild_ok {t : TypeId} {parts : Array (Nat × Operand)} (ho : o.op = .build t parts) : (cBuild P env m t parts).Ok P o env m := by
  unfold cBuild; split
  · rename_i h1 h2 h3
    refine Comes.Ok.bif fun hf => ?_
    split
    · rename_i cs hc; exact build_struct_ok ho h1 h2 h3 hf hc
    · trivial
  · rename_i h1 h2 h3
    refine Comes.Ok.bif fun hf => ?_
    split
    · rename_i cs hc; exact build_array_ok ho h1 h2 h3 hf hc
    · trivial
  · trivial

theorem cBuildSlice_ok {t : TypeId} {len : Nat} {parts : Array (Nat × Operand)} (ho : o.op = .buildSlice t len parts) : (cBuildSlice P env m t len parts).Ok P o env m := by
  unfold cBuildSlice; split
  · rename_i h1 h2
    split
    · rename_i z hz
      refine Comes.Ok.bif fun hf => ?_
      rw [Bool.and_eq_true] at hf
      split
      · rename_i cs hc; rw [withN_eq]; exact buildSlice_ok ho (elemSlice_spec h1) hz h2 (Nat.eq_of_beq_eq_true hf.1) (Nat.le_of_ble_eq_true hf.2) hc
      · trivial
    · trivial
  · trivial

theorem cLoad_ok {t : TypeId} {a : Operand} (ho : o.op = .load t a) : (cLoad P env m t a).Ok P o env m := by
  unfold cLoad; split
  · rename_i hx
    split
    · rename_i hr
      split
      · rename_i ha
        exact Comes.Ok.bif fun hf => load_agg' ho hx (.inl rfl) hr ha (Nat.le_of_ble_eq_true hf)
      · rename_i ha
        split
        · rename_i s hs; exact load_one' ho hx (.inl rfl) hr ha hs
        · trivial
      · trivial
    · rename_i hr
      split
      · rename_i ha
        exact Comes.Ok.bif fun hf => load_srow_agg ho hx hr ha (Nat.le_of_ble_eq_true hf)
      · rename_i ha
        split
        · rename_i s hs; exact load_srow_one ho hx hr ha hs
        · trivial
      · trivial
    · trivial
  · rename_i hx
    split
    · rename_i hr
      split
      · rename_i ha
        rintro l ⟨rfl, hl⟩; exact load_agg' ho hx (.inr rfl) hr ha hl
      · rename_i ha
        intro s hs; exact load_one' ho hx (.inr rfl) hr ha hs
      · trivial
    · rename_i hr
      split
      · rename_i ha
        rintro l ⟨rfl, hl⟩; exact load_row_agg ho hx hr ha hl
      · rename_i ha
        intro s hs; exact load_row_one ho hx hr ha hs
      · trivial
    · trivial
  · trivial

theorem cStore_ok {t : TypeId} {a x : Operand} (ho : o.op = .store t a x) : (cStore P env m t a x).Ok P o env m := by
  unfold cStore; split
  · rename_i hx hy hd
    split
    · rename_i hr
      refine Comes.Ok.bif fun hf => ?_
      rw [Bool.and_eq_true] at hf
      exact store' ho hx (.inl rfl) hy hr hd (Nat.eq_of_beq_eq_true hf.1) (Nat.le_of_ble_eq_true hf.2)
    · trivial
  · rename_i hx hy hd
    split
    · rename_i hr
      refine Comes.Ok.bif fun hf => ?_
      rintro l ⟨rfl, hl⟩
      exact store' ho hx (.inr rfl) hy hr hd (Nat.eq_of_beq_eq_true hf) hl
    · rename_i hr
      split
      · rename_i vs hvs
        refine Comes.Ok.bif fun hf => ?_
        rw [Bool.and_eq_true] at hf
        rintro l ⟨rfl, hl⟩
        exact store_row_ok ho hx hy hr hd (Nat.eq_of_beq_eq_true hf.1) hvs (Nat.le_of_ble_eq_true hf.2) hl
      · trivial
    · trivial
  · trivial

theorem cFieldAddr_ok {t : TypeId} {x : Operand} {i : Nat} (ho : o.op = .fieldAddr t x i) : (cFieldAddr P env m t x i).Ok P o env m := by
  unfold cFieldAddr; split
  · rename_i hu
    split
    · rename_i f hf
      refine Comes.Ok.bifs (fun _ => trivial) fun hz => ?_
      have hz' : P.cellsOf f.type ≠ 0 := fun e => by rw [e] at hz; cases hz
      split
      · rename_i hx; exact fieldAddr' ho hx (.inl rfl) hu hf hz' (.inl rfl)
      · rename_i hx; exact fieldAddr' ho hx (.inr rfl) hu hf hz' (.inr rfl)
      · trivial
    · trivial
  · trivial

theorem cIndexAddr_ok {t : TypeId} {x i : Operand} (ho : o.op = .indexAddr t x i) : (cIndexAddr P env m t x i).Ok P o env m := by
  unfold cIndexAddr; split
  · rename_i si hi
    split
    · rename_i hs hu
      refine Comes.Ok.bif fun hd => ?_
      split
      · rename_i hx
        refine Comes.Ok.bifs (fun _ => Comes.Ok.ite fun h01 => index_arr_ok ho hx (.inl rfl) hi hs hu hd h01 (.inl rfl)) (fun _ _ h01 => index_arr_ok ho hx (.inl rfl) hi hs hu hd h01 (.inr rfl))
      · rename_i hx
        exact fun _ h01 => index_arr_ok ho hx (.inr rfl) hi hs hu hd h01 (.inr rfl)
      · trivial
    · rename_i hs hu
      refine Comes.Ok.bif fun hd => ?_
      split
      · rename_i hx
        split
        · rename_i hr
          refine Comes.Ok.bif fun hz => ?_
          have hz' := Nat.eq_of_beq_eq_true hz
          refine Comes.Ok.bifs (fun _ => Comes.Ok.ite fun h01 => index_sl_ok ho hx hi hs hu hd hr (fun ρ w h => h.2.2.1.1) hz' h01 (.inl rfl)) (fun _ _ h01 => index_sl_ok ho hx hi hs hu hd hr (fun ρ w h => h.2.2.1.1) hz' h01 (.inr rfl))
        · rename_i own hr
          refine Comes.Ok.bif fun hz => ?_
          have hz' := Nat.eq_of_beq_eq_true hz
          exact fun _ h01 => index_sl_ok ho hx hi hs hu hd hr (fun ρ w h => by cases own <;> exact h.1) hz' h01 (.inr rfl)
        · rename_i hr
          refine Comes.Ok.bif fun hz => ?_
          rw [Bool.and_eq_true] at hz
          have hz' := Nat.eq_of_beq_eq_true hz.1
          exact Comes.Ok.ite fun h01 => index_sl_ok ho hx hi hs hu hd hr (fun ρ w h => h.2.2.1.1) hz' h01 (.inl rfl)
        · trivial
      · trivial
    · trivial
  · trivial

theorem cUn_ok {op : UnOp} {t : TypeId} {x : Operand} (ho : o.op = .unOp op t x) : (cUn env m op x).Ok P o env m := by
  unfold cUn; split
  · rename_i hx; exact not_ok ho hx (.inr rfl) (.inr rfl)
  · rename_i hx; exact not_ok ho hx (.inr rfl) (.inr rfl)
  · rename_i hx; exact not_ok ho hx (.inl rfl) (.inl rfl)
  · trivial

theorem cConvert_ok {s d : TypeId} {x : Operand} (ho : o.op = .convert s d x) : (cConvert P env m s d x).Ok P o env m := by
  unfold cConvert; split
  · rename_i h1 h2 hx
    split
    · rename_i hs
      refine Comes.Ok.bifs (fun _ => by rw [valI_eq]; exact conv_ok ho hx hs h1 h2 rfl (.inl rfl)) fun _ => ?_
      rintro r hr; exact conv_ok ho hx hs h1 h2 hr (.inr rfl)
    · trivial
  · trivial

theorem cMakeFunc_ok {fn : Fn} {first caps : Array Operand} (ho : o.op = .makeFunc fn first caps) : (cMakeFunc env m fn first caps).Ok P o env m := by
  unfold cMakeFunc; split
  · rename_i h1 h2
    have : first = #[] := by rw [← Array.toArray_toList (xs := first), h1]
    subst this
    exact makeFunc_ok ho h2
  · rename_i f x h1 h2
    split
    · rename_i h k hx
      have e1 : first = #[x] := by rw [← Array.toArray_toList (xs := first), h1]
      refine opOk_pure fun B w0 ρ a w he hm => ?_
      have g1 := evs_rel he hx
      simp only [S.Rel] at g1
      have g2 := ptrs_rel he h2
      have g3 : caps.map a.eval = #[] := by
        rw [← Array.toArray_toList (xs := caps.map a.eval), Array.toList_map, g2]; rfl
      refine ⟨.func (.func f) #[ptrVal ρ h k] #[], ?_, rfl⟩
      simp [execOp, ho, Instr.makeFunc, e1, g1, g3]
    · trivial
  · trivial

theorem cNilCheck_ok {x : Operand} (ho : o.op = .nilCheck x) : (cNilCheck env m x).Ok P o env m := by
  unfold cNilCheck; split
  · rename_i hx
    refine opOk_pure fun B w0 ρ a w he hm => ?_
    have h1 : a.eval x = ptrVal ρ _ _ := evs_rel he hx
    exact ⟨_, by simp [execOp, ho, h1, ptrVal], rfl⟩
  · rename_i hx
    refine opOk_pure fun B w0 ρ a w he hm => ?_
    have h1 : a.eval x = ptrVal ρ _ _ := evs_rel he hx
    exact ⟨_, by simp [execOp, ho, h1, ptrVal], rfl⟩
  · rename_i f l hx
    refine opOk_pure fun B w0 ρ a w he hm => ?_
    have h1 : a.eval x = .func (.func f) #[] (l.map fun p => ptrVal ρ p.1 p.2).toArray := evs_rel he hx
    exact ⟨_, by simp [execOp, ho, h1], rfl⟩
  · trivial

theorem cExtract_ok {t : Operand} {i : Nat} (ho : o.op = .extract t i) : (cExtract env m t i).Ok P o env m := by
  unfold cExtract; split
  · rename_i hx
    split
    · rename_i hl; exact extract_ok ho hx hl
    · trivial
  · trivial

theorem len_nil_ok {c : Call} {x : Operand} {t e : TypeId}
    (ho : o.op = .call c) (hc : c.callee = .builtin .len) (ha : c.args.toList = [x]) (hx : evs env x = some (.v (.slice none 0 0))) (ht : c.argTypes[0]? = some t) (hu : P.underlying t = some (.slice e)) :
    OpOk P o env m { val := .t (.one (.n .i64 0)), regs := [], nh := m.nh } := by
  refine opOk_pure fun B w0 ρ a w he hm => ?_
  have h1 := evs_rel he hx
  have ha' : c.args = #[x] := by rw [← Array.toArray_toList (xs := c.args), ha]
  refine ⟨.int .i64 0, ?_, rfl⟩
  simp [execOp, ho, resolve, hc, invoke, builtin, Builtin.len_, ha', ht, h1.1, run_underlying hu, goInt]

theorem len_raw_ok {c : Call} {x : Operand} {t e : TypeId} {b : Addr} {n cap : Nat}
    (ho : o.op = .call c) (hc : c.callee = .builtin .len) (ha : c.args.toList = [x]) (hx : evs env x = some (.v (.slice (some b) n cap))) (ht : c.argTypes[0]? = some t) (hu : P.underlying t = some (.slice e)) :
    OpOk P o env m { val := .t (.one (.v (.int .i64 n))), regs := [], nh := m.nh } := by
  refine opOk_pure fun B w0 ρ a w he hm => ?_
  have h1 := evs_rel he hx
  have ha' : c.args = #[x] := by rw [← Array.toArray_toList (xs := c.args), ha]
  refine ⟨.int .i64 n, ?_, ⟨rfl, rfl⟩⟩
  simp [execOp, ho, resolve, hc, invoke, builtin, Builtin.len_, ha', ht, h1.1, run_underlying hu, goInt]

theorem cCall_ok {c : Call} (ho : o.op = .call c) : (cCall P env m c).Ok P o env m := by
  unfold cCall; split
  · rename_i hc
    split
    · rename_i hf hl; exact call_ok ho hc hf hl
    · rename_i hf hl; exact yield_ok ho hc hf hl
    · rename_i hf hl; exact callb_ok ho hc hf hl
    · trivial
  · rename_i hc
    unfold cLen; split
    · rename_i ha hu
      obtain ⟨t, ht, hu⟩ := Option.bind_eq_some_iff.1 hu
      split
      · rename_i hx
        split
        · exact len_sl_ok ho hc ha hx ht hu (.inl rfl)
        · exact len_sl_ok ho hc ha hx ht hu (.inr rfl)
        · exact len_sl_ok ho hc ha hx ht hu (.inl rfl)
        · trivial
      · rename_i hx; exact len_nil_ok ho hc ha hx ht hu
      · rename_i hx; exact len_raw_ok ho hc ha hx ht hu
      · trivial
    · trivial
  · rename_i hc; exact cAppend_ok ho hc
  · rename_i hc; exact cCopy_ok ho hc
  · rename_i hc; exact cMinMax_ok (b := true) ho hc
  · rename_i hc; exact cMinMax_ok (b := false) ho hc
  · trivial

theorem cConv_ok {s d : TypeId} {x : Operand} (ho : o.op = .convert s d x) : (cConv P env m s d x).Ok P o env m := by
  unfold cConv; split
  · rename_i hd; exact cToString_ok ho hd
  · exact cConvert_ok ho

theorem classify_ok (P : Program) (o : Oper) (env : Env) (m : M) : (classify P o env m).Ok P o env m := by
  unfold classify
  split
  · rename_i ho; exact cMove_ok (.inl ho)
  · rename_i ho; exact cMove_ok (.inr ho)
  · rename_i ho; exact cPick_ok ho
  · rename_i ho; exact cBox_ok ho
  · rename_i ho; exact cAlloc_ok ho
  · rename_i ho; exact cBuild_ok ho
  · rename_i ho; exact cBuildSlice_ok ho
  · rename_i ho; exact cLoad_ok ho
  · rename_i ho; exact cStore_ok ho
  · rename_i ho; exact cFieldAddr_ok ho
  · rename_i ho; exact cField_ok ho
  · rename_i ho; exact cIndexAddr_ok ho
  · rename_i ho; exact cBin_ok ho
  · rename_i ho
    split
    · exact cXor_ok ho
    · exact cNeg_ok ho
    · exact cUn_ok ho
  · rename_i ho; exact cMakeSlice_ok ho
  · rename_i ho; exact cIndex_ok ho
  · rename_i ho; exact cConv_ok ho
  · rename_i ho; exact cSlice_ok ho
  · rename_i ho; exact cMakeFunc_ok ho
  · rename_i ho; exact cNilCheck_ok ho
  · rename_i ho; exact cExtract_ok ho
  · rename_i ho; exact cMakeMap_ok ho
  · rename_i ho; exact cInsert_ok ho
  · rename_i ho; exact cMapUpdate_ok ho
  · rename_i ho; exact cLookup_ok ho
  · rename_i ho; exact cCall_ok ho
  · trivial

end Go.SE

namespace Go.SE
open Go Go.RowKit

theorem OkL.mem {P : Program} {nt B : Nat} {w0 : World} {ρ : Rho} {env : Env} {m : M} {a : Act} {w : World} (h : OkL P nt B w0 ρ env m a w) : MemL P B w0 ρ m w := h.ok.mem

/-- Behind a call: the frame as it was, the answer put; memory as the call left it. -/
theorem OkL.after {P : Program} {nt B : Nat} {w0 : World} {ρ ρ' : Rho} {env : Env} {m m' : M} {a : Act} {w w' : World} {d : Option Nat} {x : X} {y : Value} (h : OkL P nt B w0 ρ env m a w)
    (hag : Agree (Lex m) ρ ρ') (hnh : m.nh ≤ m'.nh) (hm : MemL P B w0 ρ' m' w') (hx : ∀ ρ'', Agree (Lex m') ρ' ρ'' → x.Rel ρ'' y) (hd : ∀ k, d = some k → k < nt) :
    OkL P nt B w0 ρ' (putEnv env d x) { m' with ds := m.ds } (a.put d y) w' := by
  have key : ∀ ρ'', Agree (Lex m') ρ' ρ'' → Agree (Lex m) ρ ρ'' := fun ρ'' h2 k hk => (h2 k (Nat.lt_of_lt_of_le hk hnh)).trans (hag k hk)
  refine ⟨⟨fun ρ'' h2 => ?_, fun ρ'' h2 => ?_, ?_⟩, fun ρ'' h2 => ?_⟩
  · exact (h.ok.env ρ'' (key ρ'' h2)).put h.ok.size hd (hx ρ'' h2)
  · exact ⟨(hm ρ'' h2).regs, (hm ρ'' h2).dist, (hm ρ'' h2).base, (hm ρ'' h2).below, (hm ρ'' h2).hB⟩
  · rw [put_size]; exact h.ok.size
  · rw [put_defers]; exact h.ds ρ'' (key ρ'' h2)

theorem callsIn_round {n : Nat} {P : Program} {f : FuncId} {args : Array Value} {w : World} {R : Ending → World → Prop} (r : Option Nat) (h : CallsIn Fence.wide n P f args w R) : CallsIn { Fence.wide with round := r } n P f args w R := h

theorem roundIn_round {n : Nat} {P : Program} {l : Nat} {f : FuncId} {tmps : Array Value} {assign body : Code} {w : World} {R : Ending → World → Prop} (r : Option Nat) (h : RoundIn Fence.wide n P l f tmps assign body w R) :
    RoundIn { Fence.wide with round := r } n P l f tmps assign body w R := h

theorem runOp_sound {C : Ctx} {o : Oper} {K : Env → M → Prop} {env : Env} {m : M} (hd : putOk C o.dst = true) (hg : C.good) (h : runOp C o K env m) : OpSem C o K env m := by
  have hc := classify_ok C.P o env m
  unfold runOp at h
  split at h
  · rename_i e he
    rw [he] at hc
    simp only [Eff.cs_eq, M.cs_eq, appR_eq, Env.go_eq, forceX_eq, forceRs_eq, forceN_eq] at h
    exact opSem_of_eff hd hc h
  · rename_i p f he
    rw [he] at hc
    simp only [Ctx.pr_eq, Eff.cs_eq, M.cs_eq, appR_eq, Env.go_eq] at h
    obtain ⟨x, hp, hK⟩ := (h ()).out
    exact opSem_of_eff hd (hc x hp) hK
  · rename_i f args he
    rw [he] at hc
    simp only [Ctx.pr_eq, Eff.cs_eq, M.cs_eq, appR_eq, Env.go_eq] at h
    obtain ⟨hent, hcall⟩ := (h ()).out
    intro n B w0 ρ a w Q hok hp
    obtain ⟨ys, hys⟩ := hc a
    obtain ⟨_, hrun, hdef⟩ := hys ρ (hok.ok.env ρ (Agree.refl _ _))
    refine ⟨fun _ _ => trivial, ?_⟩
    rw [Oper.semAt_eq _ _ _ hdef, hrun, hent]
    refine ⟨fun hh => by simp [Ctx.fen, Fence.wide] at hh, ?_⟩
    refine callsIn_round _ ((hcall (n - 1) B w0 ρ w ys hok.mem fun ρ' hag => (hys ρ' (hok.ok.env ρ' hag)).1).mono ?_)
    rintro e w' ⟨v, x, ρ', m', rfl, h1, h2, h3, h4, h5⟩
    exact ⟨ρ', _, { m' with ds := m.ds }, h1.mono fun k (hk : k < C.p) => (show k < m.nh by omega), Nat.le_trans hp h2, hok.after h1 h2 h3 h4 (putOk_lt hd), h5⟩
  · rename_i hh args he
    rw [he] at hc
    simp only [Ctx.pr_eq, Eff.cs_eq, M.cs_eq, appR_eq, Env.go_eq] at h
    have hy := (h ()).out
    intro n B w0 ρ a w Q hok hp
    obtain ⟨ys, hys⟩ := hc a
    obtain ⟨_, hrun, hdef⟩ := hys ρ (hok.ok.env ρ (Agree.refl _ _))
    obtain ⟨fn, tmps, assign, body, hyr, hR⟩ := hy (n - 1) B w0 ρ w ys hok.mem (fun ρ' hag => (hys ρ' (hok.ok.env ρ' hag)).1)
    refine ⟨fun _ _ => trivial, ?_⟩
    rw [Oper.semAt_eq _ _ _ hdef, hrun, hyr]
    refine ⟨fun hh => by simp [Ctx.fen, Fence.wide] at hh, ?_⟩
    refine roundIn_round _ (hR.mono ?_)
    rintro e w' ⟨v, x, ρ', m', rfl, h1, h2, h3, h4, h5⟩
    exact ⟨ρ', _, { m' with ds := m.ds }, h1.mono fun k (hk : k < C.p) => (show k < m.nh by omega), Nat.le_trans hp h2, hok.after h1 h2 h3 h4 (putOk_lt hd), h5⟩
  · exact (h ()).out hg

theorem OkL.env_cons {P : Program} {nt B : Nat} {w0 : World} {ρ : Rho} {env : Env} {m : M} {a : Act} {w : World} {d : Nat} {b : Bool} (h : OkL P nt B w0 ρ env m a w) (hg : env.get d = some (.t (.one (.b b)))) :
    OkL P nt B w0 ρ ((d, known b) :: env) m a w := by
  refine ⟨⟨fun ρ' hag k x hk => ?_, h.ok.mem, h.ok.size⟩, h.ds⟩
  have hk' : Env.get (putEnv env (some d) (known b)) k = some x := hk
  rw [putEnv_get] at hk'
  split at hk'
  · rename_i e; cases e; cases hk'
    obtain ⟨y, h1, h2⟩ := h.ok.env ρ' hag d _ hg
    exact ⟨y, h1, h2, rfl⟩
  · exact h.ok.env ρ' hag k x hk'

theorem undef_rel (ρ : Rho) : X.Rel ρ (.tup []) undef := ⟨[], rfl, trivial⟩

theorem OkL.skip {P : Program} {nt B : Nat} {w0 : World} {ρ : Rho} {env : Env} {m : M} {a : Act} {w : World} {d : Option Nat} (h : OkL P nt B w0 ρ env m a w) (hd : ∀ k, d = some k → k < nt) :
    OkL P nt B w0 ρ (putEnv env d (.tup [])) m (a.put d undef) w :=
  ⟨⟨fun ρ' hag => (h.ok.env ρ' hag).put h.ok.size hd (undef_rel ρ'), h.ok.mem, by rw [put_size]; exact h.ok.size⟩, fun ρ' hag => by rw [put_defers]; exact h.ds ρ' hag⟩

theorem wanted_undef {ρ : Rho} {ops : Array Oper} {env : Env} {a : Act} {o : Oper} {j d : Nat} {want : Bool} (he : EnvOk ρ env a) (hg : o.guard = some (j, want)) (hd : (ops[j]?).bind (·.dst) = some d)
    (hv : env.get d = some (.tup [])) : Region.wanted o (yielded ops a.tmps) = false := by
  obtain ⟨y, h1, ys, rfl, h2⟩ := he d _ hv
  cases ys with
  | nil => simp [Region.wanted, hg, yielded, hd, h1]
  | cons z zs => exact h2.elim

theorem wanted_known {ρ : Rho} {ops : Array Oper} {env : Env} {a : Act} {o : Oper} {j d : Nat} {want b : Bool} (he : EnvOk ρ env a) (hg : o.guard = some (j, want)) (hd : (ops[j]?).bind (·.dst) = some d)
    (hv : env.get d = some (.t (.one (.v (.bool b)))) ∨ env.get d = some (.t (.one (.b b)))) : Region.wanted o (yielded ops a.tmps) = (b == want) := by
  have : a.tmps[d]? = some (.bool b) := by
    rcases hv with hv | hv
    · obtain ⟨y, h1, h2, _⟩ := he d _ hv; rw [h1, h2]
    · obtain ⟨y, h1, h2⟩ := he d _ hv; rw [h1]; exact congrArg some h2
  simp only [Region.wanted, hg, yielded, hd, Option.bind_some, this]
  cases b <;> cases want <;> rfl

theorem about_wide {C : Ctx} {ρ : Rho} (f : FuncId) : (C.fen ρ).fn f := trivial

theorem seOps_sound {C : Ctx} {ops : Array Oper} {Q : Exit → Env → M → Prop} (hg : C.good) : ∀ (l : List Oper) {env : Env} {m : M}, seOps C ops l (Q .normal) env m →
    ∀ (n B : Nat) (w0 : World) (ρ : Rho) (a : Act) (w : World), OkL C.P C.nt B w0 ρ env m a w → C.p ≤ m.nh → wpListIn (C.fen ρ) n C.P ops (fun e a' w' => After C B w0 ρ (Q e) a' w') l a w
  | [], env, m, h => fun n B w0 ρ a w hok hp => ⟨ρ, env, m, Agree.refl _ _, hp, hok, h⟩
  | o :: rest, env, m, h => fun n B w0 ρ a w hok hp => by
    have ih := fun (env : Env) (m : M) (h : seOps C ops rest (Q .normal) env m) => seOps_sound (Q := Q) hg rest h
    -- the operation is carried out
    have run : ∀ env', OkL C.P C.nt B w0 ρ env' m a w → putOk C o.dst = true → runOp C o (seOps C ops rest (Q .normal)) env' m → Region.wanted o (yielded ops a.tmps) = true →
        wpListIn (C.fen ρ) n C.P ops (fun e a' w' => After C B w0 ρ (Q e) a' w') (o :: rest) a w := by
      intro env' hok' hd hr hw
      unfold wpListIn
      rw [if_pos hw]
      have h1 := runOp_sound hd hg hr n B w0 ρ a w (fun e a' w' => After C B w0 ρ (Q e) a' w') hok' hp
      have hmono : ∀ (K K' : Act → World → Prop), (∀ a w, K a w → K' a w) → o.wpIn (C.fen ρ) n C.P a w K (fun e a' w' => After C B w0 ρ (Q e) a' w') → o.wpIn (C.fen ρ) n C.P a w K' (fun e a' w' => After C B w0 ρ (Q e) a' w') := by
        intro K K' hK hh
        refine ⟨hh.1, ?_⟩
        have h2 := hh.2
        generalize Sem.run C.P (Oper.semAt (C.fen ρ).round a.eval o) w = r at h2 ⊢
        unfold Oper.uponIn at h2 ⊢
        split at h2 <;> first
          | exact hK _ _ h2
          | exact ⟨h2.1, h2.2.mono fun e w' he => by cases e <;> first | exact hK _ _ he | exact he⟩
          | exact ⟨h2.1, h2.2.mono fun v w' he => hK _ _ he⟩
          | exact h2
      refine hmono _ _ ?_ h1
      rintro a' w' ⟨ρ', env2, m2, h3, h4, h5, h6⟩
      have := ih env2 m2 h6 n B w0 ρ' a' w' h5 h4
      rw [Ctx.fen_eq hg h3] at this
      have hm2 : ∀ (l : List Oper) (a : Act) (w : World), wpListIn (C.fen ρ) n C.P ops (fun e a' w' => After C B w0 ρ' (Q e) a' w') l a w → wpListIn (C.fen ρ) n C.P ops (fun e a' w' => After C B w0 ρ (Q e) a' w') l a w := by
        intro l
        induction l with
        | nil => intro a w hh; exact After.from h3 hh
        | cons o' l ihl =>
          intro a w hh
          unfold wpListIn at hh ⊢
          split
          · rename_i hw'
            rw [if_pos hw'] at hh
            refine ⟨hh.1, ?_⟩
            have h2 := hh.2
            generalize Sem.run C.P (Oper.semAt (C.fen ρ).round a.eval o') w = r at h2 ⊢
            unfold Oper.uponIn at h2 ⊢
            split at h2 <;> first
              | exact ihl _ _ h2
              | exact ⟨h2.1, h2.2.mono fun e w' he => by
                  cases e <;> first
                    | exact ihl _ _ he
                    | exact After.from h3 he
                    | exact let ⟨a, w, hx⟩ := he; ⟨a, w, After.from h3 hx⟩⟩
              | exact ⟨h2.1, h2.2.mono fun v w' he => ihl _ _ he⟩
              | exact After.from h3 h2
              | exact h2
          · rename_i hw'
            rw [if_neg hw'] at hh
            exact ⟨hh.1, ihl _ _ hh.2⟩
      exact hm2 _ _ _ this
    have skip : ∀ env', OkL C.P C.nt B w0 ρ env' m a w → putOk C o.dst = true → seOps C ops rest (Q .normal) (putEnv env' o.dst (.tup [])) m → Region.wanted o (yielded ops a.tmps) = false →
        wpListIn (C.fen ρ) n C.P ops (fun e a' w' => After C B w0 ρ (Q e) a' w') (o :: rest) a w := by
      intro env' hok' hd hr hw
      unfold wpListIn
      rw [if_neg (by rw [hw]; simp)]
      exact ⟨fun _ _ => trivial, ih _ _ hr n B w0 ρ _ w (hok'.skip (putOk_lt hd)) hp⟩
    simp only [seOps, cond_eq_ite, Env.go_eq] at h
    split at h
    · rename_i hd
      have hE := hok.ok.env ρ (Agree.refl _ _)
      split at h
      · rename_i hgo
        refine run env hok hd h ?_
        unfold guardOf at hgo
        split at hgo
        · rename_i hn; simp [Region.wanted, hn]
        · rename_i j want hn
          split at hgo
          · rename_i d hd'
            split at hgo
            · rename_i hv; rw [wanted_known hE hn hd' (.inl hv)]; cases want <;> simp_all
            · rename_i hv; rw [wanted_known hE hn hd' (.inl hv)]; cases want <;> simp_all
            · cases hgo
            · cases hgo
            · cases hgo
          · cases hgo
      · rename_i hgo
        refine skip env hok hd h ?_
        unfold guardOf at hgo
        split at hgo
        · cases hgo
        · rename_i j want hn
          split at hgo
          · rename_i d hd'
            split at hgo
            · rename_i hv; rw [wanted_known hE hn hd' (.inl hv)]; cases want <;> simp_all
            · rename_i hv; rw [wanted_known hE hn hd' (.inl hv)]; cases want <;> simp_all
            · cases hgo
            · rename_i hv; exact wanted_undef hE hn hd' hv
            · cases hgo
          · cases hgo
      · rename_i d c hgo
        unfold guardOf at hgo
        split at hgo
        · cases hgo
        · rename_i j want hn
          split at hgo
          · rename_i d' hd'
            split at hgo
            · rename_i hv; cases want <;> simp at hgo
            · rename_i hv; cases want <;> simp at hgo
            · rename_i c' hv
              cases hgo
              have hw := wanted_known hE hn hd' (.inr hv)
              have hcons := hok.env_cons hv
              split at h
              · rename_i j' hn'
                rw [hn] at hn'; cases hn'
                have hs := h ()
                cases c
                · exact skip _ hcons hd (hs.no rfl) (by rw [hw]; rfl)
                · exact run _ hcons hd (hs.yes rfl) (by rw [hw]; rfl)
              · rename_i j' hn'
                rw [hn] at hn'; cases hn'
                have hs := h ()
                cases c
                · exact run _ hcons hd (hs.no rfl) (by rw [hw]; rfl)
                · exact skip _ hcons hd (hs.yes rfl) (by rw [hw]; rfl)
              · exact h.elim
            · cases hgo
            · cases hgo
          · cases hgo
      · exact h.elim
    · exact h.elim

end Go.SE

namespace Go.SE
open Go Go.RowKit

section laws
variable {F : Fence} {n : Nat} {P : Program} {Q : Exit → Act → World → Prop} {a : Act} {w : World}

theorem inLoop_of {c : Code} (h : c.wpIn F n P (Exit.then (InLoop F n P c Q) Q) a w) (b : Frame) (k : List Item) (cs : List Frame) (hro : b.roundOf = F.round) (hb : F.fn b.fn) (hr : F.room (cs.length + 1 + n)) :
    ∃ e a' w', Q e a' w' ∧ ArrivesIn (Machine.fenced P F) P (lone (b.atR a (.code c :: .inLoop c :: k)) cs w) b k cs e a' w' := by
  obtain ⟨e, a₁, w₁, hq, harr⟩ := h b (.inLoop c :: k) cs hro hb hr
  cases e with
  | normal =>
    obtain ⟨e₂, a₂, w₂, hq₂, harr₂⟩ := hq b k cs hro hb hr
    exact ⟨e₂, a₂, w₂, hq₂, .of_steps harr harr₂⟩
  | exit id => exact ⟨_, a₁, w₁, hq, .pass (x := .inLoop c) rfl (fun _ _ => .inl (by simp)) harr⟩
  | goto l => exact ⟨_, a₁, w₁, hq, .pass (x := .inLoop c) rfl (fun _ _ => .inl (by simp)) harr⟩
  | ret => exact ⟨_, a₁, w₁, hq, .pass (x := .inLoop c) rfl (fun _ _ => .inl (by simp)) harr⟩
  | panic ch => exact ⟨_, a₁, w₁, hq, .pass (x := .inLoop c) rfl (fun _ _ => .inl (by simp)) harr⟩
  | outgrown => exact ⟨_, a₁, w₁, hq, .pass (x := .inLoop c) rfl (fun _ _ => .inl (by simp)) harr⟩

theorem loop_of_body {c : Code} (h : c.wpIn F n P (Exit.then (InLoop F n P c Q) Q) a w) : (Code.loop c).wpIn F n P Q a w := by
  intro b k cs hro hb hr
  obtain ⟨e, a', w', hq, harr⟩ := inLoop_of h b k cs hro hb hr
  exact ⟨e, a', w', hq, .of_steps (.one (fenced_calm hb hr rfl) stepR_loop) harr⟩

theorem inLoop_of_body {c : Code} (h : c.wpIn F n P (Exit.then (InLoop F n P c Q) Q) a w) : InLoop F n P c Q a w := by
  intro b k cs hro hb hr
  obtain ⟨e, a', w', hq, harr⟩ := inLoop_of h b k cs hro hb hr
  exact ⟨e, a', w', hq, .of_steps (.one (fenced_calm hb hr rfl) stepR_inLoop) harr⟩

theorem inLoop_mono {c : Code} {Q' : Exit → Act → World → Prop} (h : InLoop F n P c Q a w) (hq : ∀ e a w, Q e a w → Q' e a w) : InLoop F n P c Q' a w :=
  fun b k cs hro hb hr => let ⟨e, a', w', q, r⟩ := h b k cs hro hb hr; ⟨e, a', w', hq _ _ _ q, r⟩

theorem stepR_scope {b : Frame} {k : List Item} {cs : List Frame} {c : Code} : step P (lone (b.atR a (.code (.scope c) :: k)) cs w) = .next (lone (b.atR a (.code c :: .inScope c :: k)) cs w) :=
  step_lone_go (by simp [stepG, stepG.exec, Frame.atR])
theorem stepR_inScope {b : Frame} {k : List Item} {cs : List Frame} {c : Code} : step P (lone (b.atR a (.inScope c :: k)) cs w) = .next (lone (b.atR a k) cs w) :=
  step_lone_go (by simp [stepG, stepG.exec, Frame.atR])

theorem scope_of_in {c : Code} (h : InScope F n P c c Q a w) : (Code.scope c).wpIn F n P Q a w := by
  intro b k cs hro hb hr
  obtain ⟨e, a', w', hq, harr⟩ := h b k cs hro hb hr
  exact ⟨e, a', w', hq, .of_steps (.one (fenced_calm hb hr rfl) stepR_scope) harr⟩

/-- Where a scope's code is left: by a jump to one of its own labels it goes on there. -/
def scopePost (F : Fence) (n : Nat) (P : Program) (c : Code) (Q : Exit → Act → World → Prop) : Exit → Act → World → Prop
  | .goto l, a, w => match findLabel c l with
    | some rest => InScope F n P c rest Q a w
    | none => Q (.goto l) a w
  | e, a, w => Q e a w

theorem inScope_of_body {c r : Code} (h : r.wpIn F n P (scopePost F n P c Q) a w) : InScope F n P c r Q a w := by
  intro b k cs hro hb hr
  obtain ⟨e, a₁, w₁, hq, harr⟩ := h b (.inScope c :: k) cs hro hb hr
  cases e with
  | normal => exact ⟨.normal, a₁, w₁, hq, StepsIn.trans harr (.one (fenced_calm hb hr rfl) stepR_inScope)⟩
  | exit id =>
    have hx : exitTo id (.inScope c :: k) = exitTo id k := by simp [exitTo]
    exact ⟨_, a₁, w₁, hq, fun k' hk => harr.1 k' (by rw [hx]; exact hk), fun hr' hk => harr.2 hr' (by rw [hx]; exact hk)⟩
  | goto l =>
    cases hf : findLabel c l with
    | none =>
      have hx : gotoIn l (.inScope c :: k) = gotoIn l k := by simp [gotoIn, hf]
      simp only [scopePost, hf] at hq
      exact ⟨_, a₁, w₁, hq, fun k' hk => harr.1 k' (by rw [hx]; exact hk), fun hr' hk => harr.2 hr' (by rw [hx]; exact hk)⟩
    | some rest =>
      have hx : gotoIn l (.inScope c :: k) = some (.code rest :: .inScope c :: k) := by simp [gotoIn, hf]
      simp only [scopePost, hf] at hq
      obtain ⟨e₂, a₂, w₂, hq₂, harr₂⟩ := hq b k cs hro hb hr
      exact ⟨e₂, a₂, w₂, hq₂, .of_steps (harr.1 _ hx) harr₂⟩
  | ret => exact ⟨_, a₁, w₁, hq, harr⟩
  | panic ch => exact ⟨_, a₁, w₁, hq, harr⟩
  | outgrown => exact ⟨_, a₁, w₁, hq, harr⟩
end laws

theorem evs_bool {ρ : Rho} {env : Env} {a : Act} {c : Operand} {b : Bool} (he : EnvOk ρ env a) (h : evs env c = some (.v (.bool b)) ∨ evs env c = some (.b b)) : a.eval c = .bool b := by
  rcases h with h | h
  · exact (evs_rel he h).1
  · exact evs_rel he h

theorem OkL.cond {P : Program} {nt B : Nat} {w0 : World} {ρ : Rho} {env : Env} {m : M} {a : Act} {w : World} {c : Operand} {b : Bool} (h : OkL P nt B w0 ρ env m a w) (hg : evs env c = some (.b b)) :
    OkL P nt B w0 ρ (condEnv env c b) m a w := by
  cases c with
  | tmp d =>
    refine h.env_cons ?_
    simp only [evs, ev] at hg
    split at hg
    · rename_i hh; cases hg; exact hh
    · cases hg
  | const v => exact h
  | global g => exact h
  | func f => exact h

theorem se_sound {C : Ctx} (hg : C.good) : ∀ (c : Code) {Q : Exit → Env → M → Prop} {env : Env} {m : M}, se C c Q env m → CodeSem C c Q env m := by
  intro c
  induction c with
  | skip => intro Q env m h n B w0 ρ a w hok hp; exact wpIn_skip ⟨ρ, env, m, Agree.refl _ _, hp, hok, h⟩
  | region id ops draw =>
    intro Q env m h n B w0 ρ a w hok hp
    cases draw with
    | true => exact (h ()).out hg n B w0 ρ a w hok hp
    | false => exact wpIn_region_list (seOps_sound (Q := Q) hg _ h n B w0 ρ a w hok hp)
  | seq x y ihx ihy =>
    intro Q env m h n B w0 ρ a w hok hp
    have h1 := ihx h n B w0 ρ a w hok hp
    refine wpIn_seq (wpIn_mono h1 ?_)
    rintro e a' w' ⟨ρ', env', m', h3, h4, h5, h6⟩
    cases e with
    | normal =>
      have := ihy h6 n B w0 ρ' a' w' h5 h4
      rw [Ctx.fen_eq hg h3] at this
      exact wpIn_mono this fun e a w h => After.from h3 h
    | exit id => exact ⟨ρ', env', m', h3, h4, h5, h6⟩
    | goto l => exact ⟨ρ', env', m', h3, h4, h5, h6⟩
    | ret => exact ⟨ρ', env', m', h3, h4, h5, h6⟩
    | panic ch => exact ⟨ρ', env', m', h3, h4, h5, h6⟩
    | outgrown => exact ⟨ρ', env', m', h3, h4, h5, h6⟩
  | cond c x y ihx ihy =>
    intro Q env m h n B w0 ρ a w hok hp
    have hE := hok.ok.env ρ (Agree.refl _ _)
    simp only [se] at h
    split at h
    · rename_i hc; exact wpIn_cond_true (evs_bool hE (.inl hc)) (ihx h n B w0 ρ a w hok hp)
    · rename_i hc; exact wpIn_cond_false (evs_bool hE (.inl hc)) (ihy h n B w0 ρ a w hok hp)
    · rename_i t hc
      have hs := h ()
      cases t
      · exact wpIn_cond_false (evs_bool hE (.inr hc)) (ihy (hs.no rfl) n B w0 ρ a w (hok.cond hc) hp)
      · exact wpIn_cond_true (evs_bool hE (.inr hc)) (ihx (hs.yes rfl) n B w0 ρ a w (hok.cond hc) hp)
    · exact h.elim
  | block id c ih =>
    intro Q env m h n B w0 ρ a w hok hp
    refine wpIn_block (wpIn_mono (ih h n B w0 ρ a w hok hp) ?_)
    rintro e a' w' ⟨ρ', env', m', h3, h4, h5, h6⟩
    cases e with
    | exit i =>
      simp only [cond_eq_ite] at h6
      simp only [Exit.inBlock]
      split at h6
      · rename_i he; rw [if_pos (Nat.eq_of_beq_eq_true he)]; exact ⟨ρ', env', m', h3, h4, h5, h6⟩
      · rename_i he; rw [if_neg (fun e => he (by rw [e]; exact Nat.beq_refl _))]; exact ⟨ρ', env', m', h3, h4, h5, h6⟩
    | normal => exact ⟨ρ', env', m', h3, h4, h5, h6⟩
    | goto l => exact ⟨ρ', env', m', h3, h4, h5, h6⟩
    | ret => exact ⟨ρ', env', m', h3, h4, h5, h6⟩
    | panic ch => exact ⟨ρ', env', m', h3, h4, h5, h6⟩
    | outgrown => exact ⟨ρ', env', m', h3, h4, h5, h6⟩
  | exit id => intro Q env m h n B w0 ρ a w hok hp; exact wpIn_exit ⟨ρ, env, m, Agree.refl _ _, hp, hok, h⟩
  | loop c _ => intro Q env m h n B w0 ρ a w hok hp; exact loop_of_body ((h ()).out hg n B w0 ρ a w hok hp)
  | rangeFunc f ps x y _ _ => intro Q env m h; exact (h ()).out hg
  | scope c _ => intro Q env m h n B w0 ρ a w hok hp; exact scope_of_in ((h ()).out hg n B w0 ρ a w hok hp)
  | label l => intro Q env m h n B w0 ρ a w hok hp; exact wpIn_label ⟨ρ, env, m, Agree.refl _ _, hp, hok, h⟩
  | goto l => intro Q env m h n B w0 ρ a w hok hp; exact wpIn_goto ⟨ρ, env, m, Agree.refl _ _, hp, hok, h⟩
  | ret => intro Q env m h n B w0 ρ a w hok hp; exact wpIn_ret ⟨ρ, env, m, Agree.refl _ _, hp, hok, h⟩
  | refuse why => intro Q env m h; exact h.elim

/-! ### rules -/

/-- One round; where it comes to its end the loop is asked for again. -/
theorem loop_step {C : Ctx} {c : Code} {Q : Exit → Env → M → Prop} {env : Env} {m : M} (h : se C c (fun e env m => match e with | .normal => Unit → SLoop C c Q env m | e => Q e env m) env m) : SLoop C c Q env m := by
  refine ⟨fun hg n B w0 ρ a w hok hp => wpIn_mono (se_sound hg c h n B w0 ρ a w hok hp) ?_⟩
  rintro e a' w' ⟨ρ', env', m', h3, h4, h5, h6⟩
  cases e with
  | normal =>
    have := (h6 ()).out hg n B w0 ρ' a' w' h5 h4
    rw [Ctx.fen_eq hg h3] at this
    exact inLoop_mono (inLoop_of_body this) fun e a w h => After.from h3 h
  | exit id => exact ⟨ρ', env', m', h3, h4, h5, h6⟩
  | goto l => exact ⟨ρ', env', m', h3, h4, h5, h6⟩
  | ret => exact ⟨ρ', env', m', h3, h4, h5, h6⟩
  | panic ch => exact ⟨ρ', env', m', h3, h4, h5, h6⟩
  | outgrown => exact ⟨ρ', env', m', h3, h4, h5, h6⟩

theorem scope_step {C : Ctx} {c r : Code} {Q : Exit → Env → M → Prop} {env : Env} {m : M}
    (h : se C r (fun e env m => match e with | .goto l => (match findLabel c l with | some rest => Unit → SScope C c rest Q env m | none => Q (.goto l) env m) | e => Q e env m) env m) : SScope C c r Q env m := by
  refine ⟨fun hg n B w0 ρ a w hok hp => inScope_of_body (wpIn_mono (se_sound hg r h n B w0 ρ a w hok hp) ?_)⟩
  rintro e a' w' ⟨ρ', env', m', h3, h4, h5, h6⟩
  cases e with
  | goto l =>
    cases hf : findLabel c l with
    | some rest =>
      have h7 : Unit → SScope C c rest Q env' m' := by simpa only [hf] using h6
      have := (h7 ()).out hg n B w0 ρ' a' w' h5 h4
      rw [Ctx.fen_eq hg h3] at this
      simp only [scopePost, hf]
      exact fun b k cs hro hb hr => let ⟨e, a', w', q, r⟩ := this b k cs hro hb hr; ⟨e, a', w', After.from h3 q, r⟩
    | none =>
      have h7 : Q (.goto l) env' m' := by simpa only [hf] using h6
      simp only [scopePost, hf]
      exact ⟨ρ', env', m', h3, h4, h5, h7⟩
  | normal => exact ⟨ρ', env', m', h3, h4, h5, h6⟩
  | exit id => exact ⟨ρ', env', m', h3, h4, h5, h6⟩
  | ret => exact ⟨ρ', env', m', h3, h4, h5, h6⟩
  | panic ch => exact ⟨ρ', env', m', h3, h4, h5, h6⟩
  | outgrown => exact ⟨ρ', env', m', h3, h4, h5, h6⟩

end Go.SE

namespace Go.SE
open Go Go.RowKit

def argEnv : List T → Nat → Env
  | [], _ => []
  | x :: l, i => (i, .t x) :: argEnv l (i + 1)

theorem argEnv_get : ∀ (l : List T) (i k : Nat) (x : X), (argEnv l i).get k = some x → ∃ j t, k = i + j ∧ l[j]? = some t ∧ x = .t t
  | [], _, _, _, h => by simp [argEnv, Env.get] at h
  | t :: l, i, k, x, h => by
    simp only [argEnv, Env.get, cond_eq_ite] at h
    split at h
    · rename_i he
      cases h
      exact ⟨0, t, (Nat.eq_of_beq_eq_true he).symm, rfl, rfl⟩
    · obtain ⟨j, t', h1, h2, h3⟩ := argEnv_get l (i + 1) k x h
      exact ⟨j + 1, t', by omega, by simpa using h2, h3⟩

/-- What a result variable holds at the end. -/
def finOne (P : Program) (env : Env) (m : M) : ResultVar → Option T
  | .tmp t => match env.get t with
    | some (.t x) => some x
    | _ => none
  | .cell a t => match env.get a with
    | some (.t (.one (.ptr h k))) => (match m.reg h with
      | some (.box cells _ _) => (match isAggT P t with
        | some true => bif Nat.ble (k + P.cellsOf t) cells.length then some (.agg (cut cells k (P.cellsOf t))) else none
        | some false => (match nth cells k with | some s => some (.one s) | none => none)
        | none => none)
      | _ => none)
    | _ => none

def finList (P : Program) (env : Env) (m : M) : List ResultVar → Option (List T)
  | [] => some []
  | r :: l => match finOne P env m r, finList P env m l with
    | some x, some xs => some (x :: xs)
    | _, _ => none

def finX (P : Program) (env : Env) (m : M) (rs : List ResultVar) : Option X :=
  match finList P env m rs with
  | some [x] => some (.t x)
  | some l => some (.tup l)
  | none => none

def DeferSem (P : Program) (f : FuncId) (args : List T) (m : M) (K : X → M → Prop) : Prop :=
  (∀ ys w, (callFunc f ys).run P w = .ok (.enter f ys) w) ∧
  ∀ (B : Nat) (w0 : World) (ρ : Rho) (w : World) (ys : List Value), MemL P B w0 ρ m w → (∀ ρ', Agree (Lex m) ρ ρ' → TsRel ρ' args ys) →
    CallsD P f ys.toArray .returning w fun e u w' => ∃ v x ρ' m', e = .returned v ∧ u = .returning ∧ Agree (Lex m) ρ ρ' ∧ m.nh ≤ m'.nh ∧ MemL P B w0 ρ' m' w' ∧ (∀ ρ'', Agree (Lex m') ρ' ρ'' → x.Rel ρ'' v) ∧ K x m'

/-- A deferred call, run at its frame's end. -/
structure SDefer (P : Program) (f : FuncId) (args : List T) (m : M) (K : X → M → Prop) : Prop where
  out : DeferSem P f args m K

/-- The deferred calls of a frame, one after another: the blocks of loops over functions are taken, functions are run. -/
def finDs (P : Program) : List Dfr → (M → Prop) → M → Prop
  | [], K, m => K m
  | .col h :: l, K, m => match m.reg h with
    | some (.obj (.deferred (some []))) => m.cs fun r n d => finDs P l K ⟨(h, .obj (.deferred none)) :: r, n, d⟩
    | _ => False
  | .call f h o :: l, K, m => Unit → SDefer P f [.one (.ptr h o)] m fun _ m' => finDs P l K m'

/-- What follows when a frame's deferred calls are done. -/
def finK (P : Program) (rs : List ResultVar) (K : X → M → Prop) (env : Env) (m : M) : Prop :=
  match finX P env m rs with
    | some x => forceX x fun x => m.cs fun r n d => forceN n fun n => K x ⟨r, n, d⟩
    | none => False

/-- A frame's end, where functions are deferred. -/
structure SFin (P : Program) (ds : List Dfr) (rs : List ResultVar) (K : X → M → Prop) (env : Env) (m : M) : Prop where
  out : finDs P ds (finK P rs K env) m

def finSw (P : Program) (d : List Dfr) (rs : List ResultVar) (K : X → M → Prop) (env : Env) (m : M) : Prop :=
  match d with
  | [] => finK P rs K env m
  | .col h :: l => finDs P (.col h :: l) (finK P rs K env) m
  | .call f h o :: l => Unit → SFin P (.call f h o :: l) rs K env m

def finGo (P : Program) (rs : List ResultVar) (K : X → M → Prop) (env : Env) (m : M) : Prop :=
  m.cs fun r n d => finSw P d rs K env ⟨r, n, d⟩

theorem finGo_ds {P : Program} {rs : List ResultVar} {K : X → M → Prop} {env : Env} {m : M} (h : finGo P rs K env m) : finDs P m.ds (finK P rs K env) m := by
  obtain ⟨r, n, d⟩ := m
  cases d with
  | nil => exact h
  | cons x l => cases x with
    | col k => exact h
    | call f k o => exact (h ()).out

theorem SDefer.mono {P : Program} {f : FuncId} {args : List T} {m : M} {K K' : X → M → Prop} (h : SDefer P f args m K) (hk : ∀ x m, K x m → K' x m) : SDefer P f args m K' := by
  obtain ⟨h1, h2⟩ := h.out
  refine ⟨h1, fun B w0 ρ w ys hm hys => (h2 B w0 ρ w ys hm hys).mono ?_⟩
  rintro e u w' ⟨v, x, ρ', m', g1, g2, g3, g4, g5, g6, g7⟩
  exact ⟨v, x, ρ', m', g1, g2, g3, g4, g5, g6, hk _ _ g7⟩

theorem fin_call {P : Program} {f : FuncId} {h o : Nat} {l : List Dfr} {rs : List ResultVar} {K : X → M → Prop} {env : Env} {m : M} (hS : SDefer P f [.one (.ptr h o)] m fun _ m' => Unit → SFin P l rs K env m') : SFin P (.call f h o :: l) rs K env m :=
  ⟨fun _ => hS.mono fun _ _ hh => (hh ()).out⟩
theorem fin_go {P : Program} {l : List Dfr} {rs : List ResultVar} {K : X → M → Prop} {env : Env} {m : M} (h : finDs P l (finK P rs K env) m) : SFin P l rs K env m := ⟨h⟩
theorem is_fin {P : Program} {l : List Dfr} {rs : List ResultVar} {K : X → M → Prop} {env : Env} {m : M} (h : SFin P l rs K env m) : SFin P l rs K env m := h

def fin (P : Program) (rs : List ResultVar) (K : X → M → Prop) : Exit → Env → M → Prop
  | .normal, env, m => finGo P rs K env m
  | .ret, env, m => finGo P rs K env m
  | _, _, _ => False

def resSem (tmps : Array Value) : ResultVar → Sem Value
  | .tmp t => pure (tmps.getD t undef)
  | .cell a t => do loadVar t (← asAddr (tmps.getD a undef))

theorem results_eq (fn : Func) (tmps : Array Value) : results fn tmps = (do
    let vs ← fn.results.mapM (resSem tmps)
    pure (if h : vs.size = 1 then vs[0] else .tuple vs)) := by
  unfold results
  congr 1

theorem finOne_run {P : Program} {B : Nat} {w0 : World} {ρ : Rho} {env : Env} {m : M} {a : Act} {w : World} {r : ResultVar} {x : T} (he : EnvOk ρ env a) (hm : MOk P B w0 ρ m w) (h : finOne P env m r = some x) :
    ∃ y, (resSem a.tmps r).run P w = .ok y w ∧ x.Rel ρ y := by
  unfold resSem
  cases r with
  | tmp t =>
    simp only [finOne] at h
    split at h
    · rename_i x' hx
      cases h
      obtain ⟨y, h1, h2⟩ := he t _ hx
      exact ⟨y, by simp [Array.getD_eq_getD_getElem?, h1], h2⟩
    · cases h
  | cell c t =>
    simp only [finOne] at h
    split at h
    · rename_i hh k hx
      obtain ⟨y, h1, h2⟩ := he c _ hx
      simp only [X.Rel, T.Rel, S.Rel] at h2
      subst h2
      have h3 : a.tmps.getD c undef = ptrVal ρ hh k := by simp [Array.getD_eq_getD_getElem?, h1]
      split at h
      · rename_i cells sz e hr
        obtain ⟨g2, ys, g3, g4, g5⟩ := box_cell (hm.regs _ _ hr)
        split at h
        · rename_i ha
          simp only [cond_eq_ite] at h
          split at h
          · rename_i hle
            cases h
            have hle' := Nat.le_of_ble_eq_true hle
            have hd : ∃ d, P.underlying t = some d := by
              unfold isAggT at ha
              cases hu : P.underlying t with
              | none => simp [hu] at ha
              | some d => exact ⟨d, rfl⟩
            obtain ⟨d, hd⟩ := hd
            have hl := g4.length
            have hlc := run_loadCells_list (P := P) (w := w) ⟨(ρ hh).blk, k, none⟩ ((ys.drop k).take (P.cellsOf t)) (by
              intro j v hv
              rw [addr_add, g5]
              rw [List.getElem?_take] at hv
              split at hv
              · rw [List.getElem?_drop] at hv; exact hv
              · cases hv)
            have hlen : ((ys.drop k).take (P.cellsOf t)).length = P.cellsOf t := by simp; omega
            rw [hlen] at hlc
            refine ⟨.agg ((ys.drop k).take (P.cellsOf t)).toArray, ?_, _, rfl, g4.cut _ _⟩
            simp only [h3]
            simp [ptrVal, asAddr, loadVar, run_isAgg ha, g2, run_sizeOf' hd, hlc]
          · cases h
        · rename_i ha
          split at h
          · rename_i s hs
            cases h
            obtain ⟨y, hy, hrel⟩ := g4.nth hs
            refine ⟨y, ?_, hrel⟩
            simp only [h3]
            simp [ptrVal, asAddr, loadVar, run_isAgg ha, g2, g5, hy]
          · cases h
        · cases h
      · cases h
    · cases h

theorem finList_run {P : Program} {B : Nat} {w0 : World} {ρ : Rho} {env : Env} {m : M} {a : Act} {w : World} (he : EnvOk ρ env a) (hm : MOk P B w0 ρ m w) : ∀ {rs : List ResultVar} {xs : List T}, finList P env m rs = some xs →
    ∃ ys, (rs.mapM (resSem a.tmps)).run P w = .ok ys w ∧ TsRel ρ xs ys
  | [], xs, h => by simp [finList] at h; subst h; exact ⟨[], rfl, trivial⟩
  | r :: rs, xs, h => by
    simp only [finList] at h
    split at h
    · rename_i x xs' h1 h2
      cases h
      obtain ⟨y, g1, g2⟩ := finOne_run he hm h1
      obtain ⟨ys, g3, g4⟩ := finList_run he hm h2
      refine ⟨y :: ys, ?_, g2, g4⟩
      rw [List.mapM_cons]
      simp only [Sem.run_bind, Sem.run_pure, g1, Result.andThen_ok, g3]
    · cases h

theorem finX_run {P : Program} {B : Nat} {w0 : World} {ρ : Rho} {env : Env} {m : M} {a : Act} {w : World} {fn : Func} {x : X} (he : EnvOk ρ env a) (hm : MOk P B w0 ρ m w) (h : finX P env m fn.results.toList = some x) :
    ∃ v, (results fn a.tmps).run P w = .ok v w ∧ x.Rel ρ v := by
  have key : ∀ xs, finList P env m fn.results.toList = some xs → ∃ ys : List Value, TsRel ρ xs ys ∧ (results fn a.tmps).run P w = .ok (if h : ys.toArray.size = 1 then ys.toArray[0] else .tuple ys.toArray) w := by
    intro xs hxs
    obtain ⟨ys, g1, g2⟩ := finList_run he hm hxs
    refine ⟨ys, g2, ?_⟩
    rw [results_eq, Array.mapM_eq_mapM_toList]
    simp only [Sem.run_bind, Sem.run_map, g1, Result.andThen_ok, Sem.run_pure]
  unfold finX at h
  split at h
  · rename_i y hxs
    cases h
    obtain ⟨ys, g2, g3⟩ := key _ hxs
    match ys, g2 with
    | [v], g2 => exact ⟨v, by simpa using g3, g2.1⟩
    | [], g2 => exact g2.elim
    | _ :: _ :: _, g2 => exact g2.2.elim
  · rename_i l hne hxs
    cases h
    obtain ⟨ys, g2, g3⟩ := key _ hxs
    refine ⟨.tuple ys.toArray, ?_, ys, rfl, g2⟩
    rw [g3, dif_neg]
    intro h1
    have hl := g2.length
    simp at h1
    match l, hl with
    | [], hl => simp at hl; omega
    | [x], hl => exact hne x rfl
    | _ :: _ :: _, hl => simp at hl; omega
  · cases h

theorem MOk.sameObj {P : Program} {B : Nat} {w0 : World} {ρ : Rho} {m : M} {w : World} {h : Nat} {o o' : Obj} {r' : Reg} {k : Nat} (hm : MOk P B w0 ρ m w) (hr : m.reg h = some (.obj o))
    (hr' : RegOk ρ (w.putObj (ρ h).blk o') h r') (x : X) (hns : ∀ z, tied r' z = false) : MOk P B w0 ρ (m.app { val := x, regs := [(h, r')], nh := k }) (w.putObj (ρ h).blk o') :=
  hm.write (r := .obj o) (r' := r') (k := k) (w' := w.putObj (ρ h).blk o') hr rfl (hm.regs _ _ hr).1 ⟨rfl, rfl, rfl, by simp, fun _ hk => World.putObj_heap_other hk⟩ hr' x ⟨fun _ => rfl, hns⟩

theorem ptrVal_congr0 {ρ ρ' : Rho} {h o : Nat} (e : ρ' h = ρ h) : ptrVal ρ' h o = ptrVal ρ h o := by unfold ptrVal; rw [e]

/-- How a frame leaves: the blocks of its loops over functions are taken, its deferred calls are run; none of them panics. -/
def LeavesW (P : Program) (fn : Func) (tmps : Array Value) (R : Ending → World → Prop) : List Deferred → World → Prop
  | [], w => ∃ v, (results fn tmps).run P w = .ok v w ∧ R (.returned v) w
  | d :: ds, w => (∃ r w', d.target = .collected r ∧ (Instr.takeDeferred r).run P w = .ok [] w' ∧ LeavesW P fn tmps R ds w') ∨
      (∃ fv cap f args, d.target = .fn fv cap ∧ (invoke d.target d.args).run P w = .ok (.enter f args) w ∧ CallsD P f args .returning w fun e u w' => (∃ v, e = .returned v) ∧ u = .returning ∧ LeavesW P fn tmps R ds w')

theorem leavesW_steps {P : Program} {fn : Func} {tmps : Array Value} {R : Ending → World → Prop} : ∀ (ds : List Deferred) (w : World) (fr : Frame) (cs : List Frame), fr.mode = .returning → fr.defers = ds → fr.tmps = tmps → P.funcs[fr.fn]? = some fn → fr.kind = .normal →
    LeavesW P fn tmps R ds w → ∃ e w' fr', R e w' ∧ _root_.Go.Comes P (lone fr cs w) (lone fr' cs w') e ∧ fr'.fn = fr.fn ∧ fr'.leaving P w' e := by
  intro ds
  induction ds with
  | nil =>
    intro w fr cs hu hd ht hf hk h
    obtain ⟨v, hr, hR⟩ := h
    exact ⟨.returned v, w, fr, hR, Steps.refl _ _, rfl, hu, hd, hk, fn, hf, ht ▸ hr⟩
  | cons d ds ih =>
    intro w fr cs hu hd ht hf hk h
    have hrun : fr.mode ≠ .run := by rw [hu]; simp
    rcases h with ⟨r, w', htar, htake, hrest⟩ | ⟨fv, cap, f, args, htar, hinv, hcall⟩
    · have h1 := step_collected (P := P) (cs := cs) hrun hd htar htake
      obtain ⟨e', w'', fr', hR', hs', hfn', hl'⟩ := ih w' { fr with defers := [] ++ ds } cs hu rfl ht hf hk hrest
      exact ⟨e', w'', fr', hR', comesIn_wide.1 (ComesIn.of_steps (stepsIn_wide.2 (Steps.one h1)) (comesIn_wide.2 hs')), hfn', hl'⟩
    · have h1 := step_defer (P := P) (cs := cs) hrun hd htar hinv
      obtain ⟨e, u', w', frX, ⟨⟨v, rfl⟩, rfl, hR⟩, hsteps, hkX, hgo⟩ := hcall { fr with defers := ds } cs hu
      have h2 := step_going_returned (P := P) (c := { { fr with defers := ds } with mode := .returning }) (cs := cs) hkX hgo
      obtain ⟨e', w'', fr', hR', hs', hfn', hl'⟩ := ih w' { { { fr with defers := ds } with mode := .returning } with mode := settle .returning } cs rfl rfl ht hf hk hR
      exact ⟨e', w'', fr', hR', comesIn_wide.1 (ComesIn.of_steps (stepsIn_wide.2 ((Steps.one h1).trans ((show Steps P _ _ from hsteps).trans (Steps.one h2)))) (comesIn_wide.2 hs')), hfn', hl'⟩

def bodyPostW (P : Program) (fn : Func) (R : Ending → World → Prop) : Exit → Act → World → Prop
  | .normal, a, w | .ret, a, w => LeavesW P fn a.tmps R a.defers w
  | _, _, _ => False

theorem callsIn_of_wpW {P : Program} {n : Nat} {f : FuncId} {fn : Func} {c : Code} {args : Array Value} {w : World} {R : Ending → World → Prop} (hf : P.funcs[f]? = some fn) (hb : fn.body = some c)
    (h : c.wpIn Fence.wide n P (bodyPostW P fn R) { tmps := args ++ Array.replicate (fn.ntmps - args.size) undef, defers := [] } w) : CallsIn Fence.wide n P f args w R := by
  refine callsIn_wide.2 fun cs => ?_
  let b : Frame := { (default : Frame) with fn := f, kind := .normal, roundOf := none }
  have henter : Frame.enter P f args .normal = b.atR { tmps := args ++ Array.replicate (fn.ntmps - args.size) undef, defers := [] } [.code c] := by
    simp [Frame.enter, Frame.atR, hf, hb, b]
  obtain ⟨e, a', w', hq, harr⟩ := h b [] cs rfl trivial (room_wide _)
  rw [← henter] at harr
  cases e with
  | normal =>
    obtain ⟨e', w'', fr', hR, hs, hfn, hl⟩ := leavesW_steps a'.defers w' { b.atR a' [] with mode := .returning } cs rfl rfl rfl hf rfl hq
    refine ⟨e', w'', fr', hR, comesIn_wide.1 (ComesIn.of_steps (stepsIn_wide.2 ((stepsIn_wide.1 harr).trans (Steps.one (stepR_end rfl)))) (comesIn_wide.2 hs)), hfn, hl⟩
  | ret =>
    obtain ⟨todo, hs₀⟩ := harr.1 rfl
    obtain ⟨e', w'', fr', hR, hs, hfn, hl⟩ := leavesW_steps a'.defers w' { b.atR a' todo with mode := .returning } cs rfl rfl rfl hf rfl hq
    exact ⟨e', w'', fr', hR, comesIn_wide.1 (ComesIn.of_steps hs₀ (comesIn_wide.2 hs)), hfn, hl⟩
  | panic chain => exact hq.elim
  | exit id => exact hq.elim
  | goto l => exact hq.elim
  | outgrown => exact hq.elim

theorem leaves_ds {P : Program} {B : Nat} {w0 : World} {fn : Func} {tmps : Array Value} {R : Ending → World → Prop} {K : M → Prop} : ∀ (ds : List Dfr) (m1 : M) (ρ : Rho) (w1 : World), finDs P ds K m1 → MemL P B w0 ρ m1 w1 → (∀ d ∈ ds, d.hd < m1.nh) →
    (∀ m2 ρ2 w2, Agree (Lex m1) ρ ρ2 → MemL P B w0 ρ2 m2 w2 → m1.nh ≤ m2.nh → K m2 → ∃ v, (results fn tmps).run P w2 = .ok v w2 ∧ R (.returned v) w2) →
    LeavesW P fn tmps R (ds.map (Dfr.den ρ)) w1
  | [], m1, ρ, w1, h, hm, _, hR => hR m1 ρ w1 (Agree.refl _ _) hm (Nat.le_refl _) h
  | .col h :: ds, m1, ρ, w1, hh, hm, hlt, hR => by
    simp only [finDs] at hh
    split at hh
    · rename_i hr
      rw [M.cs_eq] at hh
      have hm0 := hm ρ (Agree.refl _ _)
      have hb := (hm0.regs _ _ hr).2
      refine .inl ⟨_, _, rfl, run_takeDeferred hb, ?_⟩
      refine leaves_ds ds _ ρ _ hh (fun ρ' hag => ?_) (fun k hk => hlt k (by simp [hk])) hR
      have hl : h < m1.nh := hlt (.col h) (by simp)
      have e1 : (ρ h).blk = (ρ' h).blk := by rw [hag h hl]
      rw [e1]
      have hm' := hm ρ' hag
      refine hm'.sameObj (k := m1.nh) hr (r' := .obj (.deferred none)) ⟨(hm'.regs _ _ hr).1, ?_⟩ .unk (fun _ => rfl)
      exact World.putObj_heap_same (Array.getElem?_eq_some_iff.1 (hm'.regs _ _ hr).2).1
    · exact hh.elim
  | .call f h o :: ds, m1, ρ, w1, hh, hm, hlt, hR => by
    have hh : SDefer P f [.one (.ptr h o)] m1 fun _ m' => finDs P ds K m' := hh ()
    obtain ⟨hent, hgo⟩ := hh.out
    have hl : h < m1.nh := hlt (.call f h o) (by simp)
    refine .inr ⟨.func f, #[], f, #[ptrVal ρ h o], rfl, ?_, ?_⟩
    · have := hent #[ptrVal ρ h o] w1
      simpa [Dfr.den, invoke] using this
    · refine (hgo B w0 ρ w1 [ptrVal ρ h o] hm (fun ρ' hag => ⟨(ptrVal_congr0 (hag h hl)).symm, trivial⟩)).mono ?_
      rintro e u w2 ⟨v, x, ρ2, m2, rfl, rfl, h1, h2, h3, h4, h5⟩
      have hds : ds.map (Dfr.den ρ) = ds.map (Dfr.den ρ2) := List.map_congr_left fun d hd => (Dfr.den_congr (h1 d.hd (hlt d (by simp [hd]))) rfl).symm
      rw [hds]
      exact ⟨⟨v, rfl⟩, rfl, leaves_ds ds m2 ρ2 w2 h5 h3 (fun d hd => Nat.lt_of_lt_of_le (hlt d (by simp [hd])) h2) fun m3 ρ3 w3 g1 g2 g3 g4 => hR m3 ρ3 w3 (h1.trans g1 fun k hk => Nat.lt_of_lt_of_le hk h2) g2 (Nat.le_trans h2 g3) g4⟩

end Go.SE

namespace Go.SE
open Go Go.RowKit

theorem enters {P : Program} {f : FuncId} {fn : Func} {c : Code} (hf : P.funcs[f]? = some fn) (hb : fn.body = some c) (hn : (fn.name == "runtime.NumGoroutine") = false) (ys : Array Value) (w : World) :
    (callFunc f ys).run P w = .ok (.enter f ys) w := by
  have e1 : (program : Sem Program).run P w = .ok P w := rfl
  simp only [callFunc, Sem.run_bind, e1, Result.andThen_ok, hf, hn, hb]
  rfl

theorem TsRel.get? {ρ : Rho} {l : List T} {ys : List Value} (h : TsRel ρ l ys) {i : Nat} {x : T} (hx : l[i]? = some x) : ∃ y, ys[i]? = some y ∧ x.Rel ρ y := h.get hx

/-- A frame that is entered. -/
theorem okL_enter {P : Program} {B nt : Nat} {w0 : World} {ρ : Rho} {m : M} {w : World} {args : List T} {ys : List Value} (hm : MemL P B w0 ρ m w) (hys : ∀ ρ', Agree (Lex m) ρ ρ' → TsRel ρ' args ys) :
    OkL P nt B w0 ρ (argEnv args 0) { m with ds := [] } { tmps := ys.toArray ++ Array.replicate (nt - ys.toArray.size) undef, defers := [] } w := by
  refine ⟨⟨fun ρ' hag k x hk => ?_, fun ρ' hag => ?_, ?_⟩, fun _ _ => rfl⟩
  · obtain ⟨j, t, h1, h2, rfl⟩ := argEnv_get args 0 k x hk
    obtain ⟨y, h3, h4⟩ := (hys ρ' hag).get h2
    have hj : j < ys.length := (List.getElem?_eq_some_iff.1 h3).1
    refine ⟨y, ?_, h4⟩
    rw [h1, Nat.zero_add, Array.getElem?_append_left (by simpa using hj)]
    simpa using h3
  · have := hm ρ' hag
    exact ⟨this.regs, this.dist, this.base, this.below, this.hB⟩
  · simp; omega

/-- A call, by its body. -/
theorem call_inline {P : Program} {f : FuncId} {args : List T} {m : M} {K : X → M → Prop} {fn : Func} {c : Code} (hf : P.funcs[f]? = some fn) (hb : fn.body = some c) (hn : (fn.name == "runtime.NumGoroutine") = false)
    (h : forceN fn.ntmps fun nt => m.cs fun rs nh _ => forceN nh fun nh => Env.force (argEnv args 0) fun env => se ⟨P, nt, nh, none⟩ c (fin P fn.results.toList K) env ⟨rs, nh, []⟩) : SCall P f args m K := by
  rw [forceN_eq, M.cs_eq, forceN_eq, Env.force_eq] at h
  refine ⟨enters hf hb hn, fun n B w0 ρ w ys hm hys => ?_⟩
  refine callsIn_of_wpW hf hb ?_
  have hok := okL_enter (nt := fn.ntmps) hm hys
  have h1 := se_sound (C := ⟨P, fn.ntmps, m.nh, none⟩) (fun _ hh => by cases hh) c h n B w0 ρ _ w hok (Nat.le_refl _)
  refine wpIn_mono h1 ?_
  rintro e a' w' ⟨ρ', env', m', h3, h4, h5, h6⟩
  have hfin : (e = .normal ∨ e = .ret) ∧ finGo P fn.results.toList K env' m' := by
    cases e <;> first | exact ⟨.inl rfl, h6⟩ | exact ⟨.inr rfl, h6⟩ | exact h6.elim
  have hgoal : LeavesW P fn a'.tmps (fun e w' => ∃ v x ρ' m', e = .returned v ∧ Agree (Lex m) ρ ρ' ∧ m.nh ≤ m'.nh ∧ MemL P B w0 ρ' m' w' ∧ (∀ ρ'', Agree (Lex m') ρ' ρ'' → x.Rel ρ'' v) ∧ K x m') a'.defers w' := by
    obtain ⟨_, hgo⟩ := hfin
    have hgo := finGo_ds hgo
    rw [h5.ds ρ' (Agree.refl _ _)]
    have hdslt : ∀ d ∈ m'.ds, d.hd < m'.nh := by
      intro d hd
      refine Classical.byContradiction fun hge => ?_
      have h8 := h5.ds ρ' (Agree.refl _ _)
      have h9 := h5.ds (upd ρ' d.hd ⟨(ρ' d.hd).blk + 1, 0, 0, 0, false⟩) (upd_agree ρ' _ (by unfold Lex; omega))
      rw [h8] at h9
      have h10 := (List.map_inj_left.1 h9) d hd
      cases d with
      | col k =>
        simp only [Dfr.den, Dfr.hd, upd_same] at h10
        simp at h10
      | call f k o =>
        simp only [Dfr.den, Dfr.hd, ptrVal, upd_same] at h10
        simp at h10
    refine leaves_ds m'.ds m' ρ' w' hgo h5.mem hdslt fun m2 ρ2 w2 hag2 hm2 hnh hK => ?_
    unfold finK at hK
    split at hK
    · rename_i x hx
      rw [forceX_eq, M.cs_eq, forceN_eq] at hK
      have hE : ∀ ρ'', Agree (Lex m2) ρ2 ρ'' → EnvOk ρ'' env' a' := fun ρ'' hag => h5.ok.env ρ'' fun k hk => (hag k (Nat.lt_of_lt_of_le hk hnh)).trans (hag2 k hk)
      obtain ⟨v, hv, _⟩ := finX_run (hE ρ2 (Agree.refl _ _)) (hm2 ρ2 (Agree.refl _ _)) hx
      refine ⟨v, hv, v, x, ρ2, m2, rfl, h3.trans hag2 (fun k hk => Nat.lt_of_lt_of_le hk h4), Nat.le_trans h4 hnh, hm2, fun ρ'' hag => ?_, hK⟩
      obtain ⟨v', hv', hr'⟩ := finX_run (hE ρ'' hag) (hm2 ρ'' hag) hx
      rw [hv] at hv'
      cases hv'
      exact hr'
    · exact hK.elim
  rcases hfin.1 with rfl | rfl <;> exact hgoal

/-! ### a round of a loop over a function -/

def putPs : List Tmp → List T → Env → Env
  | p :: ps, x :: xs, env => putPs ps xs ((p, .t x) :: env)
  | _, _, env => env

def allBelow (nt : Nat) : List Tmp → Bool
  | [] => true
  | p :: ps => bif Nat.blt p nt then allBelow nt ps else false

theorem putPs_ok {ρ : Rho} {nt : Nat} : ∀ (ps : List Tmp) (xs : List T) (ys : List Value) (env : Env) (tmps : Array Value), TsRel ρ xs ys → TmpsOk ρ env tmps → nt ≤ tmps.size → allBelow nt ps = true →
    TmpsOk ρ (putPs ps xs env) ((ps.zip ys).foldl (fun t (p, v) => t.setIfInBounds p v) tmps) ∧ nt ≤ ((ps.zip ys).foldl (fun t (p, v) => t.setIfInBounds p v) tmps).size
  | [], _, _, _, _, _, h, hs, _ => ⟨h, hs⟩
  | p :: ps, [], [], env, tmps, _, h, hs, _ => ⟨h, hs⟩
  | p :: ps, x :: xs, y :: ys, env, tmps, hr, h, hs, hb => by
    simp only [allBelow, cond_eq_ite] at hb
    split at hb
    · rename_i hlt
      have hlt' : p < nt := Nat.le_of_ble_eq_true hlt
      simp only [putPs, List.zip_cons_cons, List.foldl_cons]
      refine putPs_ok ps xs ys _ _ hr.2 ?_ (by simpa using hs) hb
      have := EnvOk.put (ρ := ρ) (env := env) (a := { tmps, defers := [] }) (nt := nt) (d := some p) (x := .t x) (y := y) h hs (fun k hk => by cases hk; exact hlt') hr.1
      exact this
    · cases hb

def setReg (m : M) (h : Nat) (r : Reg) : M := { regs := (h, r) :: m.regs, nh := m.nh, ds := m.ds }

def roundEnd (h : Nat) (K : X → M → Prop) : Exit → Env → M → Prop := fun e _ m =>
  match m.reg h with
  | some (.loop nt env ps a b .busy none hd) =>
    m.cs fun rs n ds => (match e with
     | .normal => K (known true) ⟨(h, .loop nt env ps a b .ready none hd) :: rs, n, ds⟩
     | .ret => K (known false) ⟨(h, .loop nt env ps a b .done (some .ret) hd) :: rs, n, ds⟩
     | .exit i => K (known false) ⟨(h, .loop nt env ps a b .done (some (.exit i)) hd) :: rs, n, ds⟩
     | .goto l => K (known false) ⟨(h, .loop nt env ps a b .done (some (.goto l)) hd) :: rs, n, ds⟩
     | _ => False)
  | _ => False

def roundBody (P : Program) (nt p h : Nat) (body : Code) (K : X → M → Prop) : Exit → Env → M → Prop := fun e env1 m1 =>
  match e with
  | .normal => match m1.reg h with
    | some (.loop nt' env' ps a b .ready none hd) => m1.cs fun rs n ds => se ⟨P, nt, p, some h⟩ body (roundEnd h K) env1 ⟨(h, .loop nt' env' ps a b .busy none hd) :: rs, n, ds⟩
    | _ => False
  | _ => False

/-- The record of a loop is turned. -/
theorem MOk.loop {P : Program} {B : Nat} {w0 : World} {ρ : Rho} {m : M} {w : World} {h nt hd : Nat} {env : Env} {ps : Array Tmp} {a b : Code} {st st' : LoopState} {pe pe' : Option Code}
    (hm : MOk P B w0 ρ m w) (hr : m.reg h = some (.loop nt env ps a b st pe hd)) : ∃ r : Loop, w.heap[(ρ h).blk]? = some (.loop r) ∧ r.state = st ∧ r.pending = pe ∧ r.params = ps ∧ r.assign = a ∧ r.body = b ∧
      r.defers = (ρ hd).blk ∧ nt ≤ r.tmps.size ∧ TmpsOk ρ env r.tmps ∧ MOk P B w0 ρ (setReg m h (.loop nt env ps a b st' pe' hd)) (w.putObj (ρ h).blk (.loop { r with state := st', pending := pe' })) := by
  obtain ⟨h1, r, h2, h3, h4, h5, h6, h7, h8, h9, h10⟩ := hm.regs _ _ hr
  refine ⟨r, h2, h6, h7, h3, h4, h5, h8, h9, h10, ?_⟩
  have hlt : (ρ h).blk < w.heap.size := (Array.getElem?_eq_some_iff.1 h2).1
  have hr' : RegOk ρ (w.putObj (ρ h).blk (.loop { r with state := st', pending := pe' })) h (.loop nt env ps a b st' pe' hd) :=
    ⟨h1, _, World.putObj_heap_same hlt, h3, h4, h5, rfl, rfl, h8, h9, h10⟩
  exact hm.write (r := .loop nt env ps a b st pe hd) (k := m.nh) (w' := w.putObj (ρ h).blk (.loop { r with state := st', pending := pe' })) hr rfl h1 ⟨rfl, rfl, rfl, by simp, fun k hk => World.putObj_heap_other hk⟩ hr' .unk ⟨fun _ => rfl, fun _ => rfl⟩

theorem yield_step {P : Program} {h : Nat} {args : List T} {m : M} {K : X → M → Prop} {nt hd : Nat} {oenv : Env} {ps : Array Tmp} {assign body : Code}
    (hr : m.reg h = some (.loop nt oenv ps assign body .ready none hd)) (hlt : Nat.blt h m.nh = true) (hsz : args.length = ps.size) (hbl : allBelow nt ps.toList = true)
    (hse : m.cs fun rs nh _ => forceN nh fun nh => Env.force (putPs ps.toList args oenv) fun env => se ⟨P, nt, nh, some h⟩ assign (roundBody P nt nh h body K) env ⟨rs, nh, []⟩) : SYield P h args m K := by
  rw [M.cs_eq, forceN_eq, Env.force_eq] at hse
  replace hlt : h < m.nh := Nat.le_of_ble_eq_true hlt
  refine ⟨fun n B w0 ρ w ys hm hys => ?_⟩
  have hg : Ctx.good ⟨P, nt, m.nh, some h⟩ := fun k hk => by cases hk; exact hlt
  have hm0 := hm ρ (Agree.refl _ _)
  obtain ⟨r, g1, g2, g3, g4, g5, g6, g7, g8, g9, _⟩ := hm0.loop (st' := .ready) (pe' := none) hr
  have hy0 := hys ρ (Agree.refl _ _)
  have hlen := hy0.length
  have hyr := run_yield (P := P) (args := ys.toArray) g1 (by rw [g4]; simp; omega)
  refine ⟨r.fn, _, r.assign, r.body, hyr, roundIn_of_wpIn trivial ?_⟩
  have hfold : ((r.params.zip ys.toArray).foldl (fun tmps (x : Tmp × Value) => tmps.setIfInBounds x.1 x.2) r.tmps) = ((ps.toList.zip ys).foldl (fun t (p, v) => t.setIfInBounds p v) r.tmps) := by
    rw [g4, ← Array.foldl_toList]
    simp
  have hok : OkL P nt B w0 ρ (putPs ps.toList args oenv) { m with ds := [] } { tmps := (r.params.zip ys.toArray).foldl (fun tmps (x : Tmp × Value) => tmps.setIfInBounds x.1 x.2) r.tmps, defers := [] } w := by
    refine ⟨⟨fun ρ' hag => ?_, fun ρ' hag => ?_, ?_⟩, fun _ _ => rfl⟩
    · obtain ⟨r', k1, _, _, _, _, _, _, k8, k9, _⟩ := (hm ρ' hag).loop (st' := .ready) (pe' := none) hr
      have e1 : (ρ' h).blk = (ρ h).blk := by rw [hag h hlt]
      rw [e1, g1] at k1
      cases k1
      show TmpsOk ρ' _ _
      simp only [hfold]
      exact (putPs_ok ps.toList args ys oenv r.tmps (hys ρ' hag) k9 k8 hbl).1
    · have := hm ρ' hag
      exact ⟨this.regs, this.dist, this.base, this.below, this.hB⟩
    · simp only [hfold]
      exact (putPs_ok ps.toList args ys oenv r.tmps hy0 g9 g8 hbl).2
  have h1 := se_sound hg assign hse n B w0 ρ _ w hok (Nat.le_refl _)
  rw [g5]
  refine wpIn_mono h1 ?_
  rintro e a' w' ⟨ρ1, env1, m1, h3, h4, h5, h6⟩
  unfold roundBody at h6
  cases e with
  | normal =>
    simp only at h6
    split at h6
    · rename_i nt1 oenv1 ps1 as1 bd1 hd1 hr1
      have hm1 := h5.mem ρ1 (Agree.refl _ _)
      have hblk : (ρ1 h).blk = (ρ h).blk := by rw [h3 h hlt]
      obtain ⟨r1, q1, q2, q3, q4, q5, q6, q7, q8, q9, q10⟩ := hm1.loop (st' := .busy) (pe' := none) hr1
      rw [hblk] at q1
      refine ⟨_, run_beginRound q1 q2, ?_⟩
      have e2 : ({ r1 with state := .busy } : Loop) = { r1 with state := .busy, pending := none } := by cases r1; simp_all
      have hok2 : OkL P nt B w0 ρ1 env1 (setReg m1 h (.loop nt1 oenv1 ps1 as1 bd1 .busy none hd1)) a' (w'.putObj (ρ h).blk (.loop { r1 with state := .busy })) := by
        refine ⟨⟨h5.ok.env, fun ρ' hag => ?_, h5.ok.size⟩, h5.ds⟩
        obtain ⟨r2, k1, _, k3, _, _, _, _, _, _, k10⟩ := (h5.mem ρ' hag).loop (st' := .busy) (pe' := none) hr1
        have e3 : (ρ' h).blk = (ρ h).blk := by rw [hag h (Nat.lt_of_lt_of_le hlt h4), hblk]
        rw [e3] at k1 k10
        rw [q1] at k1
        cases k1
        rw [e2]; exact k10
      have h7 := se_sound hg body h6 n B w0 ρ1 a' _ hok2 h4
      rw [Ctx.fen_eq hg h3] at h7
      rw [g6]
      have endR : ∀ (jump : Option Code) (a2 : Act) (w2 : World) (ρ2 : Rho) (env2 : Env) (m2 : M) (nt2 : Nat) (oenv2 : Env) (ps2 : Array Tmp) (as2 bd2 : Code) (hd2 : Nat), Agree (fun h => h < m.nh) ρ1 ρ2 → m.nh ≤ m2.nh → OkL P nt B w0 ρ2 env2 m2 a2 w2 →
          m2.reg h = some (.loop nt2 oenv2 ps2 as2 bd2 .busy none hd2) → K (known jump.isNone) (setReg m2 h (.loop nt2 oenv2 ps2 as2 bd2 (if jump.isNone then .ready else .done) jump hd2)) →
          ∃ v w3, (Instr.endRound (ρ h).blk jump).run P w2 = .ok v w3 ∧ ∃ v' x ρ' m', Ending.returned v = Ending.returned v' ∧ Agree (Lex m) ρ ρ' ∧ m.nh ≤ m'.nh ∧ MemL P B w0 ρ' m' w3 ∧ (∀ ρ'', Agree (Lex m') ρ' ρ'' → x.Rel ρ'' v') ∧ K x m' := by
        intro jump a2 w2 ρ2 env2 m2 nt2 oenv2 ps2 as2 bd2 hd2 k1 k2 k3 k4 k5
        have hb2 : (ρ2 h).blk = (ρ h).blk := by rw [k1 h hlt, hblk]
        obtain ⟨r2, p1, p2, p3, _, _, _, _, _, _, p10⟩ := (k3.mem ρ2 (Agree.refl _ _)).loop (st' := if jump.isNone then .ready else .done) (pe' := jump) k4
        rw [hb2] at p1
        refine ⟨_, _, run_endRound jump p1, _, known jump.isNone, ρ2, setReg m2 h (.loop nt2 oenv2 ps2 as2 bd2 (if jump.isNone then .ready else .done) jump hd2), rfl, h3.trans k1 (fun _ h => h), k2, ?_, fun ρ'' _ => ⟨rfl, rfl⟩, k5⟩
        intro ρ' hag
        obtain ⟨r3, t1, _, _, _, _, _, _, _, _, t10⟩ := (k3.mem ρ' hag).loop (st' := if jump.isNone then .ready else .done) (pe' := jump) k4
        have e3 : (ρ' h).blk = (ρ h).blk := by rw [hag h (Nat.lt_of_lt_of_le hlt k2), hb2]
        rw [e3] at t1 t10
        rw [p1] at t1
        cases t1
        exact t10
      refine wpIn_mono h7 ?_
      rintro e2 a2 w2 ⟨ρ2, env2, m2, k1, k2, k3, k4⟩
      unfold roundEnd at k4
      split at k4
      · rename_i nt2 oenv2 ps2 as2 bd2 hd2 hr2
        cases e2 with
        | normal => exact endR none a2 w2 ρ2 env2 m2 _ _ _ _ _ _ k1 k2 k3 hr2 k4
        | ret => exact endR (some .ret) a2 w2 ρ2 env2 m2 _ _ _ _ _ _ k1 k2 k3 hr2 k4
        | exit i => exact endR (some (.exit i)) a2 w2 ρ2 env2 m2 _ _ _ _ _ _ k1 k2 k3 hr2 k4
        | goto i => exact endR (some (.goto i)) a2 w2 ρ2 env2 m2 _ _ _ _ _ _ k1 k2 k3 hr2 k4
        | panic ch => exact k4.elim
        | outgrown => exact k4.elim
      · exact k4.elim
    · exact h6.elim
  | _ => exact h6.elim

end Go.SE

namespace Go.SE
open Go Go.RowKit

theorem MOk.dropLoop {P : Program} {B : Nat} {w0 : World} {ρ : Rho} {m : M} {w : World} {h nt hd : Nat} {env : Env} {ps : Array Tmp} {a b : Code} {st : LoopState} {pe : Option Code} (o : Obj)
    (hm : MOk P B w0 ρ m w) (hr : m.reg h = some (.loop nt env ps a b st pe hd)) : MOk P B w0 ρ (setReg m h .gone) (w.putObj (ρ h).blk o) :=
  hm.write (r := .loop nt env ps a b st pe hd) (r' := .gone) (k := m.nh) (w' := w.putObj (ρ h).blk o) hr rfl (hm.regs _ _ hr).1 ⟨rfl, rfl, rfl, by simp, fun _ hk => World.putObj_heap_other hk⟩ trivial .unk ⟨fun _ => rfl, fun _ => rfl⟩

def rangeK (C : Ctx) (h : Nat) (ds : List Dfr) (Q : Exit → Env → M → Prop) (env : Env) : X → M → Prop := fun _ m =>
  match m.reg h with
  | some (.loop _ _ _ _ _ .ready none _) => m.cs fun rs n _ => Q .normal env { regs := (h, .gone) :: rs, nh := n, ds := ds }
  | some (.loop _ _ _ _ _ .done (some j) _) => m.cs fun rs n _ => se C j Q env { regs := (h, .gone) :: rs, nh := n, ds := ds }
  | _ => False

theorem fun_caps {ρ : Rho} {env : Env} {a : Act} {f : Operand} {g : FuncId} {caps : List (Nat × Nat)} (he : EnvOk ρ env a) (hf : evs env f = some (.fn g caps)) :
    a.eval f = .func (.func g) #[] (caps.map fun p => ptrVal ρ p.1 p.2).toArray := evs_rel he hf

/-- Behind the function that is ranged over: what the record says is done. -/
theorem range_end {C : Ctx} (hg : C.good) {Q : Exit → Env → M → Prop} {env : Env} {m m2 : M} {n B : Nat} {w0 : World} {ρ ρ1 ρ2 : Rho} {a : Act} {w w3 : World} {l h : Nat} {ds : List Dfr} {mark : List Deferred} {x : X}
    (hok : OkL C.P C.nt B w0 ρ env m a w) (hp : C.p ≤ m.nh) (hag : Agree (Lex m) ρ ρ1) (hag2 : Agree (fun k => k < m.nh ∨ k = h) ρ1 ρ2) (hnh : m.nh ≤ m2.nh) (hh : h < m2.nh) (hl : (ρ1 h).blk = l)
    (hm2 : MemL C.P B w0 ρ2 m2 w3) (hds : ∀ ρ', Agree (Lex m2) ρ2 ρ' → mark ++ a.defers = ds.map (Dfr.den ρ'))
    (hK : rangeK C h ds Q env x m2) : rangePost (C.fen ρ) n C.P l (fun e a' w' => After C B w0 ρ (Q e) a' w') { a with defers := mark ++ a.defers } (.returned (.tuple #[])) w3 := by
  have hbl : (ρ2 h).blk = l := by rw [hag2 h (.inr rfl)]; exact hl
  have hagm : Agree (Lex m) ρ ρ2 := fun k hk => (hag2 k (.inl hk)).trans (hag k hk)
  have hagp : Agree (fun h => h < C.p) ρ ρ2 := hagm.mono fun k (hk : k < C.p) => (show k < m.nh by omega)
  have okEnd : ∀ (nt' hd' : Nat) (env' : Env) (ps' : Array Tmp) (a' b' : Code) (st' : LoopState) (pe' : Option Code) (o : Obj), m2.reg h = some (.loop nt' env' ps' a' b' st' pe' hd') →
      OkL C.P C.nt B w0 ρ2 env { regs := (h, .gone) :: m2.regs, nh := m2.nh, ds := ds } { a with defers := mark ++ a.defers } (w3.putObj l o) := by
    intro nt' hd' env' ps' a' b' st' pe' o hr
    refine ⟨⟨fun ρ' hag' => ?_, fun ρ' hag' => ?_, hok.ok.size⟩, fun ρ' hag' => hds ρ' hag'⟩
    · exact hok.ok.env ρ' fun k hk => (hag' k (Nat.lt_of_lt_of_le hk hnh)).trans (hagm k hk)
    · have := (hm2 ρ' hag').dropLoop o hr
      rw [show (ρ' h).blk = l from by rw [hag' h hh]; exact hbl] at this
      exact ⟨this.regs, this.dist, this.base, this.below, this.hB⟩
  unfold rangeK at hK
  have hm0 := hm2 ρ2 (Agree.refl _ _)
  split at hK
  · rename_i hr
    obtain ⟨r, q1, q2, q3, _⟩ := hm0.loop (st' := .ready) (pe' := none) hr
    rw [hbl] at q1
    have hend := run_endLoop (P := C.P) q1 (by rw [q2]; simp)
    rw [q3] at hend
    exact ⟨none, _, hend, ρ2, env, { regs := (h, .gone) :: m2.regs, nh := m2.nh, ds := ds }, hagp, Nat.le_trans hp hnh, okEnd _ _ _ _ _ _ _ _ _ hr, hK⟩
  · rename_i j _ hr
    obtain ⟨r, q1, q2, q3, _⟩ := hm0.loop (st' := .ready) (pe' := none) hr
    rw [hbl] at q1
    have hend := run_endLoop (P := C.P) q1 (by rw [q2]; simp)
    rw [q3] at hend
    refine ⟨some j, w3.putObj l (.loop { r with state := .exhausted }), by rw [hend]; simp [q3], ?_⟩
    have := se_sound hg j hK n B w0 ρ2 _ _ (okEnd _ _ _ _ _ _ _ _ (.loop { r with state := .exhausted }) hr) (Nat.le_trans hp hnh)
    rw [Ctx.fen_eq hg hagp] at this
    exact wpIn_mono this fun e a w h => After.from hagp h
  · exact hK.elim

/-- **A range over a function, outside of any round.** -/
theorem range_step {C : Ctx} {f : Operand} {ps : Array Tmp} {x y : Code} {Q : Exit → Env → M → Prop} {env : Env} {m : M} {g : FuncId} {caps : List (Nat × Nat)} (hrd : C.rd = none) (hf : evs env f = some (.fn g caps))
    (hcall : m.cs fun rs nh ds => forceN nh fun nh => forceN (nh + 1) fun n1 => forceN (nh + 1 + 1) fun n2 => C.pr fun P => Unit → SCall P g (.one (.yld n1) :: caps.map fun p => .one (.ptr p.1 p.2))
      { regs := (n1, .loop C.nt env ps x y .ready none nh) :: (nh, .obj (.deferred (some []))) :: rs, nh := n2, ds := [] } (rangeK C n1 (.col nh :: ds) Q env)) :
    SCode C (.rangeFunc f ps x y) Q env m := by
  rw [M.cs_eq, forceN_eq, forceN_eq, forceN_eq, Ctx.pr_eq] at hcall
  replace hcall := hcall ()
  refine ⟨fun hg n B w0 ρ a w hok hp => wpIn_rangeFunc fun fn' hfn' => ?_⟩
  obtain ⟨hent, hcall⟩ := hcall.out
  have hro : (C.fen ρ).round = none := by simp [Ctx.fen, hrd]
  have hef := fun_caps (hok.ok.env ρ (Agree.refl _ _)) hf
  let rec_ : Loop := { state := .ready, pending := none, fn := fn', tmps := a.tmps, params := ps, assign := x, body := y, defers := w.heap.size }
  let W1 := (w.alloc (.deferred (some []))).alloc (.loop rec_)
  let L0 : Loc := ⟨w.heap.size, 0, 0, 0, false⟩
  let L1 : Loc := ⟨w.heap.size + 1, 0, 0, 0, false⟩
  let ρ1 : Rho := upd (upd ρ m.nh L0) (m.nh + 1) L1
  have e0 : ρ1 m.nh = L0 := by simp [ρ1, upd]
  have e1 : ρ1 (m.nh + 1) = L1 := by simp [ρ1, upd]
  have hag : Agree (Lex m) ρ ρ1 := fun k (hk : k < m.nh) => by simp [ρ1, upd, show k ≠ m.nh + 1 by omega, show k ≠ m.nh by omega]
  have hmem : MemL C.P B w0 ρ1 { regs := (m.nh + 1, .loop C.nt env ps x y .ready none m.nh) :: (m.nh, .obj (.deferred (some []))) :: m.regs, nh := m.nh + 1 + 1, ds := [] } W1 := by
    intro ρ' hag'
    have f0 : ρ' m.nh = L0 := (hag' m.nh (by unfold Lex; show m.nh < m.nh + 1 + 1; omega)).trans e0
    have f1 : ρ' (m.nh + 1) = L1 := (hag' (m.nh + 1) (by unfold Lex; show m.nh + 1 < m.nh + 1 + 1; omega)).trans e1
    have f2 : Agree (Lex m) ρ ρ' := fun k (hk : k < m.nh) => (hag' k (by unfold Lex; show k < m.nh + 1 + 1; omega)).trans (hag k hk)
    have hm := hok.ok.mem ρ' f2
    have hm1 := hm.new (o := .deferred (some [])) (r := .obj (.deferred (some []))) (k := m.nh + 1) (by rw [f0]) ⟨by rw [f0], by rw [f0]; exact World.alloc_heap_new w _⟩
    have hs1 : (w.alloc (.deferred (some []))).heap.size = w.heap.size + 1 := by simp
    have hm2 := hm1.new (o := .loop rec_) (r := .loop C.nt env ps x y .ready none m.nh) (k := m.nh + 1 + 1) (by
        show (ρ' (m.nh + 1)).blk = _; rw [f1, hs1]) ⟨by show (ρ' (m.nh + 1)).nil = false; rw [f1], rec_, by
          show ((w.alloc (.deferred (some []))).alloc (.loop rec_)).heap[(ρ' (m.nh + 1)).blk]? = _
          rw [f1]; have := World.alloc_heap_new (w.alloc (.deferred (some []))) (.loop rec_); rwa [hs1] at this, rfl, rfl, rfl, rfl, rfl, by rw [f0], hok.ok.size, hok.ok.env ρ' f2⟩
    exact ⟨hm2.regs, hm2.dist, hm2.base, hm2.below, hm2.hB⟩
  refine ⟨w.heap.size + 1, [{ target := .collected w.heap.size, args := #[] }], W1, { target := .fn (.func g) (caps.map fun p => ptrVal ρ p.1 p.2).toArray, args := #[.func (.yield (w.heap.size + 1)) #[] #[]] }, W1, g,
    (.func (.yield (w.heap.size + 1)) #[] #[] :: caps.map fun p => ptrVal ρ p.1 p.2).toArray, W1, ?_, ?_, ?_, ?_, fun hh => by simp [Ctx.fen, Fence.wide] at hh, ?_⟩
  · rw [hro]; exact run_enterLoop_outer _ _ _ _ _
  · simp only [resolve, hef]
    simp [Deferred.ofValue, Act.eval]
  · intro f' _; trivial
  · have : (#[Value.func (.yield (w.heap.size + 1)) #[] #[]] : Array Value) ++ (caps.map fun p => ptrVal ρ p.1 p.2).toArray = (.func (.yield (w.heap.size + 1)) #[] #[] :: caps.map fun p => ptrVal ρ p.1 p.2).toArray := by simp
    simp only [invoke, this]
    exact hent _ _
  · have hys : ∀ ρ', Agree (Lex { regs := (m.nh + 1, .loop C.nt env ps x y .ready none m.nh) :: (m.nh, .obj (.deferred (some []))) :: m.regs, nh := m.nh + 1 + 1, ds := [] }) ρ1 ρ' →
        TsRel ρ' (.one (.yld (m.nh + 1)) :: caps.map fun p => .one (.ptr p.1 p.2)) (.func (.yield (w.heap.size + 1)) #[] #[] :: caps.map fun p => ptrVal ρ p.1 p.2) := by
      intro ρ' hag'
      have f1 : ρ' (m.nh + 1) = L1 := (hag' (m.nh + 1) (by unfold Lex; show m.nh + 1 < m.nh + 1 + 1; omega)).trans e1
      have f2 : Agree (Lex m) ρ ρ' := fun k (hk : k < m.nh) => (hag' k (by unfold Lex; show k < m.nh + 1 + 1; omega)).trans (hag k hk)
      have hef' := fun_caps (hok.ok.env ρ' f2) hf
      rw [hef] at hef'
      simp only [Value.func.injEq, true_and, Array.mk.injEq, List.toArray_inj] at hef'
      have hc := caps_rel (ρ := ρ') caps
      rw [← hef'] at hc
      refine And.intro ?_ hc
      show Value.func (.yield (w.heap.size + 1)) #[] #[] = Value.func (.yield (ρ' (m.nh + 1)).blk) #[] #[]
      rw [f1]
    have hgo := hcall (n - 1) B w0 ρ1 W1 _ hmem hys
    have hgo2 := callsIn_round (C.rd.map fun h => (ρ h).blk) hgo
    refine CallsIn.mono hgo2 ?_
    clear hgo hgo2
    rintro e w3 ⟨v, xx, ρ2, m2, rfl, h1, h2, h3, _, h5⟩
    · have hnh2 : m.nh + 1 + 1 ≤ m2.nh := h2
      refine range_end hg (m2 := m2) (ρ1 := ρ1) (ρ2 := ρ2) (h := m.nh + 1) (x := xx) hok hp hag (fun k hk => h1 k (by unfold Lex; show k < m.nh + 1 + 1; rcases hk with hk | hk <;> omega)) (by omega) (by omega) (by rw [e1]) h3 ?_ h5
      intro ρ' hag'
      have f0 : ρ' m.nh = L0 := (hag' m.nh (by unfold Lex; omega)).trans ((h1 m.nh (by unfold Lex; show m.nh < m.nh + 1 + 1; omega)).trans e0)
      have f2 : Agree (Lex m) ρ ρ' := fun k (hk : k < m.nh) => (hag' k (by unfold Lex; omega)).trans ((h1 k (by unfold Lex; show k < m.nh + 1 + 1; omega)).trans (hag k hk))
      rw [hok.ds ρ' f2]
      simp [f0, L0, Dfr.den]

/-- **A range over a function, within a round.** -/
theorem range_step_in {C : Ctx} {f : Operand} {ps : Array Tmp} {x y : Code} {Q : Exit → Env → M → Prop} {env : Env} {m : M} {g : FuncId} {caps : List (Nat × Nat)} {h0 nt0 hd0 : Nat} {env0 : Env} {ps0 : Array Tmp} {x0 y0 : Code} {st0 : LoopState} {pe0 : Option Code}
    (hrd : C.rd = some h0) (hr0 : m.reg h0 = some (.loop nt0 env0 ps0 x0 y0 st0 pe0 hd0)) (hd0lt : Nat.blt hd0 m.nh = true) (hf : evs env f = some (.fn g caps))
    (hcall : m.cs fun rs nh ds => forceN nh fun nh => forceN (nh + 1) fun n1 => C.pr fun P => Unit → SCall P g (.one (.yld nh) :: caps.map fun p => .one (.ptr p.1 p.2))
      { regs := (nh, .loop C.nt env ps x y .ready none hd0) :: rs, nh := n1, ds := [] } (rangeK C nh ds Q env)) :
    SCode C (.rangeFunc f ps x y) Q env m := by
  rw [M.cs_eq, forceN_eq, forceN_eq, Ctx.pr_eq] at hcall
  replace hcall := hcall ()
  replace hd0lt : hd0 < m.nh := Nat.le_of_ble_eq_true hd0lt
  refine ⟨fun hg n B w0 ρ a w hok hp => wpIn_rangeFunc fun fn' hfn' => ?_⟩
  obtain ⟨hent, hcall⟩ := hcall.out
  have hro : (C.fen ρ).round = some (ρ h0).blk := by simp [Ctx.fen, hrd]
  have hef := fun_caps (hok.ok.env ρ (Agree.refl _ _)) hf
  obtain ⟨r0, hb0, _, _, _, _, _, hdef0, _⟩ := (hok.ok.mem ρ (Agree.refl _ _)).loop (st' := st0) (pe' := pe0) hr0
  let rec_ : Loop := { state := .ready, pending := none, fn := fn', tmps := a.tmps, params := ps, assign := x, body := y, defers := r0.defers }
  let W1 := w.alloc (.loop rec_)
  let L0 : Loc := ⟨w.heap.size, 0, 0, 0, false⟩
  let ρ1 : Rho := upd ρ m.nh L0
  have e0 : ρ1 m.nh = L0 := by simp [ρ1, upd]
  have hag : Agree (Lex m) ρ ρ1 := fun k (hk : k < m.nh) => by simp [ρ1, upd, show k ≠ m.nh by omega]
  have hmem : MemL C.P B w0 ρ1 { regs := (m.nh, .loop C.nt env ps x y .ready none hd0) :: m.regs, nh := m.nh + 1, ds := [] } W1 := by
    intro ρ' hag'
    have f0 : ρ' m.nh = L0 := (hag' m.nh (by unfold Lex; show m.nh < m.nh + 1; omega)).trans e0
    have f2 : Agree (Lex m) ρ ρ' := fun k (hk : k < m.nh) => (hag' k (by unfold Lex; show k < m.nh + 1; omega)).trans (hag k hk)
    have hm := hok.ok.mem ρ' f2
    have hm2 := hm.new (o := .loop rec_) (r := .loop C.nt env ps x y .ready none hd0) (k := m.nh + 1) (by rw [f0]) ⟨by rw [f0], rec_, by
          rw [f0]; exact World.alloc_heap_new w (.loop rec_), rfl, rfl, rfl, rfl, rfl, by rw [f2 hd0 hd0lt]; exact hdef0, hok.ok.size, hok.ok.env ρ' f2⟩
    exact ⟨hm2.regs, hm2.dist, hm2.base, hm2.below, hm2.hB⟩
  refine ⟨w.heap.size, [], W1, { target := .fn (.func g) (caps.map fun p => ptrVal ρ p.1 p.2).toArray, args := #[.func (.yield w.heap.size) #[] #[]] }, W1, g,
    (.func (.yield w.heap.size) #[] #[] :: caps.map fun p => ptrVal ρ p.1 p.2).toArray, W1, ?_, ?_, ?_, ?_, fun hh => by simp [Ctx.fen, Fence.wide] at hh, ?_⟩
  · rw [hro]; exact run_enterLoop_inner hb0 _ _ _ _ _
  · simp only [resolve, hef]
    simp [Deferred.ofValue, Act.eval]
  · intro f' _; trivial
  · have : (#[Value.func (.yield w.heap.size) #[] #[]] : Array Value) ++ (caps.map fun p => ptrVal ρ p.1 p.2).toArray = (.func (.yield w.heap.size) #[] #[] :: caps.map fun p => ptrVal ρ p.1 p.2).toArray := by simp
    simp only [invoke, this]
    exact hent _ _
  · have hys : ∀ ρ', Agree (Lex { regs := (m.nh, .loop C.nt env ps x y .ready none hd0) :: m.regs, nh := m.nh + 1, ds := [] }) ρ1 ρ' →
        TsRel ρ' (.one (.yld m.nh) :: caps.map fun p => .one (.ptr p.1 p.2)) (.func (.yield w.heap.size) #[] #[] :: caps.map fun p => ptrVal ρ p.1 p.2) := by
      intro ρ' hag'
      have f1 : ρ' m.nh = L0 := (hag' m.nh (by unfold Lex; show m.nh < m.nh + 1; omega)).trans e0
      have f2 : Agree (Lex m) ρ ρ' := fun k (hk : k < m.nh) => (hag' k (by unfold Lex; show k < m.nh + 1; omega)).trans (hag k hk)
      have hef' := fun_caps (hok.ok.env ρ' f2) hf
      rw [hef] at hef'
      simp only [Value.func.injEq, true_and, Array.mk.injEq, List.toArray_inj] at hef'
      have hc := caps_rel (ρ := ρ') caps
      rw [← hef'] at hc
      refine And.intro ?_ hc
      show Value.func (.yield w.heap.size) #[] #[] = Value.func (.yield (ρ' m.nh).blk) #[] #[]
      rw [f1]
    have hgo := hcall (n - 1) B w0 ρ1 W1 _ hmem hys
    have hgo2 := callsIn_round (C.rd.map fun h => (ρ h).blk) hgo
    refine CallsIn.mono hgo2 ?_
    clear hgo hgo2
    rintro e w3 ⟨v, xx, ρ2, m2, rfl, h1, h2, h3, _, h5⟩
    · have hnh2 : m.nh + 1 ≤ m2.nh := h2
      have := range_end hg (m2 := m2) (ρ1 := ρ1) (ρ2 := ρ2) (h := m.nh) (x := xx) (mark := []) (l := w.heap.size) (n := n) hok hp hag (fun k hk => h1 k (by unfold Lex; show k < m.nh + 1; rcases hk with hk | hk <;> omega)) (by omega) (by omega) (by rw [e0]) h3 (fun ρ' hag' => ?_) h5
      · exact this
      · have f2 : Agree (Lex m) ρ ρ' := fun k (hk : k < m.nh) => (hag' k (by unfold Lex; omega)).trans ((h1 k (by unfold Lex; show k < m.nh + 1; omega)).trans (hag k hk))
        rw [List.nil_append, hok.ds ρ' f2]

end Go.SE
