/- The symbolic executor over the program's code: values, memory, operations; the effect of each operation is as the model's. No condition. -/
import Derived.RangeFuncLeaves
import Derived.RangeFuncRecord
import Derived.RangeFuncNested
import Derived.WalkKit
import Derived.ArgAppend
import Derived.Laws.BytesString
namespace Go.SE
open Go
universe u

def withN {α : Type u} (n : Nat) (k : Nat → α) : α :=
  match n with
  | 0 => k 0
  | m + 1 => k (m + 1)

theorem withN_eq {α : Type u} (n : Nat) (k : Nat → α) : withN n k = k n := by cases n <;> rfl

/-- The smallest numbers, as they are written. -/
def litTab : List Int := [0, 1, 2, 3, 4, 5, 6, 7, 8, 9, 10, 11, 12, 13, 14, 15, 16, 17, 18, 19, 20, 21, 22, 23, 24, 25, 26, 27, 28, 29, 30, 31, 32, 33, 34, 35, 36, 37, 38, 39, 40, 41, 42, 43, 44, 45, 46, 47, 48, 49, 50, 51, 52, 53, 54, 55, 56, 57, 58, 59, 60, 61, 62, 63]

def litAt : List Int → Nat → Option Int
  | [], _ => none
  | x :: _, 0 => some x
  | _ :: l, n + 1 => litAt l n

theorem litAt_tab : ∀ n, n < 64 → litAt litTab n = some (n : Int) := by decide

/-- A number, written out of the smallest ones. -/
def litN {α : Type u} : Nat → Nat → (Int → α) → α
  | 0, n, k => k (n : Int)
  | f + 1, n, k => bif Nat.blt n 64 then (match litAt litTab n with | some x => k x | none => k (n : Int))
    else litN f (n / 64) fun q => match litAt litTab (n % 64) with | some r => k (64 * q + r) | none => k (n : Int)

theorem litN_eq {α : Type u} : ∀ (f n : Nat) (k : Int → α), litN f n k = k (n : Int)
  | 0, n, k => rfl
  | f + 1, n, k => by
    simp only [litN, cond_eq_ite]
    split
    · rename_i h
      rw [litAt_tab n (Nat.le_of_ble_eq_true h)]
    · rw [litN_eq f, litAt_tab (n % 64) (Nat.mod_lt _ (by decide))]
      simp only
      congr 1
      omega

def withI {α : Type u} (i : Int) (k : Int → α) : α :=
  match i with
  | .ofNat n => litN 11 n k
  | .negSucc n => litN 11 (n + 1) fun x => k (-x)

theorem withI_eq {α : Type u} (i : Int) (k : Int → α) : withI i k = k i := by
  cases i with
  | ofNat n => simp only [withI, litN_eq]; rfl
  | negSucc n => simp only [withI, litN_eq]; congr 1

/-- What a handle stands for: a block, where its row begins, how many places it has, how many cells one has; or nothing (a nil slice). -/
structure Loc where
  blk : Nat
  base : Nat
  cap : Nat
  sz : Nat
  nil : Bool

/-- A value of one cell. -/
inductive S where
  | v (x : Value)
  | b (c : Bool)
  | n (k : IntKind) (i : Int)
  | ptr (h o : Nat)
  | pts (h o : Nat)
  | sl (h off len : Nat)
  | fn (f : FuncId) (caps : List (Nat × Nat))
  | bm (f : FuncId) (h o : Nat)
  | yld (h : Nat)
  | mp (h : Nat)
  | any

inductive T where
  | one (s : S)
  | agg (l : List S)

inductive X where
  | t (x : T)
  | tup (l : List T)
  | unk

abbrev Env := List (Nat × X)

def Env.get : Env → Nat → Option X
  | [], _ => none
  | (k, x) :: r, j => bif Nat.beq k j then some x else Env.get r j

inductive Reg where
  | box (cells : List S) (sz : Nat) (e : TypeId)
  | row (xs : List Value) (sz : Nat) (e : TypeId) (own : Bool)
  | obj (o : Obj)
  | loop (nt : Nat) (env : Env) (ps : Array Tmp) (assign body : Code) (st : LoopState) (pe : Option Code) (hd : Nat)
  | srow (cells : List S) (sz : Nat) (e : TypeId)
  | slot (mh : Nat) (key : Option Nat) (val : Option S)
  | iter (mh since : Nat) (seen : List Nat) (stepped : Nat)
  | gone

/-- A deferred call: the block of a loop over a function, or a function of one pointer. -/
inductive Dfr where
  | col (h : Nat)
  | call (f : FuncId) (h o : Nat)

def Dfr.hd : Dfr → Nat
  | .col h => h
  | .call _ h _ => h

structure M where
  regs : List (Nat × Reg)
  nh : Nat
  ds : List Dfr

def regGet : List (Nat × Reg) → Nat → Option Reg
  | [], _ => none
  | (k, x) :: r, j => bif Nat.beq k j then some x else regGet r j

def M.reg (m : M) (h : Nat) : Option Reg := regGet m.regs h

def ofVal : Value → S
  | .int k i => .n k i
  | x => .v x

def allOne : List Value → Bool
  | [] => true
  | x :: l => bif x.oneCell' then allOne l else false

def ofVals : List Value → List S
  | [] => []
  | x :: l => ofVal x :: ofVals l

/-- The same, not known. -/
def vS : List Value → List S
  | [] => []
  | x :: l => .v x :: vS l

def ofValue : Value → Option T
  | .agg cs => bif allOne cs.toList then some (.agg (ofVals cs.toList)) else none
  | .tuple _ => none
  | x => some (.one (ofVal x))

def ev (env : Env) : Operand → Option X
  | .tmp t => env.get t
  | .const v => match ofValue v with
    | some t => some (.t t)
    | none => none
  | .global g => some (.t (.one (.v (.pointer (some ⟨g, 0, none⟩)))))
  | .func f => some (.t (.one (.fn f [])))

def evs (env : Env) (o : Operand) : Option S :=
  match ev env o with
  | some (.t (.one s)) => some s
  | _ => none

def evt (env : Env) (o : Operand) : Option T :=
  match ev env o with
  | some (.t x) => some x
  | _ => none

def valsOf : List S → Option (List Value)
  | [] => some []
  | .v x :: l => match valsOf l with
    | some r => some (x :: r)
    | none => none
  | .n k i :: l => match valsOf l with
    | some r => some (.int k i :: r)
    | none => none
  | .b c :: l => match valsOf l with
    | some r => some (.bool c :: r)
    | none => none
  | _ => none

def goneOf : Option Nat → List (Nat × Reg)
  | some h => [(h, .gone)]
  | none => []

structure Eff where
  val : X
  regs : List (Nat × Reg)
  nh : Nat

def M.app (m : M) (e : Eff) : M := { regs := e.regs ++ m.regs, nh := e.nh, ds := m.ds }

def putEnv (env : Env) (d : Option Nat) (x : X) : Env :=
  match d with
  | some d => (d, x) :: env
  | none => env

/-- What an operation comes to. -/
inductive Comes : Type 1 where
  | eff (e : Eff)
  | ask {α : Type} (p : α → Prop) (f : α → Eff)
  | call (f : FuncId) (args : List T)
  | yield (h : Nat) (args : List T)
  | none

def T.cells : T → List S
  | .one s => [s]
  | .agg l => l

def valEff (m : M) (x : T) : Comes := .eff { val := .t x, regs := [], nh := m.nh }

/-- A number that was worked out. -/
def valI (m : M) (k : IntKind) (r : Int) : Comes := withI r fun r => valEff m (.one (.n k r))

theorem valI_eq (m : M) (k : IntKind) (r : Int) : valI m k r = valEff m (.one (.n k r)) := withI_eq _ _

/-- A number: its kind, itself, and whether it is known. -/
def S.int? : S → Option (IntKind × Int × Bool)
  | .n k i => some (k, i, true)
  | .v (.int k i) => some (k, i, false)
  | _ => none

def isAggT (P : Program) (t : TypeId) : Option Bool :=
  match P.underlying t with
  | some (.struct _) => some true
  | some (.array _ _) => some true
  | some _ => some false
  | none => none

def cmpOp (op : BinOp) (a b : Int) : Option Bool :=
  match op with
  | .eql => some (decide (a = b))
  | .neq => some (!decide (a = b))
  | .lss => some (decide (a < b))
  | .leq => some (decide (a ≤ b))
  | .gtr => some (decide (b < a))
  | .geq => some (decide (b ≤ a))
  | _ => none

def setAt : List S → Nat → List S → List S
  | x :: xs, 0, v :: vs => v :: setAt xs 0 vs
  | xs, 0, [] => xs
  | x :: xs, o + 1, vs => x :: setAt xs o vs
  | [], _, _ => []

/-- What a store does to the list of cells. -/
def setVals : List Value → Nat → List Value → List Value
  | x :: xs, 0, v :: vs => v :: setVals xs 0 vs
  | xs, 0, [] => xs
  | x :: xs, o + 1, vs => x :: setVals xs o vs
  | [], _, _ => []

def cut : List S → Nat → Nat → List S
  | _, _, 0 => []
  | x :: xs, 0, n + 1 => x :: cut xs 0 n
  | _ :: xs, o + 1, n => cut xs o n
  | [], _, _ => []

def nth : List S → Nat → Option S
  | [], _ => none
  | x :: _, 0 => some x
  | _ :: xs, n + 1 => nth xs n

def rep (z : List S) : Nat → List S
  | 0 => []
  | n + 1 => z ++ rep z n

def forceN (n : Nat) (k : Nat → Prop) : Prop :=
  match n with
  | 0 => k 0
  | m + 1 => k (m + 1)

def forceI (i : Int) (k : Int → Prop) : Prop :=
  match i with
  | .ofNat n => forceN n fun n => k (n : Int)
  | .negSucc n => forceN n fun n => k (-((n : Int) + 1))

def forceS (x : S) (k : S → Prop) : Prop :=
  match x with
  | .v x => k (.v x)
  | .b c => k (.b c)
  | .n q i => k (.n q i)
  | .ptr h o => forceN h fun h => forceN o fun o => k (.ptr h o)
  | .pts h o => forceN h fun h => k (.pts h o)
  | .sl h off len => forceN h fun h => k (.sl h off len)
  | .fn f l => k (.fn f l)
  | .bm f h o => forceN h fun h => forceN o fun o => k (.bm f h o)
  | .yld h => forceN h fun h => k (.yld h)
  | .mp h => forceN h fun h => k (.mp h)
  | .any => k .any

def forceL : List S → (List S → Prop) → Prop
  | [], k => k []
  | x :: xs, k => forceS x fun y => forceL xs fun ys => k (y :: ys)

def forceT (x : T) (k : T → Prop) : Prop :=
  match x with
  | .one s => forceS s fun s => k (.one s)
  | .agg l => forceL l fun l => k (.agg l)

def forceTs : List T → (List T → Prop) → Prop
  | [], k => k []
  | x :: l, k => forceT x fun x => forceTs l fun l => k (x :: l)

def forceX (x : X) (k : X → Prop) : Prop :=
  match x with
  | .t x => forceT x fun x => k (.t x)
  | .tup l => forceTs l fun l => k (.tup l)
  | .unk => k .unk

def forceO (x : Option S) (k : Option S → Prop) : Prop :=
  match x with
  | none => k none
  | some x => forceS x fun x => k (some x)

def forceON (x : Option Nat) (k : Option Nat → Prop) : Prop :=
  match x with
  | none => k none
  | some x => forceN x fun x => k (some x)

def forceR (r : Reg) (k : Reg → Prop) : Prop :=
  match r with
  | .box l sz e => forceL l fun l => forceN sz fun sz => k (.box l sz e)
  | .srow l sz e => forceL l fun l => forceN sz fun sz => k (.srow l sz e)
  | .slot mh key val => forceN mh fun mh => forceON key fun key => forceO val fun val => k (.slot mh key val)
  | .iter mh a b c => forceN mh fun mh => k (.iter mh a b c)
  | .row xs sz e own => k (.row xs sz e own)
  | .obj o => k (.obj o)
  | .loop nt env ps a b st pe hd => k (.loop nt env ps a b st pe hd)
  | .gone => k .gone

def forceRs : List (Nat × Reg) → (List (Nat × Reg) → Prop) → Prop
  | [], k => k []
  | (h, r) :: l, k => forceN h fun h => forceR r fun r => forceRs l fun l => k ((h, r) :: l)

def fillS (place : Nat → Option (Nat × Nat)) (cells : List S) : List (Nat × T) → Option (List S)
  | [] => some cells
  | (i, v) :: rest =>
    match place i with
    | none => none
    | some (off, size) => bif Nat.beq v.cells.length size && Nat.ble (off + v.cells.length) cells.length then fillS place (setAt cells off v.cells) rest else none

def evParts (env : Env) : List (Nat × Operand) → Option (List (Nat × T))
  | [] => some []
  | (i, o) :: r => match evt env o, evParts env r with
    | some t, some l => some ((i, t) :: l)
    | _, _ => none

def evArgs (env : Env) : List Operand → Option (List T)
  | [] => some []
  | o :: r => match evt env o, evArgs env r with
    | some t, some l => some (t :: l)
    | _, _ => none

def zeroT (P : Program) (t : TypeId) : Option T :=
  match (P.info? t).bind (·.zero) with
  | some z => ofValue z
  | none => none

def ptrs : List Operand → Env → Option (List (Nat × Nat))
  | [], _ => some []
  | o :: r, env => match evs env o, ptrs r env with
    | some (.ptr h k), some l => some ((h, k) :: l)
    | _, _ => none

def specI (op : BinOp) (k : IntKind) (a b r : Int) : Prop :=
  match op with
  | .add => k.wrap (a + b) = r
  | .sub => k.wrap (a - b) = r
  | .mul => k.wrap (a * b) = r
  | .quo => b ≠ 0 ∧ k.wrap (a.tdiv b) = r
  | .rem => b ≠ 0 ∧ a.tmod b = r
  | .and => k.wrap (BitVec.ofInt k.bits a &&& BitVec.ofInt k.bits b).toNat = r
  | .or => k.wrap (BitVec.ofInt k.bits a ||| BitVec.ofInt k.bits b).toNat = r
  | .xor => k.wrap (BitVec.ofInt k.bits a ^^^ BitVec.ofInt k.bits b).toNat = r
  | .andNot => k.wrap (BitVec.ofInt k.bits a &&& ~~~BitVec.ofInt k.bits b).toNat = r
  | .shl => 0 ≤ b ∧ k.wrap (a * 2 ^ min b.toNat k.bits) = r
  | .shr => 0 ≤ b ∧ a.fdiv (2 ^ min b.toNat k.bits) = r
  | _ => False

/-- The same, computed. -/
def calcI (op : BinOp) (k : IntKind) (a b : Int) : Option Int :=
  match op with
  | .add => some (k.wrap (a + b))
  | .sub => some (k.wrap (a - b))
  | .mul => some (k.wrap (a * b))
  | .quo => if b = 0 then none else some (k.wrap (a.tdiv b))
  | .rem => if b = 0 then none else some (a.tmod b)
  | .and => some (k.wrap (BitVec.ofInt k.bits a &&& BitVec.ofInt k.bits b).toNat)
  | .or => some (k.wrap (BitVec.ofInt k.bits a ||| BitVec.ofInt k.bits b).toNat)
  | .xor => some (k.wrap (BitVec.ofInt k.bits a ^^^ BitVec.ofInt k.bits b).toNat)
  | .andNot => some (k.wrap (BitVec.ofInt k.bits a &&& ~~~BitVec.ofInt k.bits b).toNat)
  | .shl => if 0 ≤ b then some (k.wrap (a * 2 ^ min b.toNat k.bits)) else none
  | .shr => if 0 ≤ b then some (a.fdiv (2 ^ min b.toNat k.bits)) else none
  | _ => none

def boolRes (m : M) (c kn : Bool) : Comes :=
  bif kn then (match c with | true => valEff m (.one (.v (.bool true))) | false => valEff m (.one (.v (.bool false)))) else valEff m (.one (.b c))

def isShift (op : BinOp) : Bool :=
  match op with
  | .shl => true
  | .shr => true
  | _ => false

def doInt (op : BinOp) (m : M) (k : IntKind) (a b : Int) (kn : Bool) : Comes :=
  match cmpOp op a b with
  | some c => boolRes m c kn
  | none => bif kn then (match calcI op k a b with | some r => valI m k r | none => .none)
    else .ask (fun r : Int => specI op k a b r) fun r => { val := .t (.one (.v (.int k r))), regs := [], nh := m.nh }

def S.bool? : S → Option (Bool × Bool)
  | .v (.bool c) => some (c, true)
  | .b c => some (c, false)
  | _ => none

def S.str? : S → Option ByteArray
  | .v (.string x) => some x
  | _ => none

def strCmp (op : BinOp) (a b : ByteArray) : Option Bool :=
  match op with
  | .eql => some (a.toList == b.toList)
  | .neq => some (!(a.toList == b.toList))
  | .lss => some (Op.bytesLess a.toList b.toList)
  | .leq => some (Op.bytesLess a.toList b.toList || a.toList == b.toList)
  | .gtr => some (!(Op.bytesLess a.toList b.toList || a.toList == b.toList))
  | .geq => some (!Op.bytesLess a.toList b.toList)
  | _ => none

def doStr (op : BinOp) (m : M) (a b : ByteArray) : Comes :=
  match strCmp op a b with
  | some c => valEff m (.one (.b c))
  | none => match op with
    | .add => .ask (fun r : ByteArray => a ++ b = r ∧ ((a.size + b.size : Nat) : Int) ≤ IntKind.i64.max) fun r => { val := .t (.one (.v (.string r))), regs := [], nh := m.nh }
    | _ => .none

def doBool (op : BinOp) (m : M) (a b kn : Bool) : Comes :=
  match op with
  | .eql => boolRes m (a == b) kn
  | .neq => boolRes m (!(a == b)) kn
  | _ => .none

/-- What a comparison with nil answers of what is not nil. -/
def nilAns (op : BinOp) : Option Bool :=
  match op with
  | .eql => some false
  | .neq => some true
  | _ => none

/-- A comparison with nil. -/
def doNil (P : Program) (op : BinOp) (m : M) (t : TypeId) (x y : S) : Comes :=
  match nilAns op with
  | none => .none
  | some c => match P.underlying t, x, y with
    | some (.slice _), .sl h _ len, .v (.slice none 0 0) => (match m.reg h with
      | some (.box _ _ _) => boolRes m c true
      | some (.row xs _ _ _) => .ask (fun _ : Unit => 0 < len ∨ xs ≠ []) fun _ => { val := .t (.one (.v (.bool c))), regs := [], nh := m.nh }
      | _ => .none)
    | some (.slice _), .v (.slice none 0 0), .v (.slice none 0 0) => boolRes m (!c) true
    | some (.slice _), .v (.slice (some _) _ _), .v (.slice none 0 0) => boolRes m c true
    | some (.pointer _), .ptr _ _, .v (.pointer none) => boolRes m c true
    | some (.pointer _), .pts _ _, .v (.pointer none) => boolRes m c true
    | some (.func _ _ _), .fn _ _, .v .nilFunc => boolRes m c true
    | some (.func _ _ _), .v .nilFunc, .v .nilFunc => boolRes m (!c) true
    | some (.pointer _), .v (.pointer none), .v (.pointer none) => boolRes m (!c) true
    | _, _, _ => .none

def doBin (P : Program) (op : BinOp) (m : M) (t : TypeId) (x y : S) : Comes :=
  match x.int?, y.int? with
  | some (k, a, ka), some (k', b, kb) =>
    bif isShift op then doInt op m k a b (ka && kb) else (if k = k' then doInt op m k a b (ka && kb) else .none)
  | _, _ => match x.bool?, y.bool? with
    | some (a, ka), some (b, kb) => (match P.underlying t with | some .bool => doBool op m a b (ka && kb) | _ => .none)
    | _, _ => match x.str?, y.str? with
      | some a, some b => doStr op m a b
      | _, _ => doNil P op m t x y

def fieldsOk (P : Program) : List Field → Bool
  | [] => true
  | f :: l => bif (P.info? f.type).isSome then fieldsOk P l else false

def elemSlice (P : Program) (t : TypeId) : Option TypeId :=
  match P.underlying t with
  | some (.slice e) => some e
  | _ => none

def cMove (env : Env) (m : M) (x : Operand) : Comes := match ev env x with
  | some (.t t) => valEff m t
  | some (.tup l) => .eff { val := .tup l, regs := [], nh := m.nh }
  | _ => .none

def cPick (env : Env) (m : M) (c a b : Operand) : Comes := match evs env c with
  | some (.v (.bool true)) => (match evt env a with | some t => valEff m t | none => .none)
  | some (.v (.bool false)) => (match evt env b with | some t => valEff m t | none => .none)
  | _ => .none

def newBox (m : M) (cells : List S) (e : TypeId) : Comes := bif Nat.ble cells.length 16777216 then withN m.nh fun nh => .eff { val := .t (.one (.ptr nh 0)), regs := [(nh, .box cells 1 e)], nh := nh + 1 } else .none

def cBox (env : Env) (m : M) (e : TypeId) (x : Operand) : Comes := match evt env x with
  | some t => newBox m t.cells e
  | none => .none

def cAlloc (P : Program) (m : M) (e : TypeId) : Comes := match zeroT P e with
  | some t => newBox m t.cells e
  | none => .none

def cBuild (P : Program) (env : Env) (m : M) (t : TypeId) (parts : Array (Nat × Operand)) : Comes :=
  match P.underlying t, zeroT P t, evParts env parts.toList with
  | some (.struct fields), some z, some l => bif fieldsOk P fields.toList then
    (match fillS (fun i => (fields[i]?).map fun f => (f.offset, P.cellsOf f.type)) z.cells l with
     | some cs => valEff m (.agg cs)
     | none => .none) else .none
  | some (.array _ elem), some z, some l => bif (P.info? elem).isSome then
    (match fillS (fun i => some (i * P.cellsOf elem, P.cellsOf elem)) z.cells l with
     | some cs => valEff m (.agg cs)
     | none => .none) else .none
  | _, _, _ => .none

def cBuildSlice (P : Program) (env : Env) (m : M) (t : TypeId) (len : Nat) (parts : Array (Nat × Operand)) : Comes :=
  match elemSlice P t, evParts env parts.toList with
  | some elem, some l =>
    (match zeroT P elem with
     | some z => bif Nat.beq z.cells.length (P.cellsOf elem) && Nat.ble (len * P.cellsOf elem) 16777216 then
       (match fillS (fun i => some (i * P.cellsOf elem, P.cellsOf elem)) (rep z.cells len) l with
        | some cs => withN m.nh fun nh => .eff { val := .t (.one (.sl nh 0 len)), regs := [(nh, .box cs (P.cellsOf elem) elem)], nh := nh + 1 }
        | none => .none) else .none
     | none => .none)
  | _, _ => .none

def cLoad (P : Program) (env : Env) (m : M) (t : TypeId) (a : Operand) : Comes := match evs env a with
  | some (.ptr h k) => (match m.reg h with
    | some (.box cells _ _) => (match isAggT P t with
      | some true => bif Nat.ble (k + P.cellsOf t) cells.length then valEff m (.agg (cut cells k (P.cellsOf t))) else .none
      | some false => (match nth cells k with | some s => valEff m (.one s) | none => .none)
      | none => .none)
    | some (.srow cells _ _) => (match isAggT P t with
      | some true => bif Nat.ble (k + P.cellsOf t) cells.length then valEff m (.agg (cut cells k (P.cellsOf t))) else .none
      | some false => (match nth cells k with | some s => valEff m (.one s) | none => .none)
      | none => .none)
    | _ => .none)
  | some (.pts h k) => (match m.reg h with
    | some (.box cells _ _) => (match isAggT P t with
      | some true => .ask (fun l => cut cells k (P.cellsOf t) = l ∧ k + P.cellsOf t ≤ cells.length) fun l => { val := .t (.agg l), regs := [], nh := m.nh }
      | some false => .ask (fun s => nth cells k = some s) fun s => { val := .t (.one s), regs := [], nh := m.nh }
      | none => .none)
    | some (.row xs _ _ _) => (match isAggT P t with
      | some true => .ask (fun l => (xs.drop k).take (P.cellsOf t) = l ∧ k + P.cellsOf t ≤ xs.length) fun l => { val := .t (.agg (vS l)), regs := [], nh := m.nh }
      | some false => .ask (fun y => xs[k]? = some y) fun y => { val := .t (.one (.v y)), regs := [], nh := m.nh }
      | none => .none)
    | _ => .none)
  | _ => .none

def cStore (P : Program) (env : Env) (m : M) (t : TypeId) (a x : Operand) : Comes := match evs env a, evt env x, P.underlying t with
  | some (.ptr h k), some v, some _ => (match m.reg h with
    | some (.box cells sz e) =>
      bif Nat.beq v.cells.length (P.cellsOf t) && Nat.ble (k + v.cells.length) cells.length then .eff { val := .unk, regs := [(h, .box (setAt cells k v.cells) sz e)], nh := m.nh } else .none
    | _ => .none)
  | some (.pts h k), some v, some _ => (match m.reg h with
    | some (.box cells sz e) =>
      bif Nat.beq v.cells.length (P.cellsOf t) then .ask (fun l => setAt cells k v.cells = l ∧ k + v.cells.length ≤ cells.length) fun l => { val := .unk, regs := [(h, .box l sz e)], nh := m.nh } else .none
    | some (.row xs sz e true) => (match valsOf v.cells with
      | some vs => bif Nat.beq v.cells.length (P.cellsOf t) && Nat.blt 0 v.cells.length then .ask (fun l => setVals xs k vs = l ∧ k + vs.length ≤ xs.length) fun l => { val := .unk, regs := [(h, .row l sz e true)], nh := m.nh } else .none
      | none => .none)
    | _ => .none)
  | _, _, _ => .none

def cFieldAddr (P : Program) (env : Env) (m : M) (t : TypeId) (x : Operand) (i : Nat) : Comes := match P.underlying t with
  | some (.struct fields) => (match fields[i]? with
    | some f => bif Nat.beq (P.cellsOf f.type) 0 then .none else (match evs env x with
      | some (.ptr h k) => valEff m (.one (.ptr h (k + f.offset)))
      | some (.pts h k) => valEff m (.one (.pts h (k + f.offset)))
      | _ => .none)
    | none => .none)
  | _ => .none

def cIndexAddr (P : Program) (env : Env) (m : M) (t : TypeId) (x i : Operand) : Comes := match evs env i with
  | some si => (match si.int?, P.underlying t with
    | some (_, j, kn), some (.array len elem) => bif (P.info? elem).isSome then
      (match evs env x with
       | some (.ptr h k) => bif kn then (if 0 ≤ j ∧ j < len then valEff m (.one (.ptr h (k + j.toNat * P.cellsOf elem))) else .none)
         else .ask (fun _ : Unit => 0 ≤ j ∧ j < len) fun _ => { val := .t (.one (.pts h (k + j.toNat * P.cellsOf elem))), regs := [], nh := m.nh }
       | some (.pts h k) => .ask (fun _ : Unit => 0 ≤ j ∧ j < len) fun _ => { val := .t (.one (.pts h (k + j.toNat * P.cellsOf elem))), regs := [], nh := m.nh }
       | _ => .none) else .none
    | some (_, j, kn), some (.slice elem) => bif (P.info? elem).isSome then
      (match evs env x with
       | some (.sl h off len) => (match m.reg h with
         | some (.box _ sz _) => bif Nat.beq sz (P.cellsOf elem) then (bif kn then (if 0 ≤ j ∧ j < len then valEff m (.one (.ptr h ((off + j.toNat) * sz))) else .none)
           else .ask (fun _ : Unit => 0 ≤ j ∧ j < len) fun _ => { val := .t (.one (.pts h ((off + j.toNat) * sz))), regs := [], nh := m.nh }) else .none
         | some (.row _ sz _ _) => bif Nat.beq sz (P.cellsOf elem) then
           .ask (fun _ : Unit => 0 ≤ j ∧ j < len) fun _ => { val := .t (.one (.pts h ((off + j.toNat) * sz))), regs := [], nh := m.nh } else .none
         | some (.srow _ sz _) => bif Nat.beq sz (P.cellsOf elem) && kn then (if 0 ≤ j ∧ j < len then valEff m (.one (.ptr h ((off + j.toNat) * sz))) else .none) else .none
         | _ => .none)
       | _ => .none) else .none
    | _, _ => .none)
  | none => .none

/-- Whether two values of a type are the same: what is sure of it, and whether it is known. -/
def eqS (P : Program) (t : TypeId) (x y : S) : Option (Bool × Bool) :=
  match P.underlying t with
  | some (.int _) => (match x.int?, y.int? with
    | some (k, a, ka), some (k', b, kb) => if k = k' then some (a == b, ka && kb) else none
    | _, _ => none)
  | some .bool => (match x.bool?, y.bool? with
    | some (a, ka), some (b, kb) => some (a == b, ka && kb)
    | _, _ => none)
  | some .string => (match x.str?, y.str? with
    | some a, some b => some (a == b, false)
    | _, _ => none)
  | _ => none

def andK : Option (Bool × Bool) → Option (Bool × Bool) → Option (Bool × Bool)
  | some (a, ka), some (b, kb) => some (a && b, ka && kb)
  | _, _ => none

def partT (P : Program) (t : TypeId) (xs : List S) (off : Nat) : Option T :=
  match isAggT P t with
  | some true => some (.agg (cut xs off (P.cellsOf t)))
  | some false => (match nth xs off with | some s => some (.one s) | none => none)
  | none => none

def eqPart (P : Program) (g : TypeId → T → T → Option (Bool × Bool)) (t : TypeId) (xs ys : List S) (off : Nat) : Option (Bool × Bool) :=
  match partT P t xs off, partT P t ys off with
  | some a, some b => g t a b
  | _, _ => none

def eqFsWith (P : Program) (g : TypeId → T → T → Option (Bool × Bool)) (xs ys : List S) : List Field → Option (Bool × Bool)
  | [] => some (true, true)
  | f :: fs => bif f.name == "_" then none else andK (eqPart P g f.type xs ys f.offset) (eqFsWith P g xs ys fs)

def eqArrWith (P : Program) (g : TypeId → T → T → Option (Bool × Bool)) (e : TypeId) (xs ys : List S) (n : Nat) : Nat → Nat → Option (Bool × Bool)
  | 0, _ => some (true, true)
  | len + 1, i => andK (eqPart P g e xs ys (i * n)) (eqArrWith P g e xs ys n len (i + 1))

def eqT (P : Program) : Nat → TypeId → T → T → Option (Bool × Bool)
  | 0, _, _, _ => none
  | d + 1, t, .one x, .one y => eqS P t x y
  | d + 1, t, .agg xs, .agg ys =>
    match P.underlying t with
    | some (.struct fs) => bif P.stoodInHeld t then none else eqFsWith P (eqT P d) xs ys fs.toList
    | some (.array len e) => bif (P.info? e).isSome && !Nat.beq len 0 then eqArrWith P (eqT P d) e xs ys (P.cellsOf e) len 0 else none
    | _ => none
  | _, _, _, _ => none

/-- The same, where no type's addresses are stood in for. -/
def eqT0 (P : Program) : Nat → TypeId → T → T → Option (Bool × Bool)
  | 0, _, _, _ => none
  | _ + 1, t, .one x, .one y => eqS P t x y
  | d + 1, t, .agg xs, .agg ys =>
    match P.underlying t with
    | some (.struct fs) => eqFsWith P (eqT0 P d) xs ys fs.toList
    | some (.array len e) => bif (P.info? e).isSome && !Nat.beq len 0 then eqArrWith P (eqT0 P d) e xs ys (P.cellsOf e) len 0 else none
    | _ => none
  | _, _, _, _ => none

def heldFree (P : Program) : Nat → TypeId → Bool
  | 0, _ => true
  | d + 1, t => match P.underlying t with
    | some (.struct fs) => !P.stoodInHeld t && fs.toList.all fun f => heldFree P d f.type
    | some (.array _ e) => heldFree P d e
    | _ => true

def boolEff (m : M) (c kn : Bool) : Eff :=
  bif kn then (match c with | true => { val := .t (.one (.v (.bool true))), regs := [], nh := m.nh } | false => { val := .t (.one (.v (.bool false))), regs := [], nh := m.nh }) else { val := .t (.one (.b c)), regs := [], nh := m.nh }

def doEq (P : Program) (op : BinOp) (m : M) (t : TypeId) (xs ys : List S) : Comes :=
  match op with
  | .eql => (match eqT0 P 8 t (.agg xs) (.agg ys) with | some (c, kn) => .ask (fun _ : Unit => heldFree P 8 t = true) fun _ => boolEff m c kn | none => .none)
  | .neq => (match eqT0 P 8 t (.agg xs) (.agg ys) with | some (c, kn) => .ask (fun _ : Unit => heldFree P 8 t = true) fun _ => boolEff m (!c) kn | none => .none)
  | _ => .none

def cBin (P : Program) (env : Env) (m : M) (op : BinOp) (t : TypeId) (x y : Operand) : Comes := match evt env x, evt env y with
  | some (.one a), some (.one b) => doBin P op m t a b
  | some (.agg a), some (.agg b) => doEq P op m t a b
  | _, _ => .none

def cUn (env : Env) (m : M) (op : UnOp) (x : Operand) : Comes := match op, evs env x with
  | .not, some (.v (.bool true)) => valEff m (.one (.v (.bool false)))
  | .not, some (.v (.bool false)) => valEff m (.one (.v (.bool true)))
  | .not, some (.b c) => valEff m (.one (.b (!c)))
  | _, _ => .none

def cConvert (P : Program) (env : Env) (m : M) (s d : TypeId) (x : Operand) : Comes := match P.underlying s, P.underlying d, (evs env x) with
  | some (.int _), some (.int k), some sx => (match sx.int? with
    | some (_, i, kn) => bif kn then valI m k (k.wrap i) else .ask (fun r : Int => k.wrap i = r) fun r => { val := .t (.one (.v (.int k r))), regs := [], nh := m.nh }
    | none => .none)
  | _, _, _ => .none

def cNilCheck (env : Env) (m : M) (x : Operand) : Comes := match evs env x with
  | some (.ptr h k) => valEff m (.one (.ptr h k))
  | some (.pts h k) => valEff m (.one (.pts h k))
  | some (.fn f l) => valEff m (.one (.fn f l))
  | _ => .none

def cMakeFunc (env : Env) (m : M) (fn : Fn) (first caps : Array Operand) : Comes := match fn, first.toList, ptrs caps.toList env with
  | .func f, [], some l => valEff m (.one (.fn f l))
  | .func f, [x], some [] => (match evs env x with | some (.ptr h k) => valEff m (.one (.bm f h k)) | _ => .none)
  | _, _, _ => .none

def cExtract (env : Env) (m : M) (t : Operand) (i : Nat) : Comes := match ev env t with
  | some (.tup l) => (match l[i]? with | some x => valEff m x | none => .none)
  | _ => .none

def cLen (P : Program) (env : Env) (m : M) (args : Array Operand) (argTypes : Array TypeId) : Comes := match args.toList, (argTypes[0]?).bind P.underlying with
  | [x], some (.slice _) => (match evs env x with
    | some (.sl h _ len) => (match m.reg h with
      | some (.box _ _ _) => valEff m (.one (.n .i64 len))
      | some (.row _ _ _ _) => valEff m (.one (.v (.int .i64 len)))
      | some (.srow _ _ _) => valEff m (.one (.n .i64 len))
      | _ => .none)
    | some (.v (.slice none 0 0)) => valEff m (.one (.n .i64 0))
    | some (.v (.slice (some _) len _)) => valEff m (.one (.v (.int .i64 len)))
    | _ => .none)
  | _, _ => .none

structure Own where
  ho : Option Nat
  xs : List Value
  len : Nat

/-- A slice that may be grown: all of a row of one's own. -/
def ownVals (m : M) (sz : Nat) (e : TypeId) : S → Option Own
  | .v (.slice none 0 0) => some ⟨none, [], 0⟩
  | .sl h 0 len => match m.reg h with
    | some (.row xs sz' e' true) => bif Nat.beq sz' sz && Nat.beq e' e then some ⟨some h, xs, len⟩ else none
    | some (.box cells sz' e') => bif Nat.beq sz' sz && Nat.beq e' e then (match valsOf cells with | some xs => some ⟨some h, xs.take (len * sz), len⟩ | none => none) else none
    | _ => none
  | _ => none

/-- A slice's cells, and how many elements. -/
def givesOf (m : M) (sz : Nat) : S → Option (List Value × Nat)
  | .v (.slice none 0 0) => some ([], 0)
  | .v (.slice (some _) 0 _) => some ([], 0)
  | .sl h off len => match m.reg h with
    | some (.row xs sz' _ _) => bif Nat.beq sz' sz then some ((xs.drop (off * sz)).take (len * sz), len) else none
    | some (.box cells sz' _) => bif Nat.beq sz' sz then (match valsOf cells with
      | some xs => bif Nat.beq off 0 && Nat.beq (len * sz) cells.length then some (xs, len) else some ((xs.drop (off * sz)).take (len * sz), len)
      | none => none) else none
    | _ => none
  | _ => none

structure Elem where
  e : TypeId
  sz : Nat
  bytes : Nat

def elemInfo (P : Program) (t : TypeId) : Option Elem :=
  match P.underlying t with
  | some (.slice e) => match P.info? e with
    | some i => match i.zero with
      | some z => bif Nat.beq z.cells.size i.size && Nat.blt 0 i.size then withN i.size fun sz => withN i.bytes fun by_ => some ⟨e, sz, by_⟩ else none
      | none => none
    | none => none
  | _ => none

def growEff (m : M) (nh : Nat) (ho : Option Nat) (n sz : Nat) (e : TypeId) (r : List Value) : Eff :=
  { val := .t (.one (.sl nh 0 n)), regs := (nh, .row r sz e true) :: goneOf ho, nh := nh + 1 }

/-- Two lists, laid end to end and written out. -/
def appS {α : Type u} : List S → List S → (List S → α) → α
  | [], l, k => k l
  | x :: xs, l, k => appS xs l fun r => k (x :: r)

theorem appS_eq {α : Type u} : ∀ (l r : List S) (k : List S → α), appS l r k = k (l ++ r)
  | [], _, _ => rfl
  | x :: l, r, k => by simp only [appS, appS_eq l, List.cons_append]

def growEffS (nh : Nat) (ho : Option Nat) (n sz : Nat) (e : TypeId) (cells : List S) : Eff :=
  { val := .t (.one (.sl nh 0 n)), regs := (nh, .srow cells sz e) :: goneOf ho, nh := nh + 1 }

/-- A full box of any cells, and the cells of another one behind it. -/
def cAppendS (m : M) (e : TypeId) (sz by_ : Nat) (vs vx : S) : Comes :=
  match vs with
  | .sl h 0 n => (match m.reg h with
    | some (.box cells sz' e') => bif Nat.beq sz' sz && (Nat.beq e' e && (Nat.blt 0 sz && Nat.beq (n * sz) cells.length)) then
      (match vx with
       | .v (.slice none 0 0) => valEff m (.one (.sl h 0 n))
       | .sl h2 0 k => (match m.reg h2 with
         | some (.box cells2 sz2 _) => bif Nat.beq sz2 sz && (Nat.blt 0 k && Nat.beq (k * sz) cells2.length) then withN m.nh fun nh =>
             .ask (fun _ : Unit => n + k ≤ maxLen ∧ (n + k) * by_ ≤ 140737488355328) fun _ => { val := .t (.one (.sl nh 0 (n + k))), regs := [(nh, .srow (cells ++ cells2) sz e)], nh := nh + 1 } else .none
         | _ => .none)
       | _ => .none) else .none
    | some (.srow cells sz' e') => bif Nat.beq sz' sz && (Nat.beq e' e && (Nat.blt 0 sz && Nat.beq (n * sz) cells.length)) then
      (match vx with
       | .sl h2 0 k => (match m.reg h2 with
         | some (.box cells2 sz2 _) => bif Nat.beq sz2 sz && (Nat.blt 0 k && Nat.beq (k * sz) cells2.length) then withN m.nh fun nh => withN (n + k) fun q =>
             appS cells cells2 fun cs => .ask (fun _ : Unit => q ≤ maxLen ∧ q * by_ ≤ 140737488355328) fun _ => growEffS nh (some h) q sz e cs else .none
         | _ => .none)
       | _ => .none) else .none
    | _ => .none)
  | .v (.slice none 0 0) => (match vx with
    | .sl h2 0 k => (match m.reg h2 with
      | some (.box cells2 sz2 _) => bif Nat.beq sz2 sz && (Nat.blt 0 k && Nat.beq (k * sz) cells2.length) then withN m.nh fun nh =>
          .ask (fun _ : Unit => k ≤ maxLen ∧ k * by_ ≤ 140737488355328) fun _ => growEffS nh none k sz e cells2 else .none
      | _ => .none)
    | _ => .none)
  | _ => .none

def cAppend (P : Program) (env : Env) (m : M) (c : Call) : Comes :=
  match c.args.toList, c.argTypes.toList with
  | [s, x], [t, t'] => bif Nat.beq t t' then (match elemInfo P t, evs env s, evs env x with
    | some ⟨e, sz, by_⟩, some vs, some vx => (match ownVals m sz e vs, givesOf m sz vx with
      | some ⟨ho, xs, n⟩, some (news, k) => withN m.nh fun nh => .ask (fun r : List Value => xs ++ news = r ∧ xs.length = n * sz ∧ news.length = k * sz ∧ n + k ≤ maxLen ∧ (n + k) * by_ ≤ 140737488355328) fun r => growEff m nh ho (n + k) sz e r
      | _, _ => cAppendS m e sz by_ vs vx)
    | _, _, _ => .none) else .none
  | _, _ => .none

/-- A bound of a slice: the one given, or the one that stands for none. -/
def bound (env : Env) (d : Nat) : Option Operand → Option Int
  | none => some d
  | some x => match evs env x with
    | some s => match s.int? with
      | some (_, i, _) => some i
      | none => none
    | none => none

def slSz (m : M) (h : Nat) : Option Nat :=
  match m.reg h with
  | some (.row _ sz _ _) => some sz
  | some (.box _ sz _) => some sz
  | _ => none

def arrInfo (P : Program) (t : TypeId) : Option (Nat × TypeId) :=
  match P.underlying t with
  | some (.array n e) => some (n, e)
  | _ => none

def cSlice (P : Program) (env : Env) (m : M) (t : TypeId) (x : Operand) (lo hi mx : Option Operand) : Comes :=
  match mx with
  | some c => (match elemSlice P t, evs env x, lo, hi with
    | some e, some (.sl h 0 len), none, some y => (match (evs env y).bind S.int?, (evs env c).bind S.int?, m.reg h with
      | some (_, u, _), some (_, c, _), some (.box cells sz _) => bif Nat.beq sz (P.cellsOf e) && ((P.info? e).isSome && Nat.blt 0 sz) then
          (if u = (len : Int) ∧ c = (len : Int) ∧ len * sz = cells.length then valEff m (.one (.sl h 0 len)) else .none) else .none
      | _, _, _ => .none)
    | _, _, _, _ => .none)
  | none => match elemSlice P t, evs env x with
    | some e, some (.sl h off len) => (match bound env 0 lo, bound env len hi, slSz m h with
      | some l, some u, some sz => bif Nat.beq sz (P.cellsOf e) && (P.info? e).isSome then .ask (fun p : Nat × Nat => l = (p.1 : Int) ∧ u = (p.2 : Int) ∧ p.1 ≤ p.2 ∧ p.2 ≤ len) fun p => { val := .t (.one (.sl h (off + p.1) (p.2 - p.1))), regs := [], nh := m.nh } else .none
      | _, _, _ => .none)
    | some e, some (.v (.slice none 0 0)) => (match bound env 0 lo, bound env 0 hi with
      | some l, some u => bif (P.info? e).isSome then .ask (fun _ : Unit => l = 0 ∧ u = 0) fun _ => { val := .t (.one (.v (.slice none 0 0))), regs := [], nh := m.nh } else .none
      | _, _ => .none)
    | none, some (.ptr h o) => (match arrInfo P t, m.reg h with
      | some (n, e), some (.box cells sz _) => bif Nat.beq o 0 && (Nat.beq sz 1 && (Nat.beq cells.length n && (Nat.beq (P.cellsOf e) 1 && (P.info? e).isSome))) then
        (match bound env 0 lo, bound env n hi with
        | some l, some u => .ask (fun p : Nat × Nat => l = (p.1 : Int) ∧ u = (p.2 : Int) ∧ p.1 ≤ p.2 ∧ p.2 ≤ n) fun p => { val := .t (.one (.sl h p.1 (p.2 - p.1))), regs := [], nh := m.nh }
        | _, _ => .none) else .none
      | _, _ => .none)
    | _, _ => .none

def strOf : List Value → ByteArray → Option ByteArray
  | [], r => some r
  | .int .u8 n :: l, r => strOf l (r.push (UInt8.ofNat n.toNat))
  | _, _ => none

def isBytes (P : Program) (t : TypeId) : Bool :=
  match P.underlying t with
  | some (.slice e) => match P.underlying e with
    | some (.int .u8) => true
    | _ => false
  | _ => false

def cToString (P : Program) (env : Env) (m : M) (s : TypeId) (x : Operand) : Comes :=
  bif isBytes P s then (match evs env x with
    | some vx => (match givesOf m 1 vx with
      | some (xs, k) => .ask (fun r : ByteArray => strOf xs .empty = some r ∧ xs.length = k) fun r => { val := .t (.one (.v (.string r))), regs := [], nh := m.nh }
      | none => .none)
    | none => .none) else .none

def cConv (P : Program) (env : Env) (m : M) (s d : TypeId) (x : Operand) : Comes :=
  match P.underlying d with
  | some .string => cToString P env m s x
  | _ => cConvert P env m s d x

def zerosV (z : List Value) : Nat → List Value
  | 0 => []
  | n + 1 => z ++ zerosV z n

def elemZero (P : Program) (t : TypeId) : Option (Elem × List Value) :=
  match elemInfo P t with
  | some el => match (P.info? el.e).bind (·.zero) with
    | some z => bif allOne z.cells.toList then some (el, z.cells.toList) else none
    | none => none
  | none => none

def cMakeSlice (P : Program) (env : Env) (m : M) (t : TypeId) (l c : Operand) : Comes :=
  match elemZero P t, evs env l, evs env c with
  | some (el, z), some sl, some sc => (match sl.int?, sc.int? with
    | some (_, l, _), some (_, c, _) => withN m.nh fun nh => .ask (fun p : Nat × Nat × List Value => l = (p.1 : Int) ∧ c = (p.2.1 : Int) ∧ p.1 ≤ p.2.1 ∧ p.2.1 * el.bytes ≤ 281474976710656 ∧ p.2.1 ≤ maxLen ∧ zerosV z p.1 = p.2.2)
        fun p => growEff m nh none p.1 el.sz el.e p.2.2
    | _, _ => .none)
  | _, _, _ => .none

/-- A row of one's own, or a box that may be read as one. -/
def rowOf (m : M) (h : Nat) : Option (List Value × Nat × TypeId) :=
  match m.reg h with
  | some (.row xs sz e true) => some (xs, sz, e)
  | some (.box cells sz e) => (match valsOf cells with | some xs => some (xs, sz, e) | none => none)
  | _ => none

def cCopy (P : Program) (env : Env) (m : M) (c : Call) : Comes :=
  match c.args.toList, c.argTypes.toList with
  | [d, s], [t, _] => (match elemInfo P t, evs env d, evs env s with
    | some ⟨_, sz, _⟩, some (.sl h off len), some vx => (match rowOf m h, givesOf m sz vx with
      | some (xs, sz', e), some (news, k) => bif Nat.beq sz' sz then .ask (fun p : Nat × List Value => Nat.min k len = p.1 ∧ news.length = k * sz ∧ (off + p.1) * sz ≤ xs.length ∧ setVals xs (off * sz) (news.take (p.1 * sz)) = p.2)
          fun p => { val := .t (.one (.v (.int .i64 p.1))), regs := [(h, .row p.2 sz e true)], nh := m.nh } else .none
      | _, _ => .none)
    | _, _, _ => .none)
  | _, _ => .none

def minMax (b : Bool) (i j : Int) : Int :=
  match b with
  | true => if j > i then j else i
  | false => if j < i then j else i

def cMinMax (env : Env) (m : M) (b : Bool) (c : Call) : Comes :=
  match c.args.toList with
  | [x, y] => (match evs env x, evs env y with
    | some sx, some sy => (match sx.int?, sy.int? with
      | some (k, i, ki), some (_, j, kj) => bif ki && kj then valI m k (minMax b i j) else valEff m (.one (.v (.int k (minMax b i j))))
      | _, _ => .none)
    | _, _ => .none)
  | _ => .none

def cXor (env : Env) (m : M) (x : Operand) : Comes := match evs env x with
  | some sx => (match sx.int? with
    | some (k, i, kn) => bif kn then valI m k (k.wrap (BitVec.ofInt k.bits (if k.signed then -1 else k.max) ^^^ BitVec.ofInt k.bits i).toNat)
      else .ask (fun r : Int => k.wrap (BitVec.ofInt k.bits (if k.signed then -1 else k.max) ^^^ BitVec.ofInt k.bits i).toNat = r) fun r => { val := .t (.one (.v (.int k r))), regs := [], nh := m.nh }
    | none => .none)
  | none => .none

def cNeg (env : Env) (m : M) (x : Operand) : Comes := match evs env x with
  | some sx => (match sx.int? with
    | some (k, i, kn) => bif kn then valI m k (k.wrap (0 - i)) else .ask (fun r : Int => k.wrap (0 - i) = r) fun r => { val := .t (.one (.v (.int k r))), regs := [], nh := m.nh }
    | none => .none)
  | none => .none

def cIndex (P : Program) (env : Env) (m : M) (t : TypeId) (x i : Operand) : Comes :=
  match evt env x, evs env i, P.underlying t with
  | some (.agg xs), some si, some (.array len elem) => (match si.int? with
    | some (_, j, kn) => bif (P.info? elem).isSome then
      (bif kn then (if 0 ≤ j ∧ j < len then (match partT P elem xs (j.toNat * P.cellsOf elem) with | some y => valEff m y | none => .none) else .none)
       else .ask (fun y : T => (0 ≤ j ∧ j < len) ∧ partT P elem xs (j.toNat * P.cellsOf elem) = some y) fun y => { val := .t y, regs := [], nh := m.nh }) else .none
    | none => .none)
  | some (.one s), some si, some .string => (match s.str?, si.int? with
    | some str, some (_, j, _) => .ask (fun b : UInt8 => 0 ≤ j ∧ str[j.toNat]? = some b) fun b => { val := .t (.one (.v (.int .u8 b.toNat))), regs := [], nh := m.nh }
    | _, _ => .none)
  | _, _, _ => .none

/-- The type of a map's values, where its keys are bytes. -/
def mapElem (P : Program) (t : TypeId) : Option TypeId :=
  match P.underlying t with
  | some (.map k e) => match P.underlying k with
    | some (.int .u8) => some e
    | _ => none
  | _ => none

def cField (P : Program) (env : Env) (m : M) (t : TypeId) (x : Operand) (i : Nat) : Comes :=
  match P.underlying t, evt env x with
  | some (.struct fields), some (.agg xs) => (match fields[i]? with
    | some f => bif (P.info? f.type).isSome then (match partT P f.type xs f.offset with | some y => valEff m y | none => .none) else .none
    | none => .none)
  | _, _ => .none

/-- A map of any keys; it is known whole. -/
def cMakeMapO (P : Program) (m : M) (t : TypeId) : Comes := match P.underlying t with
  | some (.map _ _) => withN m.nh fun nh => .eff { val := .t (.one (.mp nh)), regs := [(nh, .obj (.map #[] 0))], nh := nh + 8 }
  | _ => .none

def intFields (P : Program) (xs : List S) : List Field → Bool
  | [] => true
  | f :: l => match P.underlying f.type, partT P f.type xs f.offset with
    | some (.int _), some _ => intFields P xs l
    | _, _ => false

/-- A key that is a struct of integers. -/
def keyOk (P : Program) (kt : TypeId) (xs : List S) : Bool := match P.underlying kt with
  | some (.struct fs) => intFields P xs fs.toList
  | _ => false

/-- Is it this entry's key? -/
def keyEq (P : Program) (kt : TypeId) (xs : List S) (k : Value) : Option Bool :=
  match ofValue k with
  | some ky => match eqT0 P 5 kt (.agg xs) ky with
    | some (c, _) => some c
    | none => none
  | none => none

/-- What a map's entries have of a key. -/
def lookSays (P : Program) (kt : TypeId) (xs : List S) (z v : Value) (ok : Bool) : List MapEntry → Prop
  | [] => v = z ∧ ok = false
  | e :: es => match keyEq P kt xs e.key with
    | some c => (c = true → v = e.val ∧ ok = true) ∧ (c = false → lookSays P kt xs z v ok es)
    | none => False

def noKey (P : Program) (kt : TypeId) (xs : List S) : List MapEntry → Bool
  | [] => true
  | e :: es => match keyEq P kt xs e.key with
    | some false => noKey P kt xs es
    | _ => false

def cLookupO (P : Program) (env : Env) (m : M) (t : TypeId) (mp k : Operand) : Comes :=
  match P.underlying t, evs env mp, evt env k with
  | some (.map kt e), some (.mp h), some (.agg xs) => (match m.reg h, (P.info? e).bind (·.zero) with
    | some (.obj (.map es _)), some z => bif keyOk P kt xs then
       .ask (fun p : Value × Bool => p.1.oneCell' = true ∧ heldFree P 5 kt = true ∧ lookSays P kt xs z p.1 p.2 es.toList) fun p => { val := .tup [.one (.v p.1), .one (.b p.2)], regs := [], nh := m.nh } else .none
    | _, _ => .none)
  | _, _, _ => .none

def cMapUpdate (P : Program) (env : Env) (m : M) (t : TypeId) (mp k v : Operand) : Comes :=
  match P.underlying t, evs env mp, evt env k, evs env v with
  | some (.map kt _), some (.mp h), some (.agg xs), some s => (match m.reg h, valsOf xs, valsOf [s] with
    | some (.obj (.map es c)), some ks, some [y] => bif keyOk P kt xs then
       .ask (fun _ : Unit => heldFree P 5 kt = true ∧ noKey P kt xs es.toList = true) fun _ => { val := .unk, regs := [(h, .obj (.map (es.push { key := .agg ks.toArray, val := y, born := c }) (c + 1)))], nh := m.nh } else .none
    | _, _, _ => .none)
  | _, _, _, _ => .none

def cMakeMap (P : Program) (m : M) (t : TypeId) (r : Option Operand) : Comes := match mapElem P t, r with
  | none, none => cMakeMapO P m t
  | some _, none => withN m.nh fun nh => .eff { val := .t (.one (.mp nh)), regs := [(nh, .slot nh none none), (nh + 1, .slot nh (some 1) none), (nh + 2, .slot nh (some 2) none), (nh + 3, .slot nh (some 3) none), (nh + 4, .slot nh (some 4) none), (nh + 5, .slot nh (some 5) none), (nh + 6, .slot nh (some 6) none), (nh + 7, .slot nh (some 7) none)], nh := nh + 8 }
  | _, _ => .none

/-- A key: a known byte from 1 to 7. -/
def keyOf? (env : Env) (k : Operand) : Option Nat := match evs env k with
  | some s => match s.int? with
    | some (.u8, .ofNat (n + 1), true) => bif Nat.blt n 7 then some (n + 1) else none
    | _ => none
  | none => none

def cInsert (P : Program) (env : Env) (m : M) (t : TypeId) (mp k v : Operand) : Comes := match mapElem P t, evs env mp, keyOf? env k, evs env v with
  | some _, some (.mp h), some j, some s => (match m.reg (h + j) with
    | some (.slot mh (some j') none) => bif Nat.beq mh h && Nat.beq j' j then .eff { val := .unk, regs := [(h + j, .slot h (some j) (some s))], nh := m.nh } else .none
    | _ => .none)
  | _, _, _, _ => .none

/-- What a map has of a key. -/
def lookAt (P : Program) (m : M) (e : TypeId) (h : Nat) : Option Nat → Option T
  | some j => match m.reg (h + j) with
    | some (.slot mh (some j') (some s)) => bif Nat.beq mh h && Nat.beq j' j then some (.one s) else none
    | some (.slot mh (some j') none) => bif Nat.beq mh h && Nat.beq j' j then zeroT P e else none
    | _ => none
  | none => match m.reg h with
    | some (.slot mh none none) => bif Nat.beq mh h then zeroT P e else none
    | _ => none

def keySays (i : Int) : Option Nat → Prop
  | some j => i = (j : Int) ∧ 1 ≤ j ∧ j ≤ 7
  | none => i < 1 ∨ 7 < i

def lookEff (P : Program) (m : M) (e : TypeId) (h : Nat) (r : Option Nat) : Option Eff := match lookAt P m e h r with
  | some t => some { val := .t t, regs := [], nh := m.nh }
  | none => none

def cLookup (P : Program) (env : Env) (m : M) (t : TypeId) (mp k : Operand) (commaOk : Bool) : Comes :=
  bif commaOk then cLookupO P env m t mp k else match mapElem P t, evs env mp, evs env k with
  | some e, some (.mp h), some s => (match s.int? with
    | some (.u8, i, true) => (match i with
      | .ofNat (n + 1) => bif Nat.blt n 7 then (match lookAt P m e h (some (n + 1)) with | some t => valEff m t | none => .none) else (match lookAt P m e h none with | some t => valEff m t | none => .none)
      | _ => (match lookAt P m e h none with | some t => valEff m t | none => .none))
    | some (.u8, i, false) => .ask (fun p : Option Nat × Eff => keySays i p.1 ∧ lookEff P m e h p.1 = some p.2) fun p => p.2
    | _ => .none)
  | _, _, _ => .none

def cCall (P : Program) (env : Env) (m : M) (c : Call) : Comes := match c.callee with
  | .value f => (match evs env f, evArgs env c.args.toList with
    | some (.fn g caps), some l => .call g (l ++ caps.map fun p => .one (.ptr p.1 p.2))
    | some (.yld h), some l => .yield h l
    | some (.bm g h k), some l => .call g (.one (.ptr h k) :: l)
    | _, _ => .none)
  | .builtin .len => cLen P env m c.args c.argTypes
  | .builtin .append => cAppend P env m c
  | .builtin .copy => cCopy P env m c
  | .builtin .max => cMinMax env m true c
  | .builtin .min => cMinMax env m false c
  | _ => .none

def classify (P : Program) (o : Oper) (env : Env) (m : M) : Comes :=
  match o.op with
  | .move x => cMove env m x
  | .assign x => cMove env m x
  | .pick c a b => cPick env m c a b
  | .box e x => cBox env m e x
  | .alloc e => cAlloc P m e
  | .build t parts => cBuild P env m t parts
  | .buildSlice t len parts => cBuildSlice P env m t len parts
  | .load t a => cLoad P env m t a
  | .store t a x => cStore P env m t a x
  | .fieldAddr t x i => cFieldAddr P env m t x i
  | .field t x i => cField P env m t x i
  | .indexAddr t x i => cIndexAddr P env m t x i
  | .binOp op t x y _ => cBin P env m op t x y
  | .unOp op _ x => (match op with
    | .xor => cXor env m x
    | .neg => cNeg env m x
    | op => cUn env m op x)
  | .makeSlice t l c => cMakeSlice P env m t l c
  | .index t x i => cIndex P env m t x i
  | .convert s d x => cConv P env m s d x
  | .slice t x lo hi mx => cSlice P env m t x lo hi mx
  | .makeFunc fn first caps => cMakeFunc env m fn first caps
  | .nilCheck x => cNilCheck env m x
  | .extract t i => cExtract env m t i
  | .makeMap t r => cMakeMap P m t r
  | .insert t mp k v => cInsert P env m t mp k v
  | .mapUpdate t mp k v => cMapUpdate P env m t mp k v
  | .lookup t mp k c => cLookup P env m t mp k c
  | .call c => cCall P env m c
  | _ => .none

end Go.SE

namespace Go.SE
open Go Go.RowKit

abbrev Rho := Nat → Loc

def SlRel (L : Loc) (off len : Nat) (y : Value) : Prop :=
  (L.nil = true ∧ L.cap = 0 ∧ off = 0 ∧ len = 0 ∧ y = .slice none 0 0) ∨
  (L.nil = false ∧ off + len ≤ L.cap ∧ ∃ a, y = .slice (some a) len (L.cap - off) ∧ (off < L.cap ∨ off = 0 → a = ⟨L.blk, L.base + off * L.sz, none⟩))

def ptrVal (ρ : Rho) (h o : Nat) : Value := .pointer (some ⟨(ρ h).blk, (ρ h).base + o, none⟩)

def S.Rel (ρ : Rho) : S → Value → Prop
  | .v x, y => y = x ∧ x.oneCell' = true
  | .b c, y => y = .bool c
  | .n k i, y => y = .int k i
  | .ptr h o, y => y = ptrVal ρ h o
  | .pts h o, y => y = ptrVal ρ h o
  | .sl h off len, y => SlRel (ρ h) off len y
  | .fn f caps, y => y = .func (.func f) #[] (caps.map fun p => ptrVal ρ p.1 p.2).toArray
  | .bm f h o, y => y = .func (.func f) #[ptrVal ρ h o] #[]
  | .yld h, y => y = .func (.yield (ρ h).blk) #[] #[]
  | .mp h, y => y = .map (some (ρ h).blk)
  | .any, y => y.oneCell' = true

def LRel (ρ : Rho) : List S → List Value → Prop
  | [], [] => True
  | s :: ss, y :: ys => s.Rel ρ y ∧ LRel ρ ss ys
  | _, _ => False

def T.Rel (ρ : Rho) : T → Value → Prop
  | .one s, y => s.Rel ρ y
  | .agg l, y => ∃ ys : List Value, y = .agg ys.toArray ∧ LRel ρ l ys

def TsRel (ρ : Rho) : List T → List Value → Prop
  | [], [] => True
  | s :: ss, y :: ys => s.Rel ρ y ∧ TsRel ρ ss ys
  | _, _ => False

def X.Rel (ρ : Rho) : X → Value → Prop
  | .t x, y => x.Rel ρ y
  | .tup l, y => ∃ ys : List Value, y = .tuple ys.toArray ∧ TsRel ρ l ys
  | .unk, _ => True

theorem S.Rel.one {ρ : Rho} {s : S} {y : Value} (h : s.Rel ρ y) : y.oneCell' = true := by
  cases s with
  | v x => obtain ⟨rfl, h⟩ := h; exact h
  | b c => subst h; rfl
  | n k i => subst h; rfl
  | ptr h o => subst h; rfl
  | pts h o => subst h; rfl
  | sl h off len => rcases h with ⟨_, _, _, _, rfl⟩ | ⟨_, _, a, rfl, _⟩ <;> rfl
  | fn f caps => subst h; rfl
  | bm f h o => subst h; rfl
  | yld l => subst h; rfl
  | mp l => subst h; rfl
  | any => exact h

theorem LRel.length {ρ : Rho} : ∀ {l : List S} {ys : List Value}, LRel ρ l ys → l.length = ys.length
  | [], [], _ => rfl
  | _ :: _, _ :: _, h => by simp [LRel.length h.2]

theorem TsRel.length {ρ : Rho} : ∀ {l : List T} {ys : List Value}, TsRel ρ l ys → l.length = ys.length
  | [], [], _ => rfl
  | _ :: _, _ :: _, h => by simp [TsRel.length h.2]

theorem TsRel.get {ρ : Rho} : ∀ {l : List T} {ys : List Value} (_ : TsRel ρ l ys) {i : Nat} {x : T}, l[i]? = some x → ∃ y, ys[i]? = some y ∧ x.Rel ρ y
  | _ :: _, _ :: _, h, 0, x, hx => by simp at hx; subst hx; exact ⟨_, rfl, h.1⟩
  | _ :: _, _ :: _, h, i + 1, x, hx => by simpa using TsRel.get h.2 (by simpa using hx)

theorem LRel.nth {ρ : Rho} : ∀ {l : List S} {ys : List Value} (_ : LRel ρ l ys) {i : Nat} {x : S}, nth l i = some x → ∃ y, ys[i]? = some y ∧ x.Rel ρ y
  | _ :: _, _ :: _, h, 0, x, hx => by simp [SE.nth] at hx; subst hx; exact ⟨_, rfl, h.1⟩
  | _ :: _, _ :: _, h, i + 1, x, hx => by simpa using LRel.nth h.2 (by simpa [SE.nth] using hx)

theorem LRel.one {ρ : Rho} : ∀ {l : List S} {ys : List Value} (_ : LRel ρ l ys), ∀ y ∈ ys, y.oneCell' = true
  | [], [], _ => by simp
  | _ :: _, _ :: _, h => by
    intro y hy
    rcases List.mem_cons.1 hy with rfl | hy
    · exact h.1.one
    · exact LRel.one h.2 y hy

theorem LRel.append {ρ : Rho} : ∀ {l : List S} {ys : List Value} {l' : List S} {ys' : List Value}, LRel ρ l ys → LRel ρ l' ys' → LRel ρ (l ++ l') (ys ++ ys')
  | [], [], _, _, _, h => h
  | _ :: _, _ :: _, _, _, h, h' => ⟨h.1, LRel.append h.2 h'⟩

theorem LRel.cut {ρ : Rho} : ∀ {l : List S} {ys : List Value} (_ : LRel ρ l ys) (o n : Nat), LRel ρ (cut l o n) ((ys.drop o).take n)
  | l, ys, h, o, 0 => by cases l <;> simp [SE.cut, LRel]
  | [], [], _, o, n + 1 => by simp [SE.cut, LRel]
  | x :: l, y :: ys, h, 0, n + 1 => by
    have := LRel.cut h.2 0 n
    simp only [SE.cut, List.drop_zero, List.take_succ_cons]
    exact ⟨h.1, by simpa using this⟩
  | x :: l, y :: ys, h, o + 1, n + 1 => by simpa [SE.cut] using LRel.cut h.2 o (n + 1)

theorem LRel.setAt {ρ : Rho} : ∀ {l : List S} {ys : List Value} (_ : LRel ρ l ys) {l' : List S} {ys' : List Value} (_ : LRel ρ l' ys') (o : Nat), LRel ρ (setAt l o l') (setVals ys o ys')
  | [], [], _, l', ys', h', o => by cases l' <;> cases ys' <;> cases o <;> simp_all [SE.setAt, setVals, LRel]
  | x :: l, y :: ys, h, [], [], _, 0 => by simpa [SE.setAt, setVals] using h
  | x :: l, y :: ys, h, s :: l', z :: ys', h', 0 => ⟨h'.1, LRel.setAt h.2 h'.2 0⟩
  | x :: l, y :: ys, h, l', ys', h', o + 1 => by
    have := LRel.setAt h.2 h' o
    cases l' <;> cases ys' <;> simp_all [SE.setAt, setVals, LRel]

theorem setVals_length : ∀ (l : List Value) (o : Nat) (vs : List Value), (setVals l o vs).length = l.length
  | [], o, vs => by cases o <;> cases vs <;> simp [setVals]
  | x :: l, 0, [] => by simp [setVals]
  | x :: l, 0, v :: vs => by simp [setVals, setVals_length l 0 vs]
  | x :: l, o + 1, vs => by cases vs <;> simp [setVals, setVals_length l o]

theorem setVals_nil : ∀ (l : List Value) (o : Nat), setVals l o [] = l
  | [], o => by cases o <;> simp [setVals]
  | x :: l, 0 => by simp [setVals]
  | x :: l, o + 1 => by simp [setVals, setVals_nil l o]

theorem setVals_cons : ∀ (l : List Value) (o : Nat) (v : Value) (vs : List Value), setVals l o (v :: vs) = setVals (l.set o v) (o + 1) vs
  | [], o, v, vs => by cases o <;> cases vs <;> simp [setVals]
  | x :: l, 0, v, vs => by simp [setVals]
  | x :: l, o + 1, v, vs => by simp [setVals, setVals_cons l o v vs]

theorem valsOf_rel {ρ : Rho} : ∀ {l : List S} {r ys : List Value}, valsOf l = some r → LRel ρ l ys → ys = r
  | [], r, [], h, _ => by simp only [valsOf, Option.some.injEq] at h; exact h
  | x :: l, r, y :: ys, h, hr => by
    cases x <;> simp only [valsOf] at h <;> first
      | cases h
      | (split at h
         · rename_i r' hr'
           cases h
           rw [valsOf_rel hr' hr.2]
           first
             | rw [hr.1.1]
             | rw [show y = _ from hr.1]
         · cases h)

/-! ### memory -/

def Dfr.den (ρ : Rho) : Dfr → Deferred
  | .col h => { target := .collected (ρ h).blk, args := #[] }
  | .call f h o => { target := .fn (.func f) #[], args := #[ptrVal ρ h o] }

theorem Dfr.den_congr {ρ ρ' : Rho} {d : Dfr} {k : Nat} (h : ρ' d.hd = ρ k) (hk : k = d.hd) : d.den ρ' = d.den ρ := by
  subst hk
  cases d with
  | col h' => simp only [Dfr.den, Dfr.hd] at *; rw [h]
  | call f h' o => simp only [Dfr.den, Dfr.hd, ptrVal] at *; rw [h]

def Reg.own : Reg → Bool
  | .box _ _ _ => true
  | .row _ _ _ own => own
  | .obj _ => true
  | .loop .. => true
  | .srow .. => true
  | .slot .. => true
  | .iter .. => true
  | .gone => false

/-- Two places of maps, of different keys: these may lie in one block. -/
def tied : Reg → Reg → Bool
  | .slot _ a _, .slot _ b _ => !(a == b)
  | _, _ => false

def Reg.ownN : Reg → Bool
  | .slot .. => false
  | r => r.own

theorem Reg.own_of_ownN {r : Reg} (h : r.ownN = true) : r.own = true := by cases r <;> first | exact h | rfl
theorem tied_of_ownN {r : Reg} (h : r.ownN = true) (r' : Reg) : tied r r' = false := by cases r <;> first | rfl | (cases h; done)

def keyIs (j : Nat) : Value → Bool
  | .int .u8 i => i == (j : Int)
  | _ => false

/-- What a map's entries have of a key. -/
def findEnt (j : Nat) : List MapEntry → Option Value
  | [] => none
  | e :: es => bif keyIs j e.key then some e.val else findEnt j es

/-- All keys are bytes from 1 to 7. -/
def smallKeys (es : List MapEntry) : Prop := ∀ e ∈ es, ∃ j : Nat, 1 ≤ j ∧ j ≤ 7 ∧ e.key = .int .u8 j

def SlotSays (ρ : Rho) (es : List MapEntry) : Option Nat → Option S → Prop
  | none, _ => True
  | some j, none => findEnt j es = none
  | some j, some s => ∃ y, findEnt j es = some y ∧ s.Rel ρ y

def Reg.live : Reg → Bool
  | .gone => false
  | .row xs _ _ own => own || !xs.isEmpty
  | _ => true

def TmpsOk (ρ : Rho) (env : Env) (tmps : Array Value) : Prop := ∀ k x, env.get k = some x → ∃ y, tmps[k]? = some y ∧ x.Rel ρ y

def RegOk (ρ : Rho) (w : World) (h : Nat) : Reg → Prop
  | .box cells sz e => (ρ h).nil = false ∧ (ρ h).base = 0 ∧ ((ρ h).sz = sz ∧ (ρ h).cap * sz = cells.length ∧ (sz ≠ 0 → (ρ h).cap ≤ maxLen)) ∧ ∃ ys : List Value, w.heap[(ρ h).blk]? = some (.cells ys.toArray e (0, 0)) ∧ LRel ρ cells ys
  | .row xs sz e true => (ρ h).sz = sz ∧ (∀ x ∈ xs, x.oneCell' = true) ∧ (((ρ h).nil = true ∧ (ρ h).cap = 0 ∧ xs = []) ∨
      ((ρ h).nil = false ∧ (ρ h).base = 0 ∧ ∃ ys : List Value, w.heap[(ρ h).blk]? = some (.cells ys.toArray e (0, 0)) ∧ (ys.length = (ρ h).cap * sz ∧ (ρ h).cap ≤ maxLen) ∧ xs <+: ys))
  | .row xs sz e false => (ρ h).sz = sz ∧ (∀ x ∈ xs, x.oneCell' = true) ∧ (((ρ h).nil = true ∧ (ρ h).cap = 0 ∧ xs = []) ∨
      ((ρ h).nil = false ∧ ∀ i x, xs[i]? = some x → w.cell? ⟨(ρ h).blk, (ρ h).base + i, none⟩ = some x))
  | .obj o => (ρ h).nil = false ∧ w.heap[(ρ h).blk]? = some o
  | .loop nt env ps assign body st pe hd => (ρ h).nil = false ∧ ∃ r : Loop, w.heap[(ρ h).blk]? = some (.loop r) ∧ r.params = ps ∧ r.assign = assign ∧ r.body = body ∧ r.state = st ∧ r.pending = pe ∧
      r.defers = (ρ hd).blk ∧ nt ≤ r.tmps.size ∧ TmpsOk ρ env r.tmps
  | .srow cells sz e => (ρ h).nil = false ∧ (ρ h).base = 0 ∧ ((ρ h).sz = sz ∧ (ρ h).cap ≤ maxLen) ∧ ∃ ys zs : List Value, w.heap[(ρ h).blk]? = some (.cells ys.toArray e (0, 0)) ∧ ys.length = (ρ h).cap * sz ∧ zs <+: ys ∧ LRel ρ cells zs
  | .slot mh key val => (ρ h).nil = false ∧ (ρ h).blk = (ρ mh).blk ∧ ∃ (es : Array MapEntry) (c : Nat), w.heap[(ρ h).blk]? = some (.map es c) ∧ smallKeys es.toList ∧ SlotSays ρ es.toList key val
  | .iter mh since seen stepped => ((ρ h).nil = false ∧ (ρ h).base = 0) ∧ w.heap[(ρ h).blk]? = some (.mapIter (some (ρ mh).blk) since seen.toArray stepped)
  | .gone => True

structure MOk (P : Program) (B : Nat) (w0 : World) (ρ : Rho) (m : M) (w : World) : Prop where
  regs : ∀ h r, m.reg h = some r → RegOk ρ w h r
  dist : ∀ h h' r r', m.reg h = some r → m.reg h' = some r' → h ≠ h' → tied r r' = false → r.own = true → r'.live = true → (ρ h).nil = false → (ρ h').nil = false → (ρ h).blk ≠ (ρ h').blk
  base : ∀ h r, m.reg h = some r → r.own = true → (ρ h).nil = false → B ≤ (ρ h).blk
  below : Below B w0 w
  hB : B ≤ w0.heap.size

def EnvOk (ρ : Rho) (env : Env) (a : Act) : Prop := ∀ k x, env.get k = some x → ∃ y, a.tmps[k]? = some y ∧ x.Rel ρ y

def Agree (D : Nat → Prop) (ρ ρ' : Rho) : Prop := ∀ h, D h → ρ' h = ρ h

theorem Agree.refl (D : Nat → Prop) (ρ : Rho) : Agree D ρ ρ := fun _ _ => rfl
theorem Agree.trans {D D' : Nat → Prop} {ρ ρ' ρ'' : Rho} (h : Agree D ρ ρ') (h' : Agree D' ρ' ρ'') (hd : ∀ h, D h → D' h) : Agree D ρ ρ'' := fun k hk => (h' k (hd k hk)).trans (h k hk)
theorem Agree.mono {D D' : Nat → Prop} {ρ ρ' : Rho} (h : Agree D ρ ρ') (hd : ∀ h, D' h → D h) : Agree D' ρ ρ' := fun k hk => h k (hd k hk)

/-- Memory and frame are as the symbolic state says, whatever the handles outside D stand for. -/
structure Ok (P : Program) (nt B : Nat) (w0 : World) (D : Nat → Prop) (ρ : Rho) (env : Env) (m : M) (a : Act) (w : World) : Prop where
  env : ∀ ρ', Agree D ρ ρ' → EnvOk ρ' env a
  mem : ∀ ρ', Agree D ρ ρ' → MOk P B w0 ρ' m w
  size : nt ≤ a.tmps.size

/-- An operation that is no call, run. -/
def Exec (P : Program) (o : Oper) (a : Act) (w : World) (y : Value) (w' : World) : Prop :=
  (execOp a.eval o).run P w = .ok (.value y) w' ∨ (y = undef ∧ (execOp a.eval o).run P w = .ok .skip w')

def newIn (m : M) (e : Eff) (h : Nat) : Prop := m.nh ≤ h ∧ h < e.nh

def OpOk (P : Program) (o : Oper) (env : Env) (m : M) (e : Eff) : Prop :=
  m.nh ≤ e.nh ∧ ∀ (nt B : Nat) (w0 : World) (D : Nat → Prop) (ρ : Rho) (a : Act) (w : World), (∀ h, newIn m e h → ¬ D h) → Ok P nt B w0 D ρ env m a w →
    ∃ y w' ρ', Exec P o a w y w' ∧ Agree D ρ ρ' ∧ ∀ ρ'', Agree (fun h => D h ∨ newIn m e h) ρ' ρ'' → MOk P B w0 ρ'' (m.app e) w' ∧ e.val.Rel ρ'' y

/-! ### looking up -/

theorem regGet_append_left : ∀ (l l' : List (Nat × Reg)) (h : Nat), regGet (l ++ l') h = (regGet l h).or (regGet l' h)
  | [], l', h => by simp [regGet]
  | (k, x) :: l, l', h => by
    simp only [List.cons_append, regGet]
    cases Nat.beq k h <;> simp [regGet_append_left l l' h]

theorem reg_app {m : M} {e : Eff} {h : Nat} : (m.app e).reg h = (regGet e.regs h).or (m.reg h) := by
  simp [M.app, M.reg, regGet_append_left]

theorem ofVal_rel {ρ : Rho} {y : Value} (h : y.oneCell' = true) : (ofVal y).Rel ρ y := by
  cases y <;> simp_all [ofVal, S.Rel, Value.oneCell']

theorem vS_rel {ρ : Rho} : ∀ {l : List Value}, (∀ x ∈ l, x.oneCell' = true) → LRel ρ (vS l) l
  | [], _ => trivial
  | x :: l, h => ⟨⟨rfl, h x (by simp)⟩, vS_rel fun y hy => h y (by simp [hy])⟩

theorem ofVals_rel {ρ : Rho} : ∀ {l : List Value}, allOne l = true → LRel ρ (ofVals l) l
  | [], _ => trivial
  | y :: l, h => by
    simp only [allOne, cond_eq_ite] at h
    split at h
    · rename_i h1; exact ⟨ofVal_rel h1, ofVals_rel h⟩
    · cases h

theorem T.Rel.of_one {ρ : Rho} {s : S} {y : Value} (h : s.Rel ρ y) : T.Rel ρ (.one s) y := h

theorem ofValue_rel {ρ : Rho} {y : Value} {x : T} (h : ofValue y = some x) : x.Rel ρ y := by
  have key : y.oneCell' = true → T.Rel ρ (.one (ofVal y)) y := fun h => T.Rel.of_one (ofVal_rel h)
  cases y
  case agg cs =>
    simp only [ofValue, cond_eq_ite] at h
    split at h
    · rename_i h1
      cases h
      exact ⟨cs.toList, by simp, ofVals_rel h1⟩
    · cases h
  case tuple => simp [ofValue] at h
  all_goals (simp only [ofValue, Option.some.injEq] at h; subst h; exact key rfl)

theorem eval_of_env {ρ : Rho} {env : Env} {a : Act} (he : EnvOk ρ env a) {x : Operand} {s : X} (h : ev env x = some s) : s.Rel ρ (a.eval x) := by
  cases x with
  | tmp t =>
    obtain ⟨y, hy, hr⟩ := he t s h
    simp only [Act.eval, Array.getD_eq_getD_getElem?, hy, Option.getD_some]
    exact hr
  | const v =>
    simp only [ev] at h
    split at h
    · rename_i t ht; cases h; exact ofValue_rel ht
    · cases h
  | global g => simp only [ev, Option.some.injEq] at h; subst h; exact ⟨rfl, rfl⟩
  | func f => simp only [ev, Option.some.injEq] at h; subst h; simp [X.Rel, T.Rel, S.Rel, Act.eval]

theorem evt_rel {ρ : Rho} {env : Env} {a : Act} (he : EnvOk ρ env a) {x : Operand} {s : T} (h : evt env x = some s) : s.Rel ρ (a.eval x) := by
  simp only [evt] at h
  split at h
  · rename_i t ht; cases h; exact eval_of_env he ht
  · cases h

theorem evs_rel {ρ : Rho} {env : Env} {a : Act} (he : EnvOk ρ env a) {x : Operand} {s : S} (h : evs env x = some s) : s.Rel ρ (a.eval x) := by
  simp only [evs] at h
  split at h
  · rename_i t ht; cases h; exact eval_of_env he ht
  · cases h

end Go.SE

namespace Go.SE
open Go Go.RowKit

theorem opOk_pure {P : Program} {o : Oper} {env : Env} {m : M} {x : X}
    (h : ∀ (B : Nat) (w0 : World) (ρ : Rho) (a : Act) (w : World), EnvOk ρ env a → MOk P B w0 ρ m w → ∃ y, (execOp a.eval o).run P w = .ok (.value y) w ∧ x.Rel ρ y) :
    OpOk P o env m { val := x, regs := [], nh := m.nh } := by
  refine ⟨Nat.le_refl _, fun nt B w0 D ρ a w _ hok => ?_⟩
  obtain ⟨y, hy, _⟩ := h B w0 ρ a w (hok.env ρ (Agree.refl _ _)) (hok.mem ρ (Agree.refl _ _))
  refine ⟨y, w, ρ, .inl hy, Agree.refl _ _, fun ρ'' hag => ?_⟩
  have hag' : Agree D ρ ρ'' := hag.mono fun h hd => .inl hd
  obtain ⟨y', hy', hr⟩ := h B w0 ρ'' a w (hok.env ρ'' hag') (hok.mem ρ'' hag')
  rw [hy] at hy'
  cases hy'
  exact ⟨hok.mem ρ'' hag', hr⟩

theorem run_isAgg {P : Program} {t : TypeId} {b : Bool} (h : isAggT P t = some b) (w : World) : (isAgg t).run P w = .ok b w := by
  unfold isAggT at h
  cases hu : P.underlying t with
  | none => simp [hu] at h
  | some d =>
    have hr := run_underlying hu w
    cases d <;> simp [hu] at h <;> subst h <;> simp [isAgg, hr]

theorem run_sizeOf' {P : Program} {t : TypeId} {d : TypeDesc} (h : P.underlying t = some d) (w : World) : (sizeOf t).run P w = .ok (P.cellsOf t) w := by
  have : ∃ i, P.info? t = some i := by
    unfold Program.underlying at h
    cases hi : P.info? t with
    | none => simp [hi] at h
    | some i => exact ⟨i, rfl⟩
  obtain ⟨i, hi⟩ := this
  exact run_sizeOf w hi

/-- The cells of a box, as the world has them. -/
theorem box_cell {ρ : Rho} {w : World} {h : Nat} {cells : List S} {sz : Nat} {e : TypeId} (hb : RegOk ρ w h (.box cells sz e)) :
    (ρ h).base = 0 ∧ ∃ ys : List Value, w.heap[(ρ h).blk]? = some (.cells ys.toArray e (0, 0)) ∧ LRel ρ cells ys ∧ ∀ i, w.cell? ⟨(ρ h).blk, i, none⟩ = ys[i]? := by
  obtain ⟨_, h2, _, ys, h3, h4⟩ := hb
  exact ⟨h2, ys, h3, h4, fun i => by simp [World.cell?, h3]⟩

theorem addr_add (b o i : Nat) : (⟨b, o, none⟩ : Addr).add i = ⟨b, o + i, none⟩ := by
  unfold Addr.add; split
  · rename_i h; subst h; rfl
  · rfl

theorem load_one_ok {P : Program} {o : Oper} {env : Env} {m : M} {t : TypeId} {x : Operand} {h k : Nat} {cells : List S} {sz : Nat} {e : TypeId} {s : S}
    (ho : o.op = .load t x) (hx : evs env x = some (.ptr h k)) (hr : m.reg h = some (.box cells sz e)) (ha : isAggT P t = some false) (hs : nth cells k = some s) :
    OpOk P o env m { val := .t (.one s), regs := [], nh := m.nh } := by
  refine opOk_pure fun B w0 ρ a w he hm => ?_
  have h1 := evs_rel he hx
  obtain ⟨h2, ys, h3, h4, h5⟩ := box_cell (hm.regs _ _ hr)
  obtain ⟨y, hy, hrel⟩ := h4.nth hs
  refine ⟨y, ?_, hrel⟩
  simp only [S.Rel] at h1
  simp [execOp, ho, h1, ptrVal, Instr.loadAt, Instr.sureAddr, loadVar, run_isAgg ha, h2, h5, hy]

theorem load_agg_ok {P : Program} {o : Oper} {env : Env} {m : M} {t : TypeId} {x : Operand} {h k : Nat} {cells : List S} {sz : Nat} {e : TypeId}
    (ho : o.op = .load t x) (hx : evs env x = some (.ptr h k)) (hr : m.reg h = some (.box cells sz e)) (ha : isAggT P t = some true) (hs : k + P.cellsOf t ≤ cells.length) :
    OpOk P o env m { val := .t (.agg (cut cells k (P.cellsOf t))), regs := [], nh := m.nh } := by
  refine opOk_pure fun B w0 ρ a w he hm => ?_
  have h1 := evs_rel he hx
  obtain ⟨h2, ys, h3, h4, h5⟩ := box_cell (hm.regs _ _ hr)
  refine ⟨.agg ((ys.drop k).take (P.cellsOf t)).toArray, ?_, _, rfl, h4.cut _ _⟩
  have hd : ∃ d, P.underlying t = some d := by
    unfold isAggT at ha
    cases hu : P.underlying t with
    | none => simp [hu] at ha
    | some d => exact ⟨d, rfl⟩
  obtain ⟨d, hd⟩ := hd
  have hl := h4.length
  have hlc := run_loadCells_list (P := P) (w := w) ⟨(ρ h).blk, k, none⟩ ((ys.drop k).take (P.cellsOf t)) (by
    intro j v hv
    rw [addr_add, h5]
    rw [List.getElem?_take] at hv
    split at hv
    · rw [List.getElem?_drop] at hv; exact hv
    · cases hv)
  have hlen : ((ys.drop k).take (P.cellsOf t)).length = P.cellsOf t := by simp; omega
  rw [hlen] at hlc
  simp only [S.Rel] at h1
  simp [execOp, ho, h1, ptrVal, Instr.loadAt, Instr.sureAddr, loadVar, run_isAgg ha, h2, run_sizeOf' hd, hlc]

theorem move_ok {P : Program} {o : Oper} {env : Env} {m : M} {x : Operand} {t : T} (ho : o.op = .move x ∨ o.op = .assign x) (hx : evt env x = some t) :
    OpOk P o env m { val := .t t, regs := [], nh := m.nh } := by
  refine opOk_pure fun B w0 ρ a w he hm => ?_
  refine ⟨a.eval x, ?_, evt_rel he hx⟩
  rcases ho with ho | ho <;> simp [execOp, ho]

theorem pick_ok {P : Program} {o : Oper} {env : Env} {m : M} {c x y : Operand} {b : Bool} {t : T} (ho : o.op = .pick c x y) (hc : evs env c = some (.v (.bool b)))
    (hx : evt env (if b then x else y) = some t) : OpOk P o env m { val := .t t, regs := [], nh := m.nh } := by
  refine opOk_pure fun B w0 ρ a w he hm => ?_
  have h1 := evs_rel he hc
  simp only [S.Rel] at h1
  refine ⟨a.eval (if b then x else y), ?_, evt_rel he hx⟩
  cases b <;> simp [execOp, ho, h1.1, asBool]

theorem run_fieldPlace {P : Program} {w : World} {a : Addr} {f : Field} {d : TypeDesc} (h : P.underlying f.type = some d) (hz : P.cellsOf f.type ≠ 0) :
    (fieldPlace a f).run P w = .ok (a.add f.offset) w := by
  simp [fieldPlace, run_sizeOf' h, hz]

theorem fieldAddr_ok {P : Program} {o : Oper} {env : Env} {m : M} {t : TypeId} {x : Operand} {i h k : Nat} {fields : Array Field} {f : Field}
    (ho : o.op = .fieldAddr t x i) (hx : evs env x = some (.ptr h k)) (hu : P.underlying t = some (.struct fields)) (hf : fields[i]? = some f) (hz : P.cellsOf f.type ≠ 0) :
    OpOk P o env m { val := .t (.one (.ptr h (k + f.offset))), regs := [], nh := m.nh } := by
  refine opOk_pure fun B w0 ρ a w he hm => ?_
  have h1 := evs_rel he hx
  simp only [S.Rel] at h1
  refine ⟨_, ?_, rfl⟩
  have hi : ∃ i, P.info? f.type = some i := by
    unfold Program.cellsOf at hz
    cases hi : P.info? f.type with
    | none => simp [hi] at hz
    | some i => exact ⟨i, rfl⟩
  obtain ⟨inf, hi⟩ := hi
  simp [execOp, ho, h1, ptrVal, Instr.fieldAt, Instr.sureAddr, run_underlying hu, hf, fieldPlace, run_sizeOf w hi, hz, addr_add, Nat.add_assoc]

theorem index_box_ok {P : Program} {o : Oper} {env : Env} {m : M} {t : TypeId} {x ix : Operand} {h k : Nat} {kk : IntKind} {j : Int} {s : S} {kn : Bool} {len : Nat} {elem : TypeId} {d : TypeDesc}
    (ho : o.op = .indexAddr t x ix) (hx : evs env x = some (.ptr h k)) (hi : evs env ix = some s) (hs : s.int? = some (kk, j, kn)) (hu : P.underlying t = some (.array len elem)) (hd : P.underlying elem = some d)
    (h0 : 0 ≤ j) (h1 : j < len) : OpOk P o env m { val := .t (.one (.ptr h (k + j.toNat * P.cellsOf elem))), regs := [], nh := m.nh } := by
  refine opOk_pure fun B w0 ρ a w he hm => ?_
  have hx1 := evs_rel he hx
  have hi1 := evs_rel he hi
  have hi2 : a.eval ix = .int kk j := by
    cases s <;> simp [S.int?] at hs
    case v v => cases v <;> simp at hs; obtain ⟨rfl, rfl, rfl⟩ := hs; exact hi1.1
    case n => obtain ⟨rfl, rfl, rfl⟩ := hs; exact hi1
  simp only [S.Rel] at hx1
  refine ⟨_, ?_, rfl⟩
  simp [execOp, ho, hx1, hi2, ptrVal, Instr.indexAt, Instr.sureAddr, asIntOf, run_underlying hu, run_sizeOf' hd, h0, h1, addr_add, Nat.add_assoc]

end Go.SE

namespace Go.SE
open Go Go.RowKit

/-- What a region says stands while its block does. -/
theorem RegOk.same {ρ : Rho} {w w' : World} {h : Nat} {r : Reg} (hr : RegOk ρ w h r) (hb : (ρ h).nil = false → r.live = true → w'.heap[(ρ h).blk]? = w.heap[(ρ h).blk]?) (hs : w.heap.size ≤ w'.heap.size) : RegOk ρ w' h r := by
  cases r with
  | box cells sz e =>
    obtain ⟨h1, h2, h3, ys, h4, h5⟩ := hr
    exact ⟨h1, h2, h3, ys, (hb h1 rfl).trans h4, h5⟩
  | row xs sz e own =>
    cases own with
    | true =>
      obtain ⟨h1, h2, h3 | ⟨h3, h4, ys, h5, h6⟩⟩ := hr
      · exact ⟨h1, h2, .inl h3⟩
      · exact ⟨h1, h2, .inr ⟨h3, h4, ys, (hb h3 rfl).trans h5, h6⟩⟩
    | false =>
      obtain ⟨h1, h2, h3 | ⟨h3, h6⟩⟩ := hr
      · exact ⟨h1, h2, .inl h3⟩
      · refine ⟨h1, h2, .inr ⟨h3, fun i x hx => ?_⟩⟩
        rw [← h6 i x hx]
        refine World.cell?_of_block (w := w) (hb h3 ?_)
        cases xs with
        | nil => simp at hx
        | cons y l => rfl
  | obj o => exact ⟨hr.1, (hb hr.1 rfl).trans hr.2⟩
  | loop nt env ps a b st pe hd => obtain ⟨h1, r, h2, h3⟩ := hr; exact ⟨h1, r, (hb h1 rfl).trans h2, h3⟩
  | srow cells sz e => obtain ⟨h1, h2, h3, ys, zs, h4, h5⟩ := hr; exact ⟨h1, h2, h3, ys, zs, (hb h1 rfl).trans h4, h5⟩
  | slot mh key val => obtain ⟨h1, h2, es, c, h3, h4⟩ := hr; exact ⟨h1, h2, es, c, (hb h1 rfl).trans h3, h4⟩
  | iter mh a b c => exact ⟨hr.1, (hb hr.1.1 rfl).trans hr.2⟩
  | gone => trivial

theorem RegOk.lt {ρ : Rho} {w : World} {h : Nat} {r : Reg} (hr : RegOk ρ w h r) (hn : (ρ h).nil = false) (hl : r.live = true) : (ρ h).blk < w.heap.size := by
  cases r with
  | box cells sz e => obtain ⟨h1, h2, h3, ys, h4, h5⟩ := hr; exact (Array.getElem?_eq_some_iff.1 h4).1
  | row xs sz e own =>
    cases own with
    | true =>
      obtain ⟨h1, h2, h3 | ⟨h3, h4, ys, h5, h6⟩⟩ := hr
      · simp [h3.1] at hn
      · exact (Array.getElem?_eq_some_iff.1 h5).1
    | false =>
      obtain ⟨h1, h2, h3 | ⟨h3, h6⟩⟩ := hr
      · simp [h3.1] at hn
      · cases xs with
        | nil => simp [Reg.live] at hl
        | cons y l => exact World.block_lt_of_cell? w ⟨(ρ h).blk, (ρ h).base + 0, none⟩ (h6 0 y rfl)
  | obj o => exact (Array.getElem?_eq_some_iff.1 hr.2).1
  | loop nt env ps a b st pe hd => obtain ⟨h1, r, h2, h3⟩ := hr; exact (Array.getElem?_eq_some_iff.1 h2).1
  | srow cells sz e => obtain ⟨h1, h2, h3, ys, zs, h4, h5⟩ := hr; exact (Array.getElem?_eq_some_iff.1 h4).1
  | slot mh key val => obtain ⟨h1, h2, es, c, h3, h4⟩ := hr; exact (Array.getElem?_eq_some_iff.1 h3).1
  | iter mh a b c => exact (Array.getElem?_eq_some_iff.1 hr.2).1
  | gone => cases hl

theorem RegOk.alloc {ρ : Rho} {w : World} {h : Nat} {r : Reg} (o : Obj) (hr : RegOk ρ w h r) : RegOk ρ (w.alloc o) h r :=
  hr.same (fun hn hl => Below.heap_alloc _ _ _ (hr.lt hn hl)) (by simp)

theorem alloc_heap_new (w : World) (o : Obj) : (w.alloc o).heap[w.heap.size]? = some o := World.alloc_heap_new w o

theorem tied_symm {r r' : Reg} (h : tied r r' = false) : tied r' r = false := by
  cases r <;> cases r' <;> first | rfl | (simp only [tied, Bool.not_eq_false', beq_iff_eq] at h ⊢; exact h.symm)

theorem Reg.live_of_own {r : Reg} (h : r.own = true) : r.live = true := by
  cases r <;> first | rfl | (cases h; rfl) | (cases h; done)

/-- A region that is laid. -/
theorem MOk.new {P : Program} {B : Nat} {w0 : World} {ρ : Rho} {m : M} {w : World} {o : Obj} {r : Reg} {k : Nat} (h : MOk P B w0 ρ m w) (hb : (ρ m.nh).blk = w.heap.size) (hr : RegOk ρ (w.alloc o) m.nh r) :
    MOk P B w0 ρ (m.app { val := .unk, regs := [(m.nh, r)], nh := k }) (w.alloc o) := by
  have hreg : ∀ h' r', (m.app { val := .unk, regs := [(m.nh, r)], nh := k }).reg h' = some r' → (h' = m.nh ∧ r' = r) ∨ (h' ≠ m.nh ∧ m.reg h' = some r') := by
    intro h' r' hh
    rw [reg_app] at hh
    simp only [regGet, cond_eq_ite] at hh
    split at hh
    · rename_i he
      have := Nat.eq_of_beq_eq_true he
      simp at hh
      exact .inl ⟨this.symm, hh.symm⟩
    · rename_i he
      simp at hh
      exact .inr ⟨fun e => he (by rw [e]; exact Nat.beq_refl _), hh⟩
  have hBs : B ≤ w.heap.size := Nat.le_trans h.hB h.below.size
  refine ⟨?_, ?_, ?_, h.below.alloc hBs o, h.hB⟩
  · intro h' r' hh
    rcases hreg h' r' hh with ⟨rfl, rfl⟩ | ⟨_, hh⟩
    · exact hr
    · exact (h.regs _ _ hh).alloc o
  · intro h1 h2 r1 r2 e1 e2 hne ht ho hl n1 n2
    rcases hreg _ _ e1 with ⟨rfl, rfl⟩ | ⟨g1, f1⟩ <;> rcases hreg _ _ e2 with ⟨rfl, rfl⟩ | ⟨g2, f2⟩
    · exact absurd rfl hne
    · have := (h.regs _ _ f2).lt n2 hl; omega
    · have := (h.regs _ _ f1).lt n1 (Reg.live_of_own ho); omega
    · exact h.dist _ _ _ _ f1 f2 hne ht ho hl n1 n2
  · intro h' r' hh ho hn
    rcases hreg h' r' hh with ⟨rfl, rfl⟩ | ⟨_, hh⟩
    · omega
    · exact h.base _ _ hh ho hn

theorem MOk.val {P : Program} {B : Nat} {w0 : World} {ρ : Rho} {m : M} {w : World} {e : Eff} (x : X) (h : MOk P B w0 ρ (m.app { e with val := x }) w) : MOk P B w0 ρ (m.app e) w := h

def upd (ρ : Rho) (h : Nat) (L : Loc) : Rho := fun k => if k = h then L else ρ k

theorem upd_same (ρ : Rho) (h : Nat) (L : Loc) : upd ρ h L h = L := by simp [upd]
theorem upd_agree {D : Nat → Prop} (ρ : Rho) {h : Nat} (L : Loc) (hd : ¬ D h) : Agree D ρ (upd ρ h L) := fun k hk => by
  unfold upd; rw [if_neg]; rintro rfl; exact hd hk

theorem opOk_new {P : Program} {o : Oper} {env : Env} {m : M} {x : X} {cells : List S} {e : TypeId} (cap sz : Nat) (hcap : cap * sz = cells.length) (hmax : sz ≠ 0 → cap ≤ maxLen)
    (h : ∀ (B : Nat) (w0 : World) (ρ : Rho) (a : Act) (w : World), EnvOk ρ env a → MOk P B w0 ρ m w → ∃ y ys, (execOp a.eval o).run P w = .ok (.value y) (w.alloc (.cells (List.toArray ys) e (0, 0))) ∧ LRel ρ cells ys ∧
      (ρ m.nh = ⟨w.heap.size, 0, cap, sz, false⟩ → x.Rel ρ y)) :
    OpOk P o env m { val := x, regs := [(m.nh, .box cells sz e)], nh := m.nh + 1 } := by
  refine ⟨Nat.le_succ _, fun nt B w0 D ρ a w hD hok => ?_⟩
  obtain ⟨y, ys, hy, _, _⟩ := h B w0 ρ a w (hok.env ρ (Agree.refl _ _)) (hok.mem ρ (Agree.refl _ _))
  have hnD : ¬ D m.nh := hD m.nh ⟨Nat.le_refl _, Nat.lt_succ_self _⟩
  refine ⟨y, _, upd ρ m.nh ⟨w.heap.size, 0, cap, sz, false⟩, .inl hy, upd_agree ρ _ hnD, fun ρ'' hag => ?_⟩
  have hL : ρ'' m.nh = ⟨w.heap.size, 0, cap, sz, false⟩ := (hag m.nh (.inr ⟨Nat.le_refl _, Nat.lt_succ_self _⟩)).trans (upd_same _ _ _)
  have hag' : Agree D ρ ρ'' := fun k hk => (hag k (.inl hk)).trans (upd_agree ρ _ hnD k hk)
  have hm := hok.mem ρ'' hag'
  obtain ⟨y', ys', hy', hl, hx⟩ := h B w0 ρ'' a w (hok.env ρ'' hag') hm
  rw [hy] at hy'
  simp only [Result.ok.injEq, Next.value.injEq] at hy'
  obtain ⟨rfl, hw⟩ := hy'
  have hys : ys = ys' := by
    have h1 := alloc_heap_new w (.cells ys.toArray e (0, 0))
    rw [hw, alloc_heap_new] at h1
    simp at h1
    exact h1.symm
  subst hys
  refine ⟨?_, hx hL⟩
  exact hm.new (r := .box cells sz e) (k := m.nh + 1) (by rw [hL]) ⟨by rw [hL], by rw [hL], ⟨by rw [hL], by rw [hL]; exact hcap, by rw [hL]; exact hmax⟩, ys, by rw [hL]; exact alloc_heap_new _ _, hl⟩

theorem T.Rel.cells {ρ : Rho} {t : T} {y : Value} (h : t.Rel ρ y) : LRel ρ t.cells y.cells.toList := by
  cases t with
  | one s =>
    have h1 : y.oneCell' = true := S.Rel.one h
    cases y <;> first | (simp [Value.oneCell'] at h1; done) | exact ⟨h, trivial⟩
  | agg l => obtain ⟨ys, rfl, hl⟩ := h; exact hl

theorem T.Rel.cells_size {ρ : Rho} {t : T} {y : Value} (h : t.Rel ρ y) : y.cells.size = t.cells.length := by
  have := h.cells.length; simp at this; exact this.symm

theorem box_ok {P : Program} {o : Oper} {env : Env} {m : M} {e : TypeId} {x : Operand} {t : T} (ho : o.op = .box e x) (hx : evt env x = some t) (hsm : t.cells.length ≤ 16777216) :
    OpOk P o env m { val := .t (.one (.ptr m.nh 0)), regs := [(m.nh, .box t.cells 1 e)], nh := m.nh + 1 } := by
  refine opOk_new t.cells.length 1 (by simp) (fun _ => by simp only [maxLen]; omega) fun B w0 ρ a w he hm => ?_
  have h1 := evt_rel he hx
  refine ⟨.pointer (some ⟨w.heap.size, 0, none⟩), (a.eval x).cells.toList, ?_, h1.cells, fun hL => ?_⟩
  · simp [execOp, ho, Instr.box, newVar, newRow]
  · simp [X.Rel, T.Rel, S.Rel, ptrVal, hL]

theorem run_zeroValue {P : Program} {t : TypeId} {z : Value} {i : TypeInfo} (h : P.info? t = some i) (hz : i.zero = some z) (w : World) : (zeroValue t).run P w = .ok z w := by
  simp [zeroValue, typeInfo, h, hz]

theorem zeroT_spec {P : Program} {t : TypeId} {x : T} (h : zeroT P t = some x) : ∃ z, (∀ w, (zeroValue t).run P w = .ok z w) ∧ ofValue z = some x := by
  unfold zeroT at h
  split at h
  · rename_i z hz
    cases hi : P.info? t with
    | none => simp [hi] at hz
    | some i => simp [hi] at hz; exact ⟨z, fun w => run_zeroValue hi hz w, h⟩
  · cases h

theorem alloc_ok {P : Program} {o : Oper} {env : Env} {m : M} {e : TypeId} {t : T} (ho : o.op = .alloc e) (hx : zeroT P e = some t) (hsm : t.cells.length ≤ 16777216) :
    OpOk P o env m { val := .t (.one (.ptr m.nh 0)), regs := [(m.nh, .box t.cells 1 e)], nh := m.nh + 1 } := by
  obtain ⟨z, hz, hv⟩ := zeroT_spec hx
  refine opOk_new t.cells.length 1 (by simp) (fun _ => by simp only [maxLen]; omega) fun B w0 ρ a w he hm => ?_
  have h1 : t.Rel ρ z := ofValue_rel hv
  refine ⟨.pointer (some ⟨w.heap.size, 0, none⟩), z.cells.toList, ?_, h1.cells, fun hL => ?_⟩
  · simp [execOp, ho, Instr.alloc, hz, newVar, newRow]
  · simp [X.Rel, T.Rel, S.Rel, ptrVal, hL]

end Go.SE

namespace Go.SE
open Go Go.RowKit

/-- 'w' is as 'w0' but for block g. -/
structure SameBut (g : Nat) (w w' : World) : Prop where
  os : w'.os = w.os
  tape : w'.tape = w.tape
  output : w'.output = w.output
  size : w'.heap.size = w.heap.size
  block : ∀ k, k ≠ g → w'.heap[k]? = w.heap[k]?

theorem SameBut.refl (g : Nat) (w : World) : SameBut g w w := ⟨rfl, rfl, rfl, rfl, fun _ _ => rfl⟩
theorem SameBut.trans {g : Nat} {a b c : World} (h : SameBut g a b) (k : SameBut g b c) : SameBut g a c :=
  ⟨k.os.trans h.os, k.tape.trans h.tape, k.output.trans h.output, k.size.trans h.size, fun i hi => (k.block i hi).trans (h.block i hi)⟩
theorem SameBut.setCell (w : World) (a : Addr) (v : Value) : SameBut a.block w (w.setCell a v) := ⟨rfl, rfl, rfl, by simp, fun _ hk => Below.heap_setCell _ _ _ _ hk⟩
theorem SameBut.below {g B : Nat} {w w' : World} (h : SameBut g w w') (hB : B ≤ g) : Below B w w' :=
  ⟨h.os, h.tape, h.output, Nat.le_of_eq h.size.symm, fun k hk => h.block k (by omega)⟩

theorem heap_setCell_same {w : World} {g o : Nat} {ys : List Value} {e : TypeId} {fz : Nat × Nat} (v : Value) (h : w.heap[g]? = some (.cells ys.toArray e fz)) :
    (w.setCell ⟨g, o, none⟩ v).heap[g]? = some (.cells (ys.set o v).toArray e fz) := by
  simp [World.setCell, Array.getElem?_modify, h]

theorem run_storeCells_set {P : Program} (g o : Nat) (e : TypeId) : ∀ (vs : List Value) (i : Nat) (cur : List Value) (w : World), w.heap[g]? = some (.cells cur.toArray e (0, 0)) → o + i + vs.length ≤ cur.length →
    (∀ v ∈ vs, v.oneCell' = true) → ∃ w', (storeCells ⟨g, o, none⟩ vs i).run P w = .ok () w' ∧ w'.heap[g]? = some (.cells (setVals cur (o + i) vs).toArray e (0, 0)) ∧ SameBut g w w'
  | [], i, cur, w, h, _, _ => ⟨w, rfl, by rw [setVals_nil]; exact h, SameBut.refl _ _⟩
  | v :: vs, i, cur, w, h, hl, ho => by
    simp only [List.length_cons] at hl
    have hc : w.cell? ⟨g, o + i, none⟩ = some (cur[o + i]'(by omega)) := by simp [World.cell?, h]
    have hf : w.frozen? ⟨g, o + i, none⟩ = false := by simp [World.frozen?, h]
    have h1 : (store ((⟨g, o, none⟩ : Addr).add i) v).run P w = .ok () (w.setCell ⟨g, o + i, none⟩ v) := by
      rw [addr_add, run_store P w _ v _ (ho v (by simp)), hc]
      simp [hf]
    obtain ⟨w', h2, h3, h4⟩ := run_storeCells_set (P := P) g o e vs (i + 1) (cur.set (o + i) v) (w.setCell ⟨g, o + i, none⟩ v) (heap_setCell_same v h) (by simp; omega) (fun x hx => ho x (by simp [hx]))
    refine ⟨w', ?_, ?_, (SameBut.setCell w ⟨g, o + i, none⟩ v).trans h4⟩
    · simp only [storeCells, Sem.run_bind]
      rw [h1]
      simpa using h2
    · rw [setVals_cons]; exact h3

/-- A region that is written. -/
theorem MOk.write {P : Program} {B : Nat} {w0 : World} {ρ : Rho} {m : M} {w w' : World} {r r' : Reg} {h k : Nat} (hm : MOk P B w0 ρ m w) (hr : m.reg h = some r) (ho : r.own = true)
    (hn : (ρ h).nil = false) (hs : SameBut (ρ h).blk w w') (hr' : RegOk ρ w' h r') (x : X) (hns : (∀ z, tied r z = false) ∧ ∀ z, tied r' z = false) :
    MOk P B w0 ρ (m.app { val := x, regs := [(h, r')], nh := k }) w' := by
  have hreg : ∀ h2 r2, (m.app { val := x, regs := [(h, r')], nh := k }).reg h2 = some r2 → (h2 = h ∧ r2 = r') ∨ (h2 ≠ h ∧ m.reg h2 = some r2) := by
    intro h2 r2 hh
    rw [reg_app] at hh
    simp only [regGet, cond_eq_ite] at hh
    split at hh
    · rename_i he
      have := Nat.eq_of_beq_eq_true he
      simp at hh
      exact .inl ⟨this.symm, hh.symm⟩
    · rename_i he
      simp at hh
      exact .inr ⟨fun e => he (by rw [e]; exact Nat.beq_refl _), hh⟩
  refine ⟨?_, ?_, ?_, hm.below.trans (hs.below (hm.base _ _ hr ho hn)), hm.hB⟩
  · intro h2 r2 hh
    rcases hreg h2 r2 hh with ⟨rfl, rfl⟩ | ⟨hne, hh⟩
    · exact hr'
    · exact (hm.regs _ _ hh).same (fun n2 l2 => hs.block _ (fun e => hm.dist _ _ _ _ hr hh (Ne.symm hne) (hns.1 _) ho l2 hn n2 e.symm)) (Nat.le_of_eq hs.size.symm)
  · intro h1 h2 r1 r2 e1 e2 hne ht hw1 hl n1 n2
    rcases hreg _ _ e1 with ⟨rfl, rfl⟩ | ⟨g1, f1⟩ <;> rcases hreg _ _ e2 with ⟨rfl, rfl⟩ | ⟨g2, f2⟩
    · exact absurd rfl hne
    · exact hm.dist _ _ _ _ hr f2 hne (hns.1 _) ho hl n1 n2
    · exact hm.dist _ _ _ _ f1 hr hne (tied_symm (hns.1 _)) hw1 (Reg.live_of_own ho) n1 n2
    · exact hm.dist _ _ _ _ f1 f2 hne ht hw1 hl n1 n2
  · intro h2 r2 hh hw2 n2
    rcases hreg h2 r2 hh with ⟨rfl, rfl⟩ | ⟨_, hh⟩
    · exact hm.base _ _ hr ho n2
    · exact hm.base _ _ hh hw2 n2

theorem opOk_write {P : Program} {o : Oper} {env : Env} {m : M} {h : Nat} {r r' : Reg} (hr : m.reg h = some r) (ho : r.own = true) (hns : (∀ z, tied r z = false) ∧ ∀ z, tied r' z = false)
    (hx : ∀ (B : Nat) (w0 : World) (ρ : Rho) (a : Act) (w : World), EnvOk ρ env a → MOk P B w0 ρ m w → ∃ w', (execOp a.eval o).run P w = .ok .skip w' ∧ (ρ h).nil = false ∧ SameBut (ρ h).blk w w' ∧ RegOk ρ w' h r') :
    OpOk P o env m { val := .unk, regs := [(h, r')], nh := m.nh } := by
  refine ⟨Nat.le_refl _, fun nt B w0 D ρ a w _ hok => ?_⟩
  obtain ⟨w', hy, _⟩ := hx B w0 ρ a w (hok.env ρ (Agree.refl _ _)) (hok.mem ρ (Agree.refl _ _))
  refine ⟨undef, w', ρ, .inr ⟨rfl, hy⟩, Agree.refl _ _, fun ρ'' hag => ?_⟩
  have hag' : Agree D ρ ρ'' := hag.mono fun h hd => .inl hd
  have hm := hok.mem ρ'' hag'
  obtain ⟨w'', hy', hn, hs, hreg⟩ := hx B w0 ρ'' a w (hok.env ρ'' hag') hm
  rw [hy] at hy'
  cases hy'
  exact ⟨hm.write hr ho hn hs hreg .unk hns, trivial⟩

theorem store_ok {P : Program} {o : Oper} {env : Env} {m : M} {t : TypeId} {x y : Operand} {h k : Nat} {cells : List S} {sz : Nat} {e : TypeId} {v : T} {d : TypeDesc}
    (ho : o.op = .store t x y) (hx : evs env x = some (.ptr h k)) (hy : evt env y = some v) (hr : m.reg h = some (.box cells sz e)) (hd : P.underlying t = some d) (hl : v.cells.length = P.cellsOf t) (hs : k + v.cells.length ≤ cells.length) :
    OpOk P o env m { val := .unk, regs := [(h, .box (setAt cells k v.cells) sz e)], nh := m.nh } := by
  refine opOk_write hr rfl ⟨fun _ => rfl, fun _ => rfl⟩ fun B w0 ρ a w he hm => ?_
  have h1 := evs_rel he hx
  have h2 := evt_rel he hy
  obtain ⟨g1, g2, g3, ys, g4, g5⟩ := hm.regs _ _ hr
  have hlen := g5.length
  have hsz := h2.cells_size
  obtain ⟨w', h3, h4, h5⟩ := run_storeCells_set (P := P) (ρ h).blk k e (a.eval y).cells.toList 0 ys w g4 (by simp; omega) (LRel.one h2.cells)
  refine ⟨w', ?_, g1, h5, g1, g2, ?_, _, h4, g5.setAt h2.cells _⟩
  · simp only [S.Rel] at h1
    simp [execOp, ho, h1, ptrVal, Instr.storeAt, Instr.sureAddr, storeVar, run_sizeOf' hd, g2, hsz, hl]
    rw [h3]; rfl
  · have := (g5.setAt h2.cells k).length
    rw [setVals_length] at this
    omega

theorem S.int?_rel {ρ : Rho} {s : S} {y : Value} {k : IntKind} {i : Int} {kn : Bool} (hs : s.int? = some (k, i, kn)) (h : s.Rel ρ y) : y = .int k i := by
  cases s <;> simp [S.int?] at hs
  case v v => cases v <;> simp at hs; obtain ⟨rfl, rfl, rfl⟩ := hs; exact h.1
  case n => obtain ⟨rfl, rfl, rfl⟩ := hs; exact h

theorem S.int?_n {ρ : Rho} (k : IntKind) (i : Int) : (S.n k i).Rel ρ (.int k i) := rfl
theorem S.int?_v {ρ : Rho} (k : IntKind) (i : Int) : (S.v (.int k i)).Rel ρ (.int k i) := ⟨rfl, rfl⟩

theorem intBin_ok {P : Program} {o : Oper} {env : Env} {m : M} {op : BinOp} {t t2 : TypeId} {x y : Operand} {sx sy s : S} {k : IntKind} {i j r : Int} {kx ky : Bool}
    (ho : o.op = .binOp op t x y t2) (hx : evs env x = some sx) (hy : evs env y = some sy) (hsx : sx.int? = some (k, i, kx)) (hsy : sy.int? = some (k, j, ky))
    (hop : ∀ w, (Sem.run P (Op.intArith op k i j) w) = .ok (.int k r) w) (hk : op = .add ∨ op = .sub ∨ op = .mul) (hs : s = .n k r ∨ s = .v (.int k r)) :
    OpOk P o env m { val := .t (.one s), regs := [], nh := m.nh } := by
  refine opOk_pure fun B w0 ρ a w he hm => ?_
  have h1 := S.int?_rel hsx (evs_rel he hx)
  have h2 := S.int?_rel hsy (evs_rel he hy)
  refine ⟨.int k r, ?_, ?_⟩
  · rcases hk with rfl | rfl | rfl <;> simp [execOp, ho, h1, h2, eqGuard, binOp, hop]
  · rcases hs with rfl | rfl
    · rfl
    · exact ⟨rfl, rfl⟩

theorem run_intArith {P : Program} (w : World) (op : BinOp) (k : IntKind) (a b : Int) (r : Int) (h : op = .add ∧ r = k.wrap (a + b) ∨ op = .sub ∧ r = k.wrap (a - b) ∨ op = .mul ∧ r = k.wrap (a * b)) :
    (Op.intArith op k a b).run P w = .ok (.int k r) w := by
  rcases h with ⟨rfl, rfl⟩ | ⟨rfl, rfl⟩ | ⟨rfl, rfl⟩ <;> simp [Op.intArith]

theorem cmp_ok {P : Program} {o : Oper} {env : Env} {m : M} {op : BinOp} {t t2 : TypeId} {x y : Operand} {sx sy s : S} {k : IntKind} {i j : Int} {kx ky c : Bool}
    (ho : o.op = .binOp op t x y t2) (hx : evs env x = some sx) (hy : evs env y = some sy) (hsx : sx.int? = some (k, i, kx)) (hsy : sy.int? = some (k, j, ky))
    (hc : cmpOp op i j = some c) (hs : s = .b c ∨ s = .v (.bool c)) :
    OpOk P o env m { val := .t (.one s), regs := [], nh := m.nh } := by
  refine opOk_pure fun B w0 ρ a w he hm => ?_
  have h1 := S.int?_rel hsx (evs_rel he hx)
  have h2 := S.int?_rel hsy (evs_rel he hy)
  refine ⟨.bool c, ?_, ?_⟩
  · cases op <;> simp only [cmpOp, Option.some.injEq, reduceCtorEq] at hc <;> subst hc <;> simp [execOp, ho, h1, h2, eqGuard, binOp, Op.intCmp] <;> (try rfl)
  · rcases hs with rfl | rfl
    · rfl
    · exact ⟨rfl, rfl⟩

end Go.SE

namespace Go.SE
open Go Go.RowKit

theorem conv_ok {P : Program} {o : Oper} {env : Env} {m : M} {t t2 : TypeId} {x : Operand} {sx s : S} {k k0 kd : IntKind} {i r : Int} {kx : Bool}
    (ho : o.op = .convert t t2 x) (hx : evs env x = some sx) (hsx : sx.int? = some (k, i, kx)) (h1 : P.underlying t = some (.int k0)) (h2 : P.underlying t2 = some (.int kd))
    (hr : kd.wrap i = r) (hs : s = .n kd r ∨ s = .v (.int kd r)) : OpOk P o env m { val := .t (.one s), regs := [], nh := m.nh } := by
  refine opOk_pure fun B w0 ρ a w he hm => ?_
  have hx1 := S.int?_rel hsx (evs_rel he hx)
  refine ⟨.int kd r, ?_, ?_⟩
  · simp [execOp, ho, hx1, convert, run_underlying h1, run_underlying h2, Conv.intToInt, hr]
  · rcases hs with rfl | rfl
    · rfl
    · exact ⟨rfl, rfl⟩

theorem not_ok {P : Program} {o : Oper} {env : Env} {m : M} {t : TypeId} {x : Operand} {sx s : S} {b : Bool}
    (ho : o.op = .unOp .not t x) (hx : evs env x = some sx) (hb : sx = .b b ∨ sx = .v (.bool b)) (hs : s = .b (!b) ∨ s = .v (.bool (!b))) : OpOk P o env m { val := .t (.one s), regs := [], nh := m.nh } := by
  refine opOk_pure fun B w0 ρ a w he hm => ?_
  have hx1 := evs_rel he hx
  have hx2 : a.eval x = .bool b := by
    rcases hb with rfl | rfl
    · exact hx1
    · exact hx1.1
  refine ⟨.bool (!b), ?_, ?_⟩
  · simp [execOp, ho, hx2, Op.unary]
  · rcases hs with rfl | rfl
    · rfl
    · exact ⟨rfl, rfl⟩

theorem ptrs_rel {ρ : Rho} {env : Env} {a : Act} (he : EnvOk ρ env a) : ∀ {l : List Operand} {ps : List (Nat × Nat)}, ptrs l env = some ps → l.map a.eval = ps.map fun p => ptrVal ρ p.1 p.2
  | [], ps, h => by simp [ptrs] at h; subst h; rfl
  | o :: l, ps, h => by
    simp only [ptrs] at h
    split at h
    · rename_i h' k' l' h1 h2
      cases h
      have := evs_rel he h1
      simp only [S.Rel] at this
      simp [this, ptrs_rel he h2]
    · cases h

theorem makeFunc_ok {P : Program} {o : Oper} {env : Env} {m : M} {f : FuncId} {caps : Array Operand} {ps : List (Nat × Nat)}
    (ho : o.op = .makeFunc (.func f) #[] caps) (hc : ptrs caps.toList env = some ps) : OpOk P o env m { val := .t (.one (.fn f ps)), regs := [], nh := m.nh } := by
  refine opOk_pure fun B w0 ρ a w he hm => ?_
  refine ⟨_, ?_, rfl⟩
  have := ptrs_rel he hc
  have h2 : caps.map a.eval = (ps.map fun p => ptrVal ρ p.1 p.2).toArray := by
    rw [← this, ← Array.toList_map, Array.toArray_toList]
  simp [execOp, ho, Instr.makeFunc, h2]

theorem extract_ok {P : Program} {o : Oper} {env : Env} {m : M} {i : Nat} {x : Operand} {l : List T} {t : T}
    (ho : o.op = .extract x i) (hx : ev env x = some (.tup l)) (hl : l[i]? = some t) : OpOk P o env m { val := .t t, regs := [], nh := m.nh } := by
  refine opOk_pure fun B w0 ρ a w he hm => ?_
  obtain ⟨ys, h1, h2⟩ := eval_of_env he hx
  obtain ⟨y, h3, h4⟩ := h2.get hl
  refine ⟨y, ?_, h4⟩
  simp [execOp, ho, h1, Instr.extract, h3]

/-! ### aggregates -/

theorem foldl_setVals : ∀ (vs : List Value) (cur : List Value) (off k : Nat), ((vs.zipIdx k).foldl (fun cs (p : Value × Nat) => cs.setIfInBounds (off + p.2) p.1) cur.toArray) = (setVals cur (off + k) vs).toArray
  | [], cur, off, k => by simp [setVals_nil]
  | v :: vs, cur, off, k => by
    rw [List.zipIdx_cons, List.foldl_cons, setVals_cons]
    have := foldl_setVals vs (cur.set (off + k) v) off (k + 1)
    simpa [Nat.add_assoc] using this

theorem evParts_rel {ρ : Rho} {env : Env} {a : Act} (he : EnvOk ρ env a) : ∀ {l : List (Nat × Operand)} {ts : List (Nat × T)}, evParts env l = some ts →
    ∃ vs : List (Nat × Value), l.map (fun p => (p.1, a.eval p.2)) = vs ∧ vs.length = ts.length ∧ ∀ (i : Nat) (p : Nat × T) (q : Nat × Value), ts[i]? = some p → vs[i]? = some q → p.1 = q.1 ∧ p.2.Rel ρ q.2
  | [], ts, h => by simp [evParts] at h; subst h; exact ⟨[], rfl, rfl, fun i p q hp => by simp at hp⟩
  | (j, o) :: l, ts, h => by
    simp only [evParts] at h
    split at h
    · rename_i t ts' h1 h2
      cases h
      obtain ⟨vs, g1, g2, g3⟩ := evParts_rel he h2
      refine ⟨(j, a.eval o) :: vs, by simp [g1], by simp [g2], fun i p q hp hq => ?_⟩
      cases i with
      | zero => simp at hp hq; subst hp hq; exact ⟨rfl, evt_rel he h1⟩
      | succ i => exact g3 i p q (by simpa using hp) (by simpa using hq)
    · cases h

theorem fillS_rel {ρ : Rho} {place : Nat → Option (Nat × Nat)} : ∀ {ts : List (Nat × T)} {vs : List (Nat × Value)} {cells cs : List S} {ys : List Value}, vs.length = ts.length →
    (∀ (i : Nat) (p : Nat × T) (q : Nat × Value), ts[i]? = some p → vs[i]? = some q → p.1 = q.1 ∧ p.2.Rel ρ q.2) → LRel ρ cells ys → fillS place cells ts = some cs → ∃ ys', Instr.fill place ys.toArray vs = some (List.toArray ys') ∧ LRel ρ cs ys'
  | [], [], cells, cs, ys, _, _, hr, h => by simp [fillS] at h; subst h; exact ⟨ys, rfl, hr⟩
  | (i, t) :: ts, (j, v) :: vs, cells, cs, ys, hl, hp, hr, h => by
    obtain ⟨h1, h2⟩ := hp 0 _ _ rfl rfl
    simp only at h1 h2
    subst h1
    simp only [fillS] at h
    split at h
    · cases h
    · rename_i off size hpl
      simp only [cond_eq_ite, Bool.and_eq_true] at h
      split at h
      · rename_i hc
        have c1 := Nat.eq_of_beq_eq_true hc.1
        have c2 := Nat.le_of_ble_eq_true hc.2
        have hs := h2.cells_size
        have hlen := hr.length
        obtain ⟨ys', g1, g2⟩ := fillS_rel (ρ := ρ) (place := place) (vs := vs) (by simpa using hl) (fun i p q a b => hp (i + 1) p q (by simpa using a) (by simpa using b)) (hr.setAt h2.cells off) h
        refine ⟨ys', ?_, g2⟩
        simp only [Instr.fill, hpl]
        rw [if_neg (by simp; omega)]
        have := foldl_setVals v.cells.toList ys off 0
        simp only [Nat.add_zero] at this
        rw [← g1, ← this]
        congr 1
        rw [← Array.foldl_toList]
        simp
      · cases h

theorem run_fieldsM {P : Program} (w : World) : ∀ {l : List Field}, fieldsOk P l = true → Sem.run P (l.mapM fun f => do pure (f.offset, ← sizeOf f.type)) w = .ok (l.map fun f => (f.offset, P.cellsOf f.type)) w
  | [], _ => rfl
  | f :: l, h => by
    simp only [fieldsOk, cond_eq_ite] at h
    split at h
    · rename_i h1
      obtain ⟨i, hi⟩ := Option.isSome_iff_exists.1 h1
      have ih := run_fieldsM (P := P) w h
      rw [List.mapM_cons]
      simp only [Sem.run_bind, run_sizeOf w hi, Result.andThen_ok, Sem.run_pure, ih]
      rfl
    · cases h

theorem build_struct_ok {P : Program} {o : Oper} {env : Env} {m : M} {t : TypeId} {parts : Array (Nat × Operand)} {fields : Array Field} {z : T} {l : List (Nat × T)} {cs : List S}
    (ho : o.op = .build t parts) (hu : P.underlying t = some (.struct fields)) (hz : zeroT P t = some z) (hl : evParts env parts.toList = some l) (hf : fieldsOk P fields.toList = true)
    (hc : fillS (fun i => (fields[i]?).map fun f => (f.offset, P.cellsOf f.type)) z.cells l = some cs) : OpOk P o env m { val := .t (.agg cs), regs := [], nh := m.nh } := by
  obtain ⟨zv, hzr, hzv⟩ := zeroT_spec hz
  refine opOk_pure fun B w0 ρ a w he hm => ?_
  obtain ⟨vs, h1, h2, h3⟩ := evParts_rel he hl
  have hz1 : z.Rel ρ zv := ofValue_rel hzv
  obtain ⟨ys', h4, h5⟩ := fillS_rel h2 h3 hz1.cells hc
  refine ⟨.agg ys'.toArray, ?_, ys', rfl, h5⟩
  have hm1 : Sem.run P (fields.mapM fun f => do pure (f.offset, ← sizeOf f.type)) w = .ok (fields.map fun f => (f.offset, P.cellsOf f.type)) w := by
    rw [Array.mapM_eq_mapM_toList]
    have := run_fieldsM (P := P) w hf
    simp only [Sem.run_map, this, Result.andThen_ok]
    rw [← Array.toList_map, Array.toArray_toList]
  have h6 : ∀ i : Nat, (fields.map fun (f : Field) => (f.offset, P.cellsOf f.type))[i]? = (fields[i]?).map fun (f : Field) => (f.offset, P.cellsOf f.type) := by
    intro i; simp
  have h7 : (parts.map fun p => (p.1, a.eval p.2)).toList = vs := by rw [← h1]; simp
  simp only [Array.toArray_toList] at h4
  simp only [execOp, ho, Instr.build, Sem.run_bind, hzr, Result.andThen_ok, run_underlying hu, hm1, h7]
  simp only [h6, h4]
  simp

theorem build_array_ok {P : Program} {o : Oper} {env : Env} {m : M} {t elem : TypeId} {n : Nat} {parts : Array (Nat × Operand)} {z : T} {l : List (Nat × T)} {cs : List S}
    (ho : o.op = .build t parts) (hu : P.underlying t = some (.array n elem)) (hz : zeroT P t = some z) (hl : evParts env parts.toList = some l) (hf : (P.info? elem).isSome = true)
    (hc : fillS (fun i => some (i * P.cellsOf elem, P.cellsOf elem)) z.cells l = some cs) : OpOk P o env m { val := .t (.agg cs), regs := [], nh := m.nh } := by
  obtain ⟨zv, hzr, hzv⟩ := zeroT_spec hz
  obtain ⟨ei, hei⟩ := Option.isSome_iff_exists.1 hf
  refine opOk_pure fun B w0 ρ a w he hm => ?_
  obtain ⟨vs, h1, h2, h3⟩ := evParts_rel he hl
  have hz1 : z.Rel ρ zv := ofValue_rel hzv
  obtain ⟨ys', h4, h5⟩ := fillS_rel h2 h3 hz1.cells hc
  refine ⟨.agg ys'.toArray, ?_, ys', rfl, h5⟩
  have h7 : (parts.map fun p => (p.1, a.eval p.2)).toList = vs := by rw [← h1]; simp
  simp only [Array.toArray_toList] at h4
  simp only [execOp, ho, Instr.build, Sem.run_bind, hzr, Result.andThen_ok, run_underlying hu, run_sizeOf w hei, h7]
  simp [h4]

theorem rep_length (z : List S) (n : Nat) : (rep z n).length = n * z.length := by
  induction n with
  | zero => simp [rep]
  | succ n ih => simp [rep, ih, Nat.succ_mul]; omega

theorem zeros_rel {ρ : Rho} {z : List S} {ys : List Value} (h : LRel ρ z ys) : ∀ n, LRel ρ (rep z n) ((List.range (n * ys.length)).map fun i => ys.toArray[i % ys.length]!)
  | 0 => by simp [rep, LRel]
  | n + 1 => by
    have ih := zeros_rel h n
    have e1 : (List.range ((n + 1) * ys.length)).map (fun i => ys.toArray[i % ys.length]!) = ys ++ (List.range (n * ys.length)).map fun i => ys.toArray[i % ys.length]! := by
      rw [Nat.succ_mul, Nat.add_comm, List.range_add, List.map_append]
      congr 1
      · apply List.ext_getElem
        · simp
        · intro i h1 h2
          have : i < ys.length := by simpa using h1
          simp [Nat.mod_eq_of_lt this, this]
      · simp [Function.comp_def]
    rw [e1, rep]
    exact h.append ih

theorem buildSlice_ok {P : Program} {o : Oper} {env : Env} {m : M} {t elem : TypeId} {len : Nat} {parts : Array (Nat × Operand)} {z : T} {l : List (Nat × T)} {cs : List S}
    (ho : o.op = .buildSlice t len parts) (hu : P.underlying t = some (.slice elem)) (hz : zeroT P elem = some z) (hl : evParts env parts.toList = some l) (hzl : z.cells.length = P.cellsOf elem) (hb : len * P.cellsOf elem ≤ 16777216)
    (hc : fillS (fun i => some (i * P.cellsOf elem, P.cellsOf elem)) (rep z.cells len) l = some cs) :
    OpOk P o env m { val := .t (.one (.sl m.nh 0 len)), regs := [(m.nh, .box cs (P.cellsOf elem) elem)], nh := m.nh + 1 } := by
  obtain ⟨zv, hzr, hzv⟩ := zeroT_spec hz
  have hel : ∃ i, P.info? elem = some i := by
    unfold zeroT at hz
    cases hi : P.info? elem with
    | none => simp [hi] at hz
    | some i => exact ⟨i, rfl⟩
  obtain ⟨ei, hei⟩ := hel
  have hlen : ∀ {ts : List (Nat × T)} {cells cs : List S} {pl : Nat → Option (Nat × Nat)}, fillS pl cells ts = some cs → (∀ a b : List S, ∀ o, (setAt a o b).length = a.length) → cs.length = cells.length := by
    intro ts
    induction ts with
    | nil => intro cells cs pl h _; simp [fillS] at h; rw [h]
    | cons p ts ih =>
      intro cells cs pl h hs
      obtain ⟨i, t⟩ := p
      simp only [fillS] at h
      split at h
      · cases h
      · simp only [cond_eq_ite] at h
        split at h
        · rw [ih h hs, hs]
        · cases h
  have hsl : ∀ a b : List S, ∀ o, (setAt a o b).length = a.length := by
    intro a
    induction a with
    | nil => intro b o; cases b <;> cases o <;> simp [setAt]
    | cons x a ih => intro b o; cases b <;> cases o <;> simp [setAt, ih]
  have hcl : cs.length = len * P.cellsOf elem := by rw [hlen hc hsl, rep_length, hzl]
  refine opOk_new len (P.cellsOf elem) (by omega) (fun hne => by have : len * 1 ≤ len * P.cellsOf elem := Nat.mul_le_mul_left _ (by omega); simp only [maxLen]; omega) fun B w0 ρ a w he hm => ?_
  obtain ⟨vs, h1, h2, h3⟩ := evParts_rel he hl
  have hz1 : z.Rel ρ zv := ofValue_rel hzv
  have hzs := hz1.cells_size
  have hzr0 := zeros_rel hz1.cells len
  obtain ⟨ys', h4, h5⟩ := fillS_rel h2 h3 hzr0 hc
  refine ⟨.slice (some ⟨w.heap.size, 0, none⟩) len len, ys', ?_, h5, fun hL => ?_⟩
  · have h7 : (parts.map fun p => (p.1, a.eval p.2)).toList = vs := by rw [← h1]; simp
    simp only [execOp, ho, Instr.buildSlice, Sem.run_bind, run_underlying hu, Result.andThen_ok, run_sizeOf w hei, h7]
    rw [if_neg (by omega)]
    by_cases h0 : len * P.cellsOf elem = 0
    · have e0 : ((List.range (len * zv.cells.toList.length)).map fun i => zv.cells.toList.toArray[i % zv.cells.toList.length]!) = [] := by
        have e4 : len * zv.cells.toList.length = 0 := by rw [Array.length_toList, hzs, hzl]; exact h0
        rw [e4]; rfl
      rw [e0] at h4
      simp only [h0, ↓reduceIte, Sem.run_bind, Sem.run_pure, Result.andThen_ok]
      have e1 : (Array.map (fun x => (#[] : Array Value)[x % (#[] : Array Value).size]!) (Array.range 0)) = [].toArray := by simp
      rw [e1, h4]
      simp [newRow]
    · simp only [h0, ↓reduceIte, hzr, Sem.run_bind, Sem.run_pure, Result.andThen_ok]
      have e1 : (Array.map (fun x => zv.cells[x % zv.cells.size]!) (Array.range (len * P.cellsOf elem))) = ((List.range (len * zv.cells.toList.length)).map fun i => zv.cells.toList.toArray[i % zv.cells.toList.length]!).toArray := by
        have e2 : zv.cells.toList.length = P.cellsOf elem := by simp [hzs, hzl]
        have e3 : zv.cells.size = P.cellsOf elem := by rw [hzs, hzl]
        rw [e2, e3, Array.toArray_toList]
        apply Array.ext'
        simp
      rw [e1, h4]
      simp [newRow]
  · refine .inr ⟨by rw [hL], by rw [hL]; simp, ⟨w.heap.size, 0, none⟩, by rw [hL]; simp, fun _ => by rw [hL]; simp⟩

end Go.SE

namespace Go.SE
open Go Go.RowKit

/-- Where a slice's row lies, as its value tells. -/
def locOf (sz : Nat) : Value → Loc
  | .slice (some a) _ cap => ⟨a.block, a.off, cap, sz, false⟩
  | _ => ⟨0, 0, 0, sz, true⟩

/-- A row of one's own, at a place. -/
def RowAt (L : Loc) (w : World) (xs : List Value) (sz : Nat) (e : TypeId) : Prop :=
  L.sz = sz ∧ (∀ x ∈ xs, x.oneCell' = true) ∧ ((L.nil = true ∧ L.cap = 0 ∧ xs = []) ∨
      (L.nil = false ∧ L.base = 0 ∧ ∃ ys : List Value, w.heap[L.blk]? = some (.cells ys.toArray e (0, 0)) ∧ (ys.length = L.cap * sz ∧ L.cap ≤ maxLen) ∧ xs <+: ys))

theorem regOk_row {ρ : Rho} {w : World} {h : Nat} {xs : List Value} {sz : Nat} {e : TypeId} : RegOk ρ w h (.row xs sz e true) ↔ RowAt (ρ h) w xs sz e := Iff.rfl

/-- What the kit's law of append says, and what is wanted here. -/
theorem ownsRow_of {L : Loc} {w : World} {B : Nat} {xs : List Value} {sz n : Nat} {e : TypeId} {v : Value} (h : RowAt L w xs sz e) (hs : SlRel L 0 n v) (hl : xs.length = n * sz) (hB : L.nil = false → B ≤ L.blk) : w.ownsRow B e sz v n xs := by
  refine ⟨hl, ?_⟩
  rcases hs with ⟨_, _, _, rfl, rfl⟩ | ⟨hn, hle, a, rfl, ha⟩
  · exact .inl ⟨rfl, rfl⟩
  · rw [ha (.inr rfl)]
    obtain ⟨h1, h2, ⟨h3, _⟩ | ⟨_, h4, ys, h5, ⟨h6, h7⟩, h8⟩⟩ := h
    · rw [h3] at hn; cases hn
    · refine .inr ⟨L.blk, L.cap, ys.toArray, by simp [h4], hB hn, h5, by omega, h7, by simpa using h6, ?_⟩
      obtain ⟨zs, rfl⟩ := h8
      rw [← hl]; simp

theorem of_ownsRow {w : World} {B : Nat} {xs : List Value} {sz n : Nat} {e : TypeId} {v : Value} (h : w.ownsRow B e sz v n xs) (h1 : ∀ x ∈ xs, x.oneCell' = true) : RowAt (locOf sz v) w xs sz e ∧ SlRel (locOf sz v) 0 n v := by
  obtain ⟨hl, ⟨rfl, rfl⟩ | ⟨g, cap, cur, rfl, hb, hg, hnc, hcm, hcs, htk⟩⟩ := h
  · have : xs = [] := List.eq_nil_of_length_eq_zero (by simpa using hl)
    subst this
    exact ⟨⟨rfl, h1, .inl ⟨rfl, rfl, rfl⟩⟩, .inl ⟨rfl, rfl, rfl, rfl, rfl⟩⟩
  · refine ⟨⟨rfl, h1, .inr ⟨rfl, rfl, cur.toList, by simpa [locOf] using hg, ⟨by simpa [locOf] using hcs, hcm⟩, ?_⟩⟩, .inr ⟨rfl, by simpa [locOf] using hnc, _, rfl, fun _ => by simp [locOf]⟩⟩
    rw [← htk]; exact List.take_prefix _ _

/-- What append is given to put behind: a slice's cells, or none. -/
inductive Gives (w : World) (sz : Nat) : Value → Nat → List Value → Prop where
  | none : Gives w sz (.slice none 0 0) 0 []
  | some (a : Addr) (m c : Nat) (news : List Value) : news.length = m * sz → (∀ j u, news[j]? = some u → w.cell? (a.add j) = some u) → (∀ u ∈ news, u.oneCell' = true) → Gives w sz (.slice (some a) m c) m news

theorem append_row {P : Program} {w : World} {L : Loc} {xs : List Value} {sz n : Nat} {e t ty : TypeId} {i : TypeInfo} {z v x : Value} {m : Nat} {news : List Value} (ht : P.underlying t = some (.slice e)) (hi : P.info? e = some i) (hz : i.zero = some z)
    (hsize : i.size = sz) (hzs : z.cells.size = sz) (hsz : 0 < sz) (h : RowAt L w xs sz e) (hs : SlRel L 0 n v) (hl : xs.length = n * sz) (hx : Gives w sz x m news) (h63 : n + m ≤ maxLen) (hby : (n + m) * i.bytes ≤ 140737488355328) :
    ∃ v' w', (Builtin.append_ #[t, t] ty #[v, x]).run P w = .ok v' w' ∧ RowAt (locOf sz v') w' (xs ++ news) sz e ∧ SlRel (locOf sz v') 0 (n + m) v' ∧ w.grownBy w' v.ownBlock ∧
      ((locOf sz v').nil = false → w.heap.size ≤ (locOf sz v').blk ∨ (L.nil = false ∧ (locOf sz v').blk = L.blk)) := by
  have hown := ownsRow_of (B := 0) h hs hl (fun _ => Nat.zero_le _)
  have hall : (∀ u ∈ news, u.oneCell' = true) → ∀ u ∈ xs ++ news, u.oneCell' = true := fun h1 u hu => by
    rcases List.mem_append.1 hu with hu | hu
    · exact h.2.1 u hu
    · exact h1 u hu
  have fresh : ∀ {v' : Value} {w' : World} {ys : List Value} {k : Nat}, w'.ownsRow w.heap.size e sz v' k ys → (locOf sz v').nil = false → w.heap.size ≤ (locOf sz v').blk := by
    intro v' w' ys k ho hn
    rcases ho.2 with ⟨rfl, _⟩ | ⟨g, cap, cur, rfl, hb, _⟩
    · cases hn
    · exact hb
  have hself : v.ownBlock = none ∨ (L.nil = false ∧ v = .slice (some ⟨L.blk, 0, none⟩) n L.cap ∧ n ≤ L.cap) := by
    rcases hs with ⟨_, _, _, rfl, rfl⟩ | ⟨hn, hle, a, rfl, ha⟩
    · exact .inl rfl
    · refine .inr ⟨hn, ?_, by omega⟩
      rw [ha (.inr rfl)]
      obtain ⟨h1, h2, ⟨h3, _⟩ | ⟨_, h4, ys, h5, ⟨h6, h7⟩, h8⟩⟩ := h
      · rw [h3] at hn; cases hn
      · simp [h4]
  cases hx with
  | none =>
    refine ⟨v, w, run_append_owned_none w 0 t ty e i sz ht hi v n xs hown, ?_⟩
    obtain ⟨g1, g2⟩ := of_ownsRow hown h.2.1
    rw [List.append_nil, Nat.add_zero]
    refine ⟨g1, g2, ⟨rfl, rfl, rfl, Nat.le_refl _, fun _ _ _ => rfl⟩, fun hn => .inr ?_⟩
    rcases hself with h1 | ⟨h1, rfl, _⟩
    · cases v with
      | slice ao nn cc =>
        cases ao with
        | none => cases hn
        | some a => cases h1
      | _ => cases hn
    · exact ⟨h1, rfl⟩
  | some a m c news hl2 hnews h1 =>
    rcases hself with h2 | ⟨h2, rfl, h3⟩
    · have hv : v = .slice none 0 0 ∧ n = 0 := by
        rcases hown.2 with h4 | ⟨g, cap, cur, rfl, _⟩
        · exact h4
        · cases h2
      obtain ⟨rfl, rfl⟩ := hv
      obtain rfl : xs = [] := List.eq_nil_of_length_eq_zero (by simpa using hl)
      obtain ⟨v', w', hr, ho, hg, _⟩ := run_append_own w w.heap.size t ty e i z sz i.bytes ht hi hz hsize rfl hzs hsz _ _ _ (World.ownsRow_nil w _ e sz) a m c news hl2 hnews h1 h63 hby (Nat.le_refl _)
      obtain ⟨g1, g2⟩ := of_ownsRow ho (hall h1)
      exact ⟨v', w', hr, g1, g2, hg, fun hn => .inl (fresh ho hn)⟩
    · by_cases hroom : n + m ≤ L.cap
      · obtain ⟨w', hr, ho, hg⟩ := run_append_fits w 0 t ty e i sz ht hi hsize L.blk n L.cap xs hown a m c news hl2 hnews h1 hroom
        obtain ⟨g1, g2⟩ := of_ownsRow ho (hall h1)
        exact ⟨_, w', hr, g1, g2, hg, fun hn => .inr ⟨h2, rfl⟩⟩
      · obtain ⟨_, h4⟩ := hown
        have holds : ∀ j u, xs[j]? = some u → w.cell? (Addr.add ⟨L.blk, 0, none⟩ j) = some u := by
          intro j u hj
          obtain ⟨q1, q2, ⟨q3, _⟩ | ⟨_, q4, ys, q5, ⟨q6, q7⟩, zs, q8⟩⟩ := h
          · rw [q3] at h2; cases h2
          · have hlt := (List.getElem?_eq_some_iff.1 hj).1
            rw [addr_add]
            simp only [World.cell?, q5, Nat.zero_add]
            rw [← q8]
            simp [List.getElem?_append_left hlt, hj]
        obtain ⟨v', w', hr, ho, hg⟩ := run_append_arg_grows (P := P) w t ty e i z sz i.bytes ht hi hz hsize rfl hzs hsz ⟨L.blk, 0, none⟩ n L.cap xs hl holds a m c news hl2 hnews (by omega) h63 hby
        obtain ⟨g1, g2⟩ := of_ownsRow ho (hall h1)
        exact ⟨v', w', hr, g1, g2, ⟨hg.os, hg.tape, hg.output, hg.size, fun k hk _ => hg.block k hk (by simp)⟩, fun hn => .inl (fresh ho hn)⟩

theorem goneOf_get (ho : Option Nat) (k : Nat) : regGet (goneOf ho) k = if ho = some k then some .gone else none := by
  cases ho with
  | none => simp [goneOf, regGet]
  | some h =>
    simp only [goneOf, regGet, cond_eq_ite, Option.some.injEq]
    by_cases e : h = k
    · subst e; simp
    · rw [if_neg (fun hb => e (Nat.eq_of_beq_eq_true hb)), if_neg e]

/-- An operation that lays a row of one's own, new or where an old one lay. -/
theorem opOk_grow {P : Program} {o : Oper} {env : Env} {m : M} {sz n : Nat} {e : TypeId} {r : List Value} (ho : Option Nat) (hreg : ∀ h, ho = some h → ∃ z, m.reg h = some z ∧ z.own = true ∧ ∀ r, tied z r = false)
    (hx : ∀ (B : Nat) (w0 : World) (ρ : Rho) (a : Act) (w : World), EnvOk ρ env a → MOk P B w0 ρ m w → ∃ y w' ob, (execOp a.eval o).run P w = .ok (.value y) w' ∧ RowAt (locOf sz y) w' r sz e ∧ SlRel (locOf sz y) 0 n y ∧ w.grownBy w' ob ∧
      (∀ k, ob = some k → ∃ h, ho = some h ∧ (ρ h).nil = false ∧ k = (ρ h).blk) ∧ ((locOf sz y).nil = false → w.heap.size ≤ (locOf sz y).blk ∨ ∃ h, ho = some h ∧ (ρ h).nil = false ∧ (locOf sz y).blk = (ρ h).blk)) :
    OpOk P o env m { val := .t (.one (.sl m.nh 0 n)), regs := (m.nh, .row r sz e true) :: goneOf ho, nh := m.nh + 1 } := by
  refine ⟨Nat.le_succ _, fun nt B w0 D ρ a w hD hok => ?_⟩
  obtain ⟨y, w', ob, hy, _⟩ := hx B w0 ρ a w (hok.env ρ (Agree.refl _ _)) (hok.mem ρ (Agree.refl _ _))
  have hnD : ¬ D m.nh := hD m.nh ⟨Nat.le_refl _, Nat.lt_succ_self _⟩
  refine ⟨y, w', upd ρ m.nh (locOf sz y), .inl hy, upd_agree ρ _ hnD, fun ρ'' hag => ?_⟩
  have hL : ρ'' m.nh = locOf sz y := (hag m.nh (.inr ⟨Nat.le_refl _, Nat.lt_succ_self _⟩)).trans (upd_same _ _ _)
  have hag' : Agree D ρ ρ'' := fun k hk => (hag k (.inl hk)).trans (upd_agree ρ _ hnD k hk)
  have hm := hok.mem ρ'' hag'
  obtain ⟨y', w2, ob, hy', h1, h2, h3, h4, h5⟩ := hx B w0 ρ'' a w (hok.env ρ'' hag') hm
  rw [hy] at hy'
  cases hy'
  refine ⟨?_, by show SlRel (ρ'' m.nh) 0 n y; rw [hL]; exact h2⟩
  have hBs : B ≤ w.heap.size := Nat.le_trans hm.hB hm.below.size
  have hcase : ∀ k z, (m.app { val := .t (.one (.sl m.nh 0 n)), regs := (m.nh, .row r sz e true) :: goneOf ho, nh := m.nh + 1 }).reg k = some z →
      (k = m.nh ∧ z = .row r sz e true) ∨ z = .gone ∨ (k ≠ m.nh ∧ m.reg k = some z ∧ ∀ h, ho = some h → k ≠ h) := by
    intro k z hz
    rw [reg_app] at hz
    simp only [regGet, cond_eq_ite] at hz
    split at hz
    · rename_i he
      simp at hz
      exact .inl ⟨(Nat.eq_of_beq_eq_true he).symm, hz.symm⟩
    · rename_i he
      have hne : k ≠ m.nh := fun e => he (by rw [e]; exact Nat.beq_refl _)
      rw [goneOf_get] at hz
      split at hz
      · simp at hz; exact .inr (.inl hz.symm)
      · rename_i he2
        simp at hz
        exact .inr (.inr ⟨hne, hz, fun h' e => fun e' => he2 (by rw [e, e'])⟩)
  -- a block that stands, of another region
  have hother : ∀ k z, m.reg k = some z → (∀ h, ho = some h → k ≠ h) → z.live = true → (ρ'' k).nil = false → (ρ'' k).blk < w.heap.size ∧ some (ρ'' k).blk ≠ ob ∧ ∀ h, ho = some h → (ρ'' h).nil = false → (ρ'' k).blk ≠ (ρ'' h).blk := by
    intro k z hz hk hl hn
    have hd : ∀ h, ho = some h → (ρ'' h).nil = false → (ρ'' k).blk ≠ (ρ'' h).blk := by
      intro h hh hnh
      obtain ⟨zh, g1, g2, g3⟩ := hreg h hh
      exact (hm.dist _ _ _ _ g1 hz (fun e => hk h hh e.symm) (g3 _) g2 hl hnh hn).symm
    refine ⟨(hm.regs _ _ hz).lt hn hl, fun hob => ?_, hd⟩
    obtain ⟨h, g1, g2, g3⟩ := h4 _ hob.symm
    exact hd h g1 g2 g3
  refine ⟨fun k z hz => ?_, fun k k' z z' hz hz' hne ht hown hl hn hn' => ?_, fun k z hz hown hn => ?_, hm.below.trans ⟨h3.os, h3.tape, h3.output, h3.size, fun k hk => h3.block k (by omega) fun hob => ?_⟩, hm.hB⟩
  · rcases hcase k z hz with ⟨rfl, rfl⟩ | rfl | ⟨_, hz, hk⟩
    · exact regOk_row.2 (by rw [hL]; exact h1)
    · trivial
    · exact (hm.regs _ _ hz).same (fun hn hl => h3.block _ (hother k z hz hk hl hn).1 (hother k z hz hk hl hn).2.1) h3.size
  · have key : ∀ k z, m.reg k = some z → (∀ h, ho = some h → k ≠ h) → z.live = true → (ρ'' k).nil = false → (ρ'' m.nh).nil = false → (ρ'' m.nh).blk ≠ (ρ'' k).blk := by
      intro k z hz hk hl hn hn0
      obtain ⟨q1, q2, q3⟩ := hother k z hz hk hl hn
      rw [hL] at hn0 ⊢
      rcases h5 hn0 with h6 | ⟨h, h6, h7, h8⟩
      · omega
      · rw [h8]; exact (q3 h h6 h7).symm
    rcases hcase k z hz with ⟨rfl, rfl⟩ | rfl | ⟨_, hz, hk⟩
    · rcases hcase k' z' hz' with ⟨rfl, rfl⟩ | rfl | ⟨_, hz', hk'⟩
      · exact absurd rfl hne
      · cases hl
      · exact key k' z' hz' hk' hl hn' hn
    · cases hown
    · rcases hcase k' z' hz' with ⟨rfl, rfl⟩ | rfl | ⟨_, hz', hk'⟩
      · exact (key k z hz hk (Reg.live_of_own hown) hn hn').symm
      · cases hl
      · exact hm.dist _ _ _ _ hz hz' hne ht hown hl hn hn'
  · rcases hcase k z hz with ⟨rfl, rfl⟩ | rfl | ⟨_, hz, hk⟩
    · rw [hL] at hn ⊢
      rcases h5 hn with h6 | ⟨h, h6, h7, h8⟩
      · omega
      · rw [h8]
        obtain ⟨zh, g1, g2, _⟩ := hreg h h6
        exact hm.base _ _ g1 g2 h7
    · cases hown
    · exact hm.base _ _ hz hown hn
  · obtain ⟨h, g1, g2, g3⟩ := h4 _ hob.symm
    obtain ⟨zh, q1, q2, _⟩ := hreg h g1
    have := hm.base _ _ q1 q2 g2
    omega

/-- The same, of any region of one's own. -/
theorem opOk_growG {P : Program} {o : Oper} {env : Env} {m : M} {sz n : Nat} (r : Unit → Reg) (hrown : (r ()).own = true) (ho : Option Nat) (hreg : ∀ h, ho = some h → ∃ z, m.reg h = some z ∧ z.own = true ∧ ∀ r, tied z r = false)
    (hx : ∀ (B : Nat) (w0 : World) (ρ : Rho) (a : Act) (w : World), EnvOk ρ env a → MOk P B w0 ρ m w → ∃ y w' ob, (execOp a.eval o).run P w = .ok (.value y) w' ∧ (ρ m.nh = locOf sz y → RegOk ρ w' m.nh (r ())) ∧ SlRel (locOf sz y) 0 n y ∧ w.grownBy w' ob ∧
      (∀ k, ob = some k → ∃ h, ho = some h ∧ (ρ h).nil = false ∧ k = (ρ h).blk) ∧ ((locOf sz y).nil = false → w.heap.size ≤ (locOf sz y).blk ∨ ∃ h, ho = some h ∧ (ρ h).nil = false ∧ (locOf sz y).blk = (ρ h).blk)) :
    OpOk P o env m { val := .t (.one (.sl m.nh 0 n)), regs := (m.nh, r ()) :: goneOf ho, nh := m.nh + 1 } := by
  refine ⟨Nat.le_succ _, fun nt B w0 D ρ a w hD hok => ?_⟩
  obtain ⟨y, w', ob, hy, _⟩ := hx B w0 ρ a w (hok.env ρ (Agree.refl _ _)) (hok.mem ρ (Agree.refl _ _))
  have hnD : ¬ D m.nh := hD m.nh ⟨Nat.le_refl _, Nat.lt_succ_self _⟩
  refine ⟨y, w', upd ρ m.nh (locOf sz y), .inl hy, upd_agree ρ _ hnD, fun ρ'' hag => ?_⟩
  have hL : ρ'' m.nh = locOf sz y := (hag m.nh (.inr ⟨Nat.le_refl _, Nat.lt_succ_self _⟩)).trans (upd_same _ _ _)
  have hag' : Agree D ρ ρ'' := fun k hk => (hag k (.inl hk)).trans (upd_agree ρ _ hnD k hk)
  have hm := hok.mem ρ'' hag'
  obtain ⟨y', w2, ob, hy', h1, h2, h3, h4, h5⟩ := hx B w0 ρ'' a w (hok.env ρ'' hag') hm
  rw [hy] at hy'
  cases hy'
  refine ⟨?_, by show SlRel (ρ'' m.nh) 0 n y; rw [hL]; exact h2⟩
  have hBs : B ≤ w.heap.size := Nat.le_trans hm.hB hm.below.size
  have hcase : ∀ k z, (m.app { val := .t (.one (.sl m.nh 0 n)), regs := (m.nh, r ()) :: goneOf ho, nh := m.nh + 1 }).reg k = some z →
      (k = m.nh ∧ z = r ()) ∨ z = .gone ∨ (k ≠ m.nh ∧ m.reg k = some z ∧ ∀ h, ho = some h → k ≠ h) := by
    intro k z hz
    rw [reg_app] at hz
    simp only [regGet, cond_eq_ite] at hz
    split at hz
    · rename_i he
      simp at hz
      exact .inl ⟨(Nat.eq_of_beq_eq_true he).symm, hz.symm⟩
    · rename_i he
      have hne : k ≠ m.nh := fun e => he (by rw [e]; exact Nat.beq_refl _)
      rw [goneOf_get] at hz
      split at hz
      · simp at hz; exact .inr (.inl hz.symm)
      · rename_i he2
        simp at hz
        exact .inr (.inr ⟨hne, hz, fun h' e => fun e' => he2 (by rw [e, e'])⟩)
  -- a block that stands, of another region
  have hother : ∀ k z, m.reg k = some z → (∀ h, ho = some h → k ≠ h) → z.live = true → (ρ'' k).nil = false → (ρ'' k).blk < w.heap.size ∧ some (ρ'' k).blk ≠ ob ∧ ∀ h, ho = some h → (ρ'' h).nil = false → (ρ'' k).blk ≠ (ρ'' h).blk := by
    intro k z hz hk hl hn
    have hd : ∀ h, ho = some h → (ρ'' h).nil = false → (ρ'' k).blk ≠ (ρ'' h).blk := by
      intro h hh hnh
      obtain ⟨zh, g1, g2, g3⟩ := hreg h hh
      exact (hm.dist _ _ _ _ g1 hz (fun e => hk h hh e.symm) (g3 _) g2 hl hnh hn).symm
    refine ⟨(hm.regs _ _ hz).lt hn hl, fun hob => ?_, hd⟩
    obtain ⟨h, g1, g2, g3⟩ := h4 _ hob.symm
    exact hd h g1 g2 g3
  refine ⟨fun k z hz => ?_, fun k k' z z' hz hz' hne ht hown hl hn hn' => ?_, fun k z hz hown hn => ?_, hm.below.trans ⟨h3.os, h3.tape, h3.output, h3.size, fun k hk => h3.block k (by omega) fun hob => ?_⟩, hm.hB⟩
  · rcases hcase k z hz with ⟨rfl, rfl⟩ | rfl | ⟨_, hz, hk⟩
    · exact h1 hL
    · trivial
    · exact (hm.regs _ _ hz).same (fun hn hl => h3.block _ (hother k z hz hk hl hn).1 (hother k z hz hk hl hn).2.1) h3.size
  · have key : ∀ k z, m.reg k = some z → (∀ h, ho = some h → k ≠ h) → z.live = true → (ρ'' k).nil = false → (ρ'' m.nh).nil = false → (ρ'' m.nh).blk ≠ (ρ'' k).blk := by
      intro k z hz hk hl hn hn0
      obtain ⟨q1, q2, q3⟩ := hother k z hz hk hl hn
      rw [hL] at hn0 ⊢
      rcases h5 hn0 with h6 | ⟨h, h6, h7, h8⟩
      · omega
      · rw [h8]; exact (q3 h h6 h7).symm
    rcases hcase k z hz with ⟨rfl, rfl⟩ | rfl | ⟨_, hz, hk⟩
    · rcases hcase k' z' hz' with ⟨rfl, rfl⟩ | rfl | ⟨_, hz', hk'⟩
      · exact absurd rfl hne
      · cases hl
      · exact key k' z' hz' hk' hl hn' hn
    · cases hown
    · rcases hcase k' z' hz' with ⟨rfl, rfl⟩ | rfl | ⟨_, hz', hk'⟩
      · exact (key k z hz hk (Reg.live_of_own hown) hn hn').symm
      · cases hl
      · exact hm.dist _ _ _ _ hz hz' hne ht hown hl hn hn'
  · rcases hcase k z hz with ⟨rfl, rfl⟩ | rfl | ⟨_, hz, hk⟩
    · rw [hL] at hn ⊢
      rcases h5 hn with h6 | ⟨h, h6, h7, h8⟩
      · omega
      · rw [h8]
        obtain ⟨zh, g1, g2, _⟩ := hreg h h6
        exact hm.base _ _ g1 g2 h7
    · cases hown
    · exact hm.base _ _ hz hown hn
  · obtain ⟨h, g1, g2, g3⟩ := h4 _ hob.symm
    obtain ⟨zh, q1, q2, _⟩ := hreg h g1
    have := hm.base _ _ q1 q2 g2
    omega

/-- An operation that lays one new region, and touches nothing else. -/
theorem opOk_newR {P : Program} {o : Oper} {env : Env} {m : M} {x : X} {r : Reg}
    (hf : ∃ f : Value → World → Loc, ∀ (B : Nat) (w0 : World) (ρ : Rho) (a : Act) (w : World), EnvOk ρ env a → MOk P B w0 ρ m w → ∃ y w', (execOp a.eval o).run P w = .ok (.value y) w' ∧ w.grownBy w' none ∧
      w.heap.size ≤ (f y w).blk ∧ (ρ m.nh = f y w → RegOk ρ w' m.nh r ∧ x.Rel ρ y)) :
    OpOk P o env m { val := x, regs := [(m.nh, r)], nh := m.nh + 1 } := by
  obtain ⟨f, hx⟩ := hf
  refine ⟨Nat.le_succ _, fun nt B w0 D ρ a w hD hok => ?_⟩
  obtain ⟨y, w', hy, hg, hb, _⟩ := hx B w0 ρ a w (hok.env ρ (Agree.refl _ _)) (hok.mem ρ (Agree.refl _ _))
  have hnD : ¬ D m.nh := hD m.nh ⟨Nat.le_refl _, Nat.lt_succ_self _⟩
  refine ⟨y, w', upd ρ m.nh (f y w), .inl hy, upd_agree ρ _ hnD, fun ρ'' hag => ?_⟩
  have hL : ρ'' m.nh = f y w := (hag m.nh (.inr ⟨Nat.le_refl _, Nat.lt_succ_self _⟩)).trans (upd_same _ _ _)
  have hag' : Agree D ρ ρ'' := fun k hk => (hag k (.inl hk)).trans (upd_agree ρ _ hnD k hk)
  have hm := hok.mem ρ'' hag'
  obtain ⟨y', w2, hy', hg', hb', hlast⟩ := hx B w0 ρ'' a w (hok.env ρ'' hag') hm
  rw [hy] at hy'
  cases hy'
  obtain ⟨hr, hxr⟩ := hlast hL
  refine ⟨?_, hxr⟩
  have hBs : B ≤ w.heap.size := Nat.le_trans hm.hB hm.below.size
  have hcase : ∀ k z, (m.app { val := x, regs := [(m.nh, r)], nh := m.nh + 1 }).reg k = some z → (k = m.nh ∧ z = r) ∨ (k ≠ m.nh ∧ m.reg k = some z) := by
    intro k z hz
    rw [reg_app] at hz
    simp only [regGet, cond_eq_ite] at hz
    split at hz
    · rename_i he
      simp at hz
      exact .inl ⟨(Nat.eq_of_beq_eq_true he).symm, hz.symm⟩
    · rename_i he
      simp at hz
      exact .inr ⟨fun e => he (by rw [e]; exact Nat.beq_refl _), hz⟩
  refine ⟨fun k z hz => ?_, fun k k' z z' hz hz' hne ht hown hl hn hn' => ?_, fun k z hz hown hn => ?_, hm.below.trans ⟨hg.os, hg.tape, hg.output, hg.size, fun k hk => hg.block k (by omega) (by simp)⟩, hm.hB⟩
  · rcases hcase k z hz with ⟨rfl, rfl⟩ | ⟨_, hz⟩
    · exact hr
    · exact (hm.regs _ _ hz).same (fun hn hl => hg.block _ ((hm.regs _ _ hz).lt hn hl) (by simp)) hg.size
  · rcases hcase k z hz with ⟨rfl, rfl⟩ | ⟨_, f1⟩ <;> rcases hcase k' z' hz' with ⟨rfl, rfl⟩ | ⟨_, f2⟩
    · exact absurd rfl hne
    · have := (hm.regs _ _ f2).lt hn' hl
      rw [hL]; omega
    · have := (hm.regs _ _ f1).lt hn (Reg.live_of_own hown)
      rw [hL]; omega
    · exact hm.dist _ _ _ _ f1 f2 hne ht hown hl hn hn'
  · rcases hcase k z hz with ⟨rfl, rfl⟩ | ⟨_, hz⟩
    · rw [hL]; omega
    · exact hm.base _ _ hz hown hn

end Go.SE

namespace Go.SE
open Go Go.RowKit

variable {P : Program}

theorem S.bool?_rel {ρ : Rho} {s : S} {y : Value} {c kn : Bool} (hs : s.bool? = some (c, kn)) (h : s.Rel ρ y) : y = .bool c := by
  cases s <;> simp [S.bool?] at hs
  case v v => cases v <;> simp at hs; obtain ⟨rfl, rfl⟩ := hs; exact h.1
  case b => obtain ⟨rfl, rfl⟩ := hs; exact h

theorem S.str?_rel {ρ : Rho} {s : S} {y : Value} {x : ByteArray} (hs : s.str? = some x) (h : s.Rel ρ y) : y = .string x := by
  cases s <;> simp [S.str?] at hs
  case v v => cases v <;> simp at hs; subst hs; exact h.1

theorem andK_some {a b : Option (Bool × Bool)} {c kn : Bool} (h : andK a b = some (c, kn)) : ∃ x kx y ky, a = some (x, kx) ∧ b = some (y, ky) ∧ c = (x && y) := by
  unfold andK at h
  split at h
  · rename_i x kx y ky
    simp only [Option.some.injEq, Prod.mk.injEq] at h
    exact ⟨x, kx, y, ky, rfl, rfl, h.1.symm⟩
  · cases h

theorem partT_run {ρ : Rho} {t : TypeId} {xs : List S} {ys : List Value} {off : Nat} {x : T} (h : partT P t xs off = some x) (hr : LRel ρ xs ys) (w : World) : ∃ v, (part t ys.toArray off).run P w = .ok v w ∧ x.Rel ρ v := by
  unfold partT at h
  split at h
  · rename_i ha
    cases h
    have hd : ∃ d, P.underlying t = some d := by
      unfold isAggT at ha
      cases hu : P.underlying t with
      | none => simp [hu] at ha
      | some d => exact ⟨d, rfl⟩
    obtain ⟨d, hd⟩ := hd
    refine ⟨.agg ((ys.drop off).take (P.cellsOf t)).toArray, ?_, _, rfl, hr.cut _ _⟩
    simp only [part, Sem.run_bind, run_isAgg ha, Result.andThen_ok, run_sizeOf' hd, if_true, Sem.run_pure]
    congr 2
    apply Array.ext'
    simp [List.extract_eq_take_drop]
  · rename_i ha
    split at h
    · rename_i s hs
      cases h
      obtain ⟨v, hv, hrel⟩ := hr.nth hs
      refine ⟨v, ?_, hrel⟩
      simp [part, run_isAgg ha, hv]
    · cases h
  · cases h

theorem eqS_run {ρ : Rho} {t : TypeId} {x y : S} {a b : Value} {c kn : Bool} (h : eqS P t x y = some (c, kn)) (hx : x.Rel ρ a) (hy : y.Rel ρ b) (D : Nat) (w : World) : (Op.equalIn (D + 1) t a b).run P w = .ok c w := by
  unfold eqS at h
  split at h
  · rename_i k hk
    split at h
    · rename_i h1 h2
      split at h
      · rename_i hkk
        subst hkk
        simp only [Option.some.injEq, Prod.mk.injEq] at h
        obtain ⟨rfl, _⟩ := h
        rw [S.int?_rel h1 hx, S.int?_rel h2 hy]
        simp [Op.equalIn, run_underlying hk]
      · cases h
    · cases h
  · rename_i hk
    split at h
    · rename_i h1 h2
      simp only [Option.some.injEq, Prod.mk.injEq] at h
      obtain ⟨rfl, _⟩ := h
      rw [S.bool?_rel h1 hx, S.bool?_rel h2 hy]
      simp [Op.equalIn, run_underlying hk]
    · cases h
  · rename_i hk
    split at h
    · rename_i h1 h2
      simp only [Option.some.injEq, Prod.mk.injEq] at h
      obtain ⟨rfl, _⟩ := h
      rw [S.str?_rel h1 hx, S.str?_rel h2 hy]
      simp [Op.equalIn, run_underlying hk]
    · cases h
  · cases h

/-- What a test of two parts is to come to. -/
def EqRun (P : Program) (ρ : Rho) (D : Nat) (g : TypeId → T → T → Option (Bool × Bool)) : Prop :=
  ∀ t x y a b c kn, g t x y = some (c, kn) → T.Rel ρ x a → T.Rel ρ y b → ∀ w, (Op.equalIn D t a b).run P w = .ok c w

theorem eqFs_run {ρ : Rho} {D : Nat} {g : TypeId → T → T → Option (Bool × Bool)} (hg : EqRun P ρ D g) {xs ys : List S} {as bs : List Value} (hx : LRel ρ xs as) (hy : LRel ρ ys bs) (w : World) : ∀ (fs : List Field) (c kn : Bool), eqFsWith P g xs ys fs = some (c, kn) →
    ((forIn fs ((none, ()) : Option Bool × Unit) fun f _ =>
      if f.name ≠ "_" then do
        let p ← part f.type as.toArray f.offset
        let q ← part f.type bs.toArray f.offset
        let e ← Op.equalIn D f.type p q
        if (!e) = true then pure (ForInStep.done (some false, ())) else pure (ForInStep.yield (none, ()))
      else pure (ForInStep.yield (none, ()))) : Sem _).run P w = .ok (if c then none else some false, ()) w := by
  intro fs
  induction fs with
  | nil => intro c kn h; simp [eqFsWith] at h; obtain ⟨rfl, _⟩ := h; simp
  | cons f fs ih =>
    intro c kn h
    simp only [eqFsWith, cond_eq_ite] at h
    split at h
    · cases h
    · rename_i hn
      obtain ⟨x, kx, y, ky, h1, h2, rfl⟩ := andK_some h
      unfold eqPart at h1
      split at h1
      · rename_i p q hp hq
        obtain ⟨u, hu, hru⟩ := partT_run hp hx w
        obtain ⟨v, hv, hrv⟩ := partT_run hq hy w
        have he := hg _ _ _ _ _ _ _ h1 hru hrv w
        have hne : f.name ≠ "_" := by simpa using hn
        rw [List.forIn_cons]
        simp only [hne, ne_eq, not_false_eq_true, if_true, Sem.run_bind, hu, hv, he, Result.andThen_ok]
        cases x
        · simp
        · simp only [Bool.not_true, Bool.false_eq_true, if_false, Sem.run_pure, Result.andThen_ok, Bool.true_and]
          exact ih _ _ h2
      · cases h1

theorem eqArr_run {ρ : Rho} {D : Nat} {g : TypeId → T → T → Option (Bool × Bool)} (hg : EqRun P ρ D g) {xs ys : List S} {as bs : List Value} (hx : LRel ρ xs as) (hy : LRel ρ ys bs) (e n : Nat) (w : World) : ∀ (len i : Nat) (c kn : Bool), eqArrWith P g e xs ys n len i = some (c, kn) →
    ((forIn (List.range' i len) ((none, ()) : Option Bool × Unit) fun i _ => do
        let p ← part e as.toArray (i * n)
        let q ← part e bs.toArray (i * n)
        let z ← Op.equalIn D e p q
        if (!z) = true then pure (ForInStep.done (some false, ())) else pure (ForInStep.yield (none, ()))) : Sem _).run P w = .ok (if c then none else some false, ()) w := by
  intro len
  induction len with
  | zero => intro i c kn h; simp [eqArrWith] at h; obtain ⟨rfl, _⟩ := h; simp
  | succ len ih =>
    intro i c kn h
    simp only [eqArrWith] at h
    obtain ⟨x, kx, y, ky, h1, h2, rfl⟩ := andK_some h
    unfold eqPart at h1
    split at h1
    · rename_i p q hp hq
      obtain ⟨u, hu, hru⟩ := partT_run hp hx w
      obtain ⟨v, hv, hrv⟩ := partT_run hq hy w
      have he := hg _ _ _ _ _ _ _ h1 hru hrv w
      rw [List.range'_succ, List.forIn_cons]
      simp only [Sem.run_bind, hu, hv, he, Result.andThen_ok]
      cases x
      · simp
      · simp only [Bool.not_true, Bool.false_eq_true, if_false, Sem.run_pure, Result.andThen_ok, Bool.true_and]
        exact ih _ _ _ h2
    · cases h1

theorem eqT_run {ρ : Rho} : ∀ (d : Nat) {D : Nat}, d ≤ D → EqRun P ρ D (eqT P d)
  | 0, D, _ => by intro t x y a b c kn h; simp [eqT] at h
  | d + 1, D + 1, hd => by
    intro t x y a b c kn h hx hy w
    cases x with
    | one x => cases y with
      | one y => exact eqS_run h hx hy D w
      | agg ys => simp [eqT] at h
    | agg xs => cases y with
      | one y => simp [eqT] at h
      | agg ys =>
        obtain ⟨as, rfl, hx⟩ := hx
        obtain ⟨bs, rfl, hy⟩ := hy
        simp only [eqT] at h
        have ih := eqT_run (ρ := ρ) d (D := D) (by omega)
        split at h
        · rename_i fs hu
          simp only [cond_eq_ite] at h
          split at h
          · cases h
          · rename_i hst
            have := eqFs_run ih hx hy w fs.toList c kn h
            unfold Op.equalIn
            simp only [Sem.run_bind, run_underlying hu, Result.andThen_ok]
            have hp : (program : Sem Program).run P w = .ok P w := rfl
            simp only [hp, Result.andThen_ok, hst, Bool.false_eq_true, if_false, Sem.run_bind]
            rw [← Array.forIn_toList, this]
            cases c <;> simp
        · rename_i len e hu
          simp only [cond_eq_ite] at h
          split at h
          · rename_i hi
            replace hi := (Bool.and_eq_true _ _ ▸ hi).1
            have := eqArr_run ih hx hy e (P.cellsOf e) w len 0 c kn h
            unfold Op.equalIn
            simp only [Sem.run_bind, run_underlying hu, Result.andThen_ok]
            obtain ⟨inf, hinf⟩ := Option.isSome_iff_exists.1 hi
            simp only [run_sizeOf w hinf, Result.andThen_ok, Std.Legacy.Range.forIn_eq_forIn_range', Std.Legacy.Range.size, Nat.sub_zero, Nat.add_sub_cancel, Nat.div_one]
            rw [this]
            cases c <;> simp
          · cases h
        · cases h

/-- What the guard of a comparison says of two parts. -/
def GuardRun (P : Program) (ρ : Rho) (D : Nat) (g : TypeId → T → T → Option (Bool × Bool)) : Prop :=
  ∀ t x y a b r, g t x y = some r → T.Rel ρ x a → T.Rel ρ y b → ∀ w, (Op.eqGuardIn D t a b).run P w = .ok false w

theorem eqFs_guard {ρ : Rho} {D : Nat} {g : TypeId → T → T → Option (Bool × Bool)} (hg : GuardRun P ρ D g) {xs ys : List S} {as bs : List Value} (hx : LRel ρ xs as) (hy : LRel ρ ys bs) (w : World) : ∀ (fs : List Field) (r : Bool × Bool), eqFsWith P g xs ys fs = some r →
    ((forIn fs ((none, ()) : Option Bool × Unit) fun f _ =>
      if f.name ≠ "_" then do
        let p ← part f.type as.toArray f.offset
        let q ← part f.type bs.toArray f.offset
        let e ← Op.eqGuardIn D f.type p q
        if e = true then pure (ForInStep.done (some true, ())) else pure (ForInStep.yield (none, ()))
      else pure (ForInStep.yield (none, ()))) : Sem _).run P w = .ok (none, ()) w := by
  intro fs
  induction fs with
  | nil => intro r h; simp
  | cons f fs ih =>
    intro r h
    obtain ⟨c, kn⟩ := r
    simp only [eqFsWith, cond_eq_ite] at h
    split at h
    · cases h
    · rename_i hn
      obtain ⟨x, kx, y, ky, h1, h2, rfl⟩ := andK_some h
      unfold eqPart at h1
      split at h1
      · rename_i p q hp hq
        obtain ⟨u, hu, hru⟩ := partT_run hp hx w
        obtain ⟨v, hv, hrv⟩ := partT_run hq hy w
        have he := hg _ _ _ _ _ _ h1 hru hrv w
        have hne : f.name ≠ "_" := by simpa using hn
        rw [List.forIn_cons]
        simp only [hne, ne_eq, not_false_eq_true, if_true, Sem.run_bind, hu, hv, he, Result.andThen_ok, Bool.false_eq_true, if_false, Sem.run_pure]
        exact ih _ h2
      · cases h1

theorem eqArr_guard {ρ : Rho} {D : Nat} {g : TypeId → T → T → Option (Bool × Bool)} (hg : GuardRun P ρ D g) {xs ys : List S} {as bs : List Value} (hx : LRel ρ xs as) (hy : LRel ρ ys bs) (e n : Nat) (w : World) : ∀ (len i : Nat) (r : Bool × Bool), eqArrWith P g e xs ys n len i = some r →
    ((forIn (List.range' i len) ((none, ()) : Option Bool × Unit) fun i _ => do
        let p ← part e as.toArray (i * n)
        let q ← part e bs.toArray (i * n)
        let z ← Op.eqGuardIn D e p q
        if z = true then pure (ForInStep.done (some true, ())) else pure (ForInStep.yield (none, ()))) : Sem _).run P w = .ok (none, ()) w := by
  intro len
  induction len with
  | zero => intro i r h; simp
  | succ len ih =>
    intro i r h
    obtain ⟨c, kn⟩ := r
    simp only [eqArrWith] at h
    obtain ⟨x, kx, y, ky, h1, h2, rfl⟩ := andK_some h
    unfold eqPart at h1
    split at h1
    · rename_i p q hp hq
      obtain ⟨u, hu, hru⟩ := partT_run hp hx w
      obtain ⟨v, hv, hrv⟩ := partT_run hq hy w
      have he := hg _ _ _ _ _ _ h1 hru hrv w
      rw [List.range'_succ, List.forIn_cons]
      simp only [Sem.run_bind, hu, hv, he, Result.andThen_ok, Bool.false_eq_true, if_false, Sem.run_pure]
      exact ih _ _ h2
    · cases h1

theorem eqT_guard {ρ : Rho} : ∀ (d : Nat) {D : Nat}, d ≤ D → GuardRun P ρ D (eqT P d)
  | 0, D, _ => by intro t x y a b r h; simp [eqT] at h
  | d + 1, D + 1, hd => by
    intro t x y a b r h hx hy w
    cases x with
    | one x => cases y with
      | one y =>
        simp only [eqT] at h
        unfold eqS at h
        unfold Op.eqGuardIn
        split at h <;> first | (rename_i hu; simp [run_underlying hu]; done) | (rename_i k hu; simp [run_underlying hu]; done) | cases h
      | agg ys => simp [eqT] at h
    | agg xs => cases y with
      | one y => simp [eqT] at h
      | agg ys =>
        obtain ⟨as, rfl, hx⟩ := hx
        obtain ⟨bs, rfl, hy⟩ := hy
        simp only [eqT] at h
        have ih := eqT_guard (ρ := ρ) d (D := D) (by omega)
        split at h
        · rename_i fs hu
          simp only [cond_eq_ite] at h
          split at h
          · cases h
          · have := eqFs_guard ih hx hy w fs.toList r h
            unfold Op.eqGuardIn
            simp only [Sem.run_bind, run_underlying hu, Result.andThen_ok]
            rw [← Array.forIn_toList, this]
            simp
        · rename_i len e hu
          simp only [cond_eq_ite] at h
          split at h
          · rename_i hi
            replace hi := (Bool.and_eq_true _ _ ▸ hi).1
            have := eqArr_guard ih hx hy e (P.cellsOf e) w len 0 r h
            unfold Op.eqGuardIn
            simp only [Sem.run_bind, run_underlying hu, Result.andThen_ok]
            obtain ⟨inf, hinf⟩ := Option.isSome_iff_exists.1 hi
            simp only [run_sizeOf w hinf, Result.andThen_ok, Std.Legacy.Range.forIn_eq_forIn_range', Std.Legacy.Range.size, Nat.sub_zero, Nat.add_sub_cancel, Nat.div_one]
            rw [this]
            simp
          · cases h
        · cases h

end Go.SE

namespace Go.SE
open Go Go.RowKit

structure Ctx where
  P : Program
  nt : Nat
  p : Nat
  rd : Option Nat

def Ctx.pr (C : Ctx) (k : Program → Prop) : Prop :=
  match C with
  | ⟨P, _, _, _⟩ => k P

theorem Ctx.pr_eq (C : Ctx) (k : Program → Prop) : C.pr k = k C.P := by cases C; rfl

def Ctx.good (C : Ctx) : Prop := ∀ h, C.rd = some h → h < C.p

def Ctx.fen (C : Ctx) (ρ : Rho) : Fence := { Fence.wide with round := C.rd.map fun h => (ρ h).blk }

def Lex (m : M) (h : Nat) : Prop := h < m.nh

structure OkL (P : Program) (nt B : Nat) (w0 : World) (ρ : Rho) (env : Env) (m : M) (a : Act) (w : World) : Prop where
  ok : Ok P nt B w0 (Lex m) ρ env m a w
  ds : ∀ ρ', Agree (Lex m) ρ ρ' → a.defers = m.ds.map (Dfr.den ρ')

def After (C : Ctx) (B : Nat) (w0 : World) (ρ : Rho) (K : Env → M → Prop) (a : Act) (w : World) : Prop :=
  ∃ ρ' env m, Agree (fun h => h < C.p) ρ ρ' ∧ C.p ≤ m.nh ∧ OkL C.P C.nt B w0 ρ' env m a w ∧ K env m

theorem After.mono {C : Ctx} {B : Nat} {w0 : World} {ρ : Rho} {K K' : Env → M → Prop} {a : Act} {w : World} (h : After C B w0 ρ K a w) (hk : ∀ env m, K env m → K' env m) : After C B w0 ρ K' a w :=
  let ⟨ρ', env, m, h1, h2, h3, h4⟩ := h; ⟨ρ', env, m, h1, h2, h3, hk _ _ h4⟩

theorem After.from {C : Ctx} {B : Nat} {w0 : World} {ρ ρ1 : Rho} {K : Env → M → Prop} {a : Act} {w : World} (hag : Agree (fun h => h < C.p) ρ ρ1) (h : After C B w0 ρ1 K a w) : After C B w0 ρ K a w :=
  let ⟨ρ', env, m, h1, h2, h3, h4⟩ := h; ⟨ρ', env, m, hag.trans h1 (fun _ h => h), h2, h3, h4⟩

def CodeSem (C : Ctx) (c : Code) (Q : Exit → Env → M → Prop) (env : Env) (m : M) : Prop :=
  ∀ (n B : Nat) (w0 : World) (ρ : Rho) (a : Act) (w : World), OkL C.P C.nt B w0 ρ env m a w → C.p ≤ m.nh → c.wpIn (C.fen ρ) n C.P (fun e a' w' => After C B w0 ρ (Q e) a' w') a w

def OpSem (C : Ctx) (o : Oper) (K : Env → M → Prop) (env : Env) (m : M) : Prop :=
  ∀ (n B : Nat) (w0 : World) (ρ : Rho) (a : Act) (w : World) (Q : Exit → Act → World → Prop), OkL C.P C.nt B w0 ρ env m a w → C.p ≤ m.nh → o.wpIn (C.fen ρ) n C.P a w (fun a' w' => After C B w0 ρ K a' w') Q

/-- What memory holds, whatever the handles beyond stand for. -/
def MemL (P : Program) (B : Nat) (w0 : World) (ρ : Rho) (m : M) (w : World) : Prop := ∀ ρ', Agree (Lex m) ρ ρ' → MOk P B w0 ρ' m w

def CallSem (P : Program) (f : FuncId) (args : List T) (m : M) (K : X → M → Prop) : Prop :=
  (∀ ys w, (callFunc f ys).run P w = .ok (.enter f ys) w) ∧
  ∀ (n B : Nat) (w0 : World) (ρ : Rho) (w : World) (ys : List Value), MemL P B w0 ρ m w → (∀ ρ', Agree (Lex m) ρ ρ' → TsRel ρ' args ys) →
    CallsIn Fence.wide n P f ys.toArray w fun e w' => ∃ v x ρ' m', e = .returned v ∧ Agree (Lex m) ρ ρ' ∧ m.nh ≤ m'.nh ∧ MemL P B w0 ρ' m' w' ∧ (∀ ρ'', Agree (Lex m') ρ' ρ'' → x.Rel ρ'' v) ∧ K x m'

def YieldSem (P : Program) (h : Nat) (args : List T) (m : M) (K : X → M → Prop) : Prop :=
  ∀ (n B : Nat) (w0 : World) (ρ : Rho) (w : World) (ys : List Value), MemL P B w0 ρ m w → (∀ ρ', Agree (Lex m) ρ ρ' → TsRel ρ' args ys) →
    YieldAt Fence.wide n P (ρ h).blk ys.toArray w fun e w' => ∃ v x ρ' m', e = .returned v ∧ Agree (Lex m) ρ ρ' ∧ m.nh ≤ m'.nh ∧ MemL P B w0 ρ' m' w' ∧ (∀ ρ'', Agree (Lex m') ρ' ρ'' → x.Rel ρ'' v) ∧ K x m'

/-- A loop from its round's end on. -/
def InLoop (F : Fence) (n : Nat) (P : Program) (c : Code) (Q : Exit → Act → World → Prop) (a : Act) (w : World) : Prop :=
  ∀ (b : Frame) (k : List Item) (cs : List Frame), b.roundOf = F.round → F.fn b.fn → F.room (cs.length + 1 + n) →
    ∃ e a' w', Q e a' w' ∧ ArrivesIn (Machine.fenced P F) P (lone (b.atR a (.inLoop c :: k)) cs w) b k cs e a' w'

def LoopSem (C : Ctx) (c : Code) (Q : Exit → Env → M → Prop) (env : Env) (m : M) : Prop :=
  ∀ (n B : Nat) (w0 : World) (ρ : Rho) (a : Act) (w : World), OkL C.P C.nt B w0 ρ env m a w → C.p ≤ m.nh →
    c.wpIn (C.fen ρ) n C.P (Exit.then (InLoop (C.fen ρ) n C.P c (fun e a' w' => After C B w0 ρ (Q e) a' w')) (fun e a' w' => After C B w0 ρ (Q e) a' w')) a w

/-- Code in a scope whose labels it may jump to. -/
def InScope (F : Fence) (n : Nat) (P : Program) (c r : Code) (Q : Exit → Act → World → Prop) (a : Act) (w : World) : Prop :=
  ∀ (b : Frame) (k : List Item) (cs : List Frame), b.roundOf = F.round → F.fn b.fn → F.room (cs.length + 1 + n) →
    ∃ e a' w', Q e a' w' ∧ ArrivesIn (Machine.fenced P F) P (lone (b.atR a (.code r :: .inScope c :: k)) cs w) b k cs e a' w'

def ScopeSem (C : Ctx) (c r : Code) (Q : Exit → Env → M → Prop) (env : Env) (m : M) : Prop :=
  ∀ (n B : Nat) (w0 : World) (ρ : Rho) (a : Act) (w : World), OkL C.P C.nt B w0 ρ env m a w → C.p ≤ m.nh → InScope (C.fen ρ) n C.P c r (fun e a' w' => After C B w0 ρ (Q e) a' w') a w

structure Split (c : Bool) (A B : Prop) : Prop where
  yes : c = true → A
  no : c = false → B

structure Asked {α : Type} (p K : α → Prop) : Prop where
  out : ∃ x, p x ∧ K x

structure SCall (P : Program) (f : FuncId) (args : List T) (m : M) (K : X → M → Prop) : Prop where
  out : CallSem P f args m K

structure SYield (P : Program) (h : Nat) (args : List T) (m : M) (K : X → M → Prop) : Prop where
  out : YieldSem P h args m K

structure Stop (C : Ctx) (o : Oper) (env : Env) (m : M) (K : Env → M → Prop) : Prop where
  out : C.good → OpSem C o K env m

structure SLoop (C : Ctx) (c : Code) (Q : Exit → Env → M → Prop) (env : Env) (m : M) : Prop where
  out : C.good → LoopSem C c Q env m

structure SCode (C : Ctx) (c : Code) (Q : Exit → Env → M → Prop) (env : Env) (m : M) : Prop where
  out : C.good → CodeSem C c Q env m

structure SScope (C : Ctx) (c r : Code) (Q : Exit → Env → M → Prop) (env : Env) (m : M) : Prop where
  out : C.good → ScopeSem C c r Q env m

def putOk (C : Ctx) (d : Option Nat) : Bool :=
  match d with
  | some d => Nat.blt d C.nt
  | none => true

def M.cs (m : M) (k : List (Nat × Reg) → Nat → List Dfr → Prop) : Prop :=
  match m with
  | ⟨r, n, d⟩ => k r n d

def Eff.cs (m : Eff) (k : X → List (Nat × Reg) → Nat → Prop) : Prop :=
  match m with
  | ⟨r, n, d⟩ => k r n d

def appR : List (Nat × Reg) → List (Nat × Reg) → (List (Nat × Reg) → Prop) → Prop
  | [], l, k => k l
  | x :: xs, l, k => appR xs l fun l => k (x :: l)

def Env.go (env : Env) (d : Option Nat) (v : X) (k : Env → Prop) : Prop :=
  match d with
  | some d => k ((d, v) :: env)
  | none => k env

theorem M.cs_eq (m : M) (k : List (Nat × Reg) → Nat → List Dfr → Prop) : m.cs k = k m.regs m.nh m.ds := by cases m; rfl
theorem Eff.cs_eq (m : Eff) (k : X → List (Nat × Reg) → Nat → Prop) : m.cs k = k m.val m.regs m.nh := by cases m; rfl
theorem appR_eq : ∀ (l l' : List (Nat × Reg)) (k : List (Nat × Reg) → Prop), appR l l' k = k (l ++ l')
  | [], _, _ => rfl
  | x :: xs, l, k => by simp [appR, appR_eq xs l]
theorem Env.go_eq (env : Env) (d : Option Nat) (v : X) (k : Env → Prop) : Env.go env d v k = k (putEnv env d v) := by cases d <;> rfl

def Env.force : Env → (Env → Prop) → Prop
  | [], k => k []
  | (a, x) :: l, k => forceN a fun a => Env.force l fun l => k ((a, x) :: l)

def runOp (C : Ctx) (o : Oper) (K : Env → M → Prop) (env : Env) (m : M) : Prop :=
  match classify C.P o env m with
  | .eff e => e.cs fun v rs nh => forceX v fun v => forceRs rs fun rs => forceN nh fun nh => m.cs fun regs _ ds => appR rs regs fun l => env.go o.dst v fun env => K env ⟨l, nh, ds⟩
  | .ask p f => Unit → Asked p fun x => (f x).cs fun v rs nh => m.cs fun regs _ ds => appR rs regs fun l => env.go o.dst v fun env => K env ⟨l, nh, ds⟩
  | .call f args => C.pr fun P => Unit → SCall P f args m fun x m' => m'.cs fun r n _ => m.cs fun _ _ ds => env.go o.dst x fun env => K env ⟨r, n, ds⟩
  | .yield h args => C.pr fun P => Unit → SYield P h args m fun x m' => m'.cs fun r n _ => m.cs fun _ _ ds => env.go o.dst x fun env => K env ⟨r, n, ds⟩
  | .none => Unit → Stop C o env m K

inductive Ask where
  | run | skip | ask (slot : Nat) (c : Bool) | bad

def guardOf (ops : Array Oper) (env : Env) (o : Oper) : Ask :=
  match o.guard with
  | none => .run
  | some (j, want) =>
    match (ops[j]?).bind (·.dst) with
    | some d => match env.get d with
      | some (.t (.one (.v (.bool true)))) => bif want then .run else .skip
      | some (.t (.one (.v (.bool false)))) => bif want then .skip else .run
      | some (.t (.one (.b c))) => .ask d c
      | some (.tup []) => .skip
      | _ => .bad
    | none => .bad

def known (b : Bool) : X := .t (.one (.v (.bool b)))

def seOps (C : Ctx) (ops : Array Oper) : List Oper → (Env → M → Prop) → Env → M → Prop
  | [], K, env, m => K env m
  | o :: rest, K, env, m =>
    bif putOk C o.dst then
      match guardOf ops env o with
      | .run => runOp C o (seOps C ops rest K) env m
      | .skip => env.go o.dst (.tup []) fun env => seOps C ops rest K env m
      | .ask d c => match o.guard with
        | some (_, true) => Unit → Split c (runOp C o (seOps C ops rest K) ((d, known true) :: env) m) (Env.go ((d, known false) :: env) o.dst (.tup []) fun env => seOps C ops rest K env m)
        | some (_, false) => Unit → Split c (Env.go ((d, known true) :: env) o.dst (.tup []) fun env => seOps C ops rest K env m) (runOp C o (seOps C ops rest K) ((d, known false) :: env) m)
        | none => False
      | .bad => False
    else False

def condEnv (env : Env) (c : Operand) (b : Bool) : Env :=
  match c with
  | .tmp d => (d, known b) :: env
  | _ => env

def se (C : Ctx) : Code → (Exit → Env → M → Prop) → Env → M → Prop
  | .skip, Q, env, m => Q .normal env m
  | .region id ops draw, Q, env, m => bif draw then Unit → SCode C (.region id ops true) Q env m else seOps C ops ops.toList (Q .normal) env m
  | .seq a b, Q, env, m => se C a (fun e env m => match e with | .normal => se C b Q env m | e => Q e env m) env m
  | .cond c a b, Q, env, m => match evs env c with
    | some (.v (.bool true)) => se C a Q env m
    | some (.v (.bool false)) => se C b Q env m
    | some (.b t) => Unit → Split t (se C a Q (condEnv env c true) m) (se C b Q (condEnv env c false) m)
    | _ => False
  | .block id c, Q, env, m => se C c (fun e env m => match e with | .exit i => (bif Nat.beq i id then Q .normal env m else Q (.exit i) env m) | e => Q e env m) env m
  | .exit id, Q, env, m => Q (.exit id) env m
  | .loop c, Q, env, m => Unit → SLoop C c Q env m
  | .rangeFunc f ps a b, Q, env, m => Unit → SCode C (.rangeFunc f ps a b) Q env m
  | .scope c, Q, env, m => Unit → SScope C c c Q env m
  | .label _, Q, env, m => Q .normal env m
  | .goto l, Q, env, m => Q (.goto l) env m
  | .ret, Q, env, m => Q .ret env m
  | .refuse _, _, _, _ => False

end Go.SE

namespace Go.SE
open Go Go.RowKit

theorem forceN_eq (n : Nat) (k : Nat → Prop) : forceN n k = k n := by cases n <;> rfl
theorem forceI_eq (n : Int) (k : Int → Prop) : forceI n k = k n := by
  cases n with
  | ofNat n => simp only [forceI, forceN_eq]; rfl
  | negSucc n => simp only [forceI, forceN_eq]; rw [Int.negSucc_eq]
theorem forceS_eq (x : S) (k : S → Prop) : forceS x k = k x := by cases x <;> simp [forceS, forceN_eq, forceI_eq]
theorem forceL_eq : ∀ (l : List S) (k : List S → Prop), forceL l k = k l
  | [], _ => rfl
  | x :: l, k => by simp [forceL, forceS_eq, forceL_eq l]
theorem forceT_eq (x : T) (k : T → Prop) : forceT x k = k x := by cases x <;> simp [forceT, forceS_eq, forceL_eq]
theorem forceTs_eq : ∀ (l : List T) (k : List T → Prop), forceTs l k = k l
  | [], _ => rfl
  | x :: l, k => by simp [forceTs, forceT_eq, forceTs_eq l]
theorem forceX_eq (x : X) (k : X → Prop) : forceX x k = k x := by cases x <;> simp [forceX, forceT_eq, forceTs_eq]
theorem forceO_eq (x : Option S) (k : Option S → Prop) : forceO x k = k x := by cases x <;> simp [forceO, forceS_eq]
theorem forceON_eq (x : Option Nat) (k : Option Nat → Prop) : forceON x k = k x := by cases x <;> simp [forceON, forceN_eq]
theorem forceR_eq (x : Reg) (k : Reg → Prop) : forceR x k = k x := by cases x <;> simp [forceR, forceL_eq, forceN_eq, forceO_eq, forceON_eq]
theorem forceRs_eq : ∀ (l : List (Nat × Reg)) (k : List (Nat × Reg) → Prop), forceRs l k = k l
  | [], _ => rfl
  | (h, r) :: l, k => by simp [forceRs, forceN_eq, forceR_eq, forceRs_eq l]

theorem Env.force_eq : ∀ (l : Env) (k : Env → Prop), Env.force l k = k l
  | [], k => rfl
  | (h, r) :: l, k => by simp [Env.force, forceN_eq, Env.force_eq l]

theorem Ctx.fen_eq {C : Ctx} {ρ ρ' : Rho} (hg : C.good) (h : Agree (fun h => h < C.p) ρ ρ') : C.fen ρ' = C.fen ρ := by
  unfold Ctx.fen
  cases hr : C.rd with
  | none => rfl
  | some k => simp [h k (hg k hr)]

theorem exec_semAt {P : Program} {o : Oper} {a : Act} {w : World} {y : Value} {w' : World} (h : Exec P o a w y w') (ro : Option Nat) : Oper.semAt ro a.eval o = execOp a.eval o := by
  refine Oper.semAt_eq ro a.eval o fun c hc => ?_
  unfold Exec at h
  simp only [execOp, hc, Sem.run_bind] at h
  cases hr : Sem.run P (resolve a.eval c o.type) w <;> simp [hr] at h

theorem putEnv_get (env : Env) (d : Option Nat) (x : X) (k : Nat) : Env.get (putEnv env d x) k = if d = some k then some x else env.get k := by
  cases d with
  | none => simp [putEnv]
  | some d =>
    simp only [putEnv, Env.get, cond_eq_ite]
    by_cases h : d = k
    · subst h; simp
    · have : Nat.beq d k = false := by rw [← Bool.not_eq_true]; exact fun e => h (Nat.eq_of_beq_eq_true e)
      simp [this, h]

theorem EnvOk.put {ρ : Rho} {env : Env} {a : Act} {nt : Nat} {d : Option Nat} {x : X} {y : Value} (h : EnvOk ρ env a) (hs : nt ≤ a.tmps.size) (hd : ∀ k, d = some k → k < nt) (hx : x.Rel ρ y) :
    EnvOk ρ (putEnv env d x) (a.put d y) := by
  intro k s hk
  rw [putEnv_get] at hk
  split at hk
  · rename_i hd'
    cases hk
    subst hd'
    have := hd k rfl
    exact ⟨y, by simp [Act.put, Array.getElem?_setIfInBounds, show k < a.tmps.size by omega], hx⟩
  · rename_i hd'
    obtain ⟨z, hz, hr⟩ := h k s hk
    refine ⟨z, ?_, hr⟩
    cases d with
    | none => exact hz
    | some d => simp only [Act.put]; rw [Array.getElem?_setIfInBounds_ne (fun e => hd' (by rw [e]))]; exact hz

theorem put_size (a : Act) (d : Option Nat) (y : Value) : (a.put d y).tmps.size = a.tmps.size := by cases d <;> simp [Act.put]
theorem put_defers (a : Act) (d : Option Nat) (y : Value) : (a.put d y).defers = a.defers := by cases d <;> simp [Act.put]

theorem putOk_lt {C : Ctx} {d : Option Nat} (h : putOk C d = true) : ∀ k, d = some k → k < C.nt := by
  rintro k rfl
  have h' : Nat.ble (k + 1) C.nt = true := h
  exact Nat.le_of_ble_eq_true h'

/-- An operation of known effect, carried out. -/
theorem opSem_of_eff {C : Ctx} {o : Oper} {K : Env → M → Prop} {env : Env} {m : M} {e : Eff} (hd : putOk C o.dst = true) (h : OpOk C.P o env m e) (hK : K (putEnv env o.dst e.val) (m.app e)) : OpSem C o K env m := by
  intro n B w0 ρ a w Q hok hp
  obtain ⟨hnh, h⟩ := h
  obtain ⟨y, w', ρ', hex, hag, hm⟩ := h C.nt B w0 (Lex m) ρ a w (fun k hk hl => Nat.lt_irrefl _ (Nat.lt_of_lt_of_le hl hk.1)) hok.ok
  refine ⟨fun _ _ => trivial, ?_⟩
  have hsem := exec_semAt hex (C.fen ρ).round
  have hnext : After C B w0 ρ K (a.put o.dst y) w' := by
    refine ⟨ρ', putEnv env o.dst e.val, m.app e, hag.mono fun k (hk : k < C.p) => (show k < m.nh by omega), Nat.le_trans hp hnh, ⟨⟨?_, ?_, ?_⟩, ?_⟩, hK⟩
    · intro ρ'' hag2
      have hag3 : Agree (fun h => Lex m h ∨ newIn m e h) ρ' ρ'' := hag2.mono fun k hk => by
        rcases hk with hk | hk
        · exact Nat.lt_of_lt_of_le hk hnh
        · exact hk.2
      have hag4 : Agree (Lex m) ρ ρ'' := fun k hk => (hag2 k (Nat.lt_of_lt_of_le hk hnh)).trans (hag k hk)
      exact (hok.ok.env ρ'' hag4).put hok.ok.size (putOk_lt hd) (hm ρ'' hag3).2
    · intro ρ'' hag2
      exact (hm ρ'' (hag2.mono fun k hk => by
        rcases hk with hk | hk
        · exact Nat.lt_of_lt_of_le hk hnh
        · exact hk.2)).1
    · rw [put_size]; exact hok.ok.size
    · intro ρ'' hag2
      rw [put_defers]
      exact hok.ds ρ'' fun k hk => (hag2 k (Nat.lt_of_lt_of_le hk hnh)).trans (hag k hk)
  rcases hex with hex | ⟨rfl, hex⟩
  · rw [hsem, hex]; exact hnext
  · rw [hsem, hex]; exact hnext

end Go.SE

namespace Go.SE
open Go Go.RowKit

def Comes.Ok (P : Program) (o : Oper) (env : Env) (m : M) : Comes → Prop
  | .eff e => OpOk P o env m e
  | .ask p f => ∀ x, p x → OpOk P o env m (f x)
  | .call f args => ∀ a : Act, ∃ ys : List Value, ∀ ρ, EnvOk ρ env a → TsRel ρ args ys ∧ (∀ w, (execOp a.eval o).run P w = (callFunc f ys.toArray).run P w) ∧ ∀ c, o.op ≠ .defer c
  | .yield h args => ∀ a : Act, ∃ ys : List Value, ∀ ρ, EnvOk ρ env a → TsRel ρ args ys ∧ (∀ w, (execOp a.eval o).run P w = (Instr.yield (ρ h).blk ys.toArray).run P w) ∧ ∀ c, o.op ≠ .defer c
  | .none => True

variable {P : Program} {o : Oper} {env : Env} {m : M}

theorem Comes.Ok.bif {b : Bool} {c : Comes} (h : b = true → c.Ok P o env m) : (bif b then c else Comes.none).Ok P o env m := by
  cases b
  · trivial
  · exact h rfl

theorem Comes.Ok.bifs {b : Bool} {c d : Comes} (h : b = true → c.Ok P o env m) (h' : b = false → d.Ok P o env m) : (bif b then c else d).Ok P o env m := by
  cases b
  · exact h' rfl
  · exact h rfl

theorem Comes.Ok.ite {p : Prop} [Decidable p] {c : Comes} (h : p → c.Ok P o env m) : (if p then c else Comes.none).Ok P o env m := by
  split
  · rename_i hp; exact h hp
  · trivial

/-- An operation whose answer hangs on its operands alone. -/
theorem binVal_ok {op : BinOp} {t t2 : TypeId} {x y : Operand} {tx ty s : T} {r : Value} (ho : o.op = .binOp op t x y t2) (hx : evt env x = some tx) (hy : evt env y = some ty) (hs : ∀ ρ, s.Rel ρ r)
    (hrun : ∀ ρ a b w, tx.Rel ρ a → ty.Rel ρ b → (eqGuard op t x y a b).run P w = .ok () w ∧ (binOp op t a b).run P w = .ok r w) : OpOk P o env m { val := .t s, regs := [], nh := m.nh } := by
  refine opOk_pure fun B w0 ρ a w he hm => ?_
  obtain ⟨h1, h2⟩ := hrun ρ _ _ w (evt_rel he hx) (evt_rel he hy)
  exact ⟨r, by simp [execOp, ho, h1, h2], hs ρ⟩

theorem run_int {op : BinOp} {t : TypeId} {k k' : IntKind} {a b r : Int} (h : specI op k a b r) (hk : isShift op = true ∨ k = k') (w : World) : (binOp op t (.int k a) (.int k' b)).run P w = .ok (.int k r) w := by
  unfold specI at h
  cases op <;> simp only at h <;> first
    | exact h.elim
    | (obtain ⟨h1, rfl⟩ := h
       simp [binOp, Op.shift, show ¬ b < 0 by omega]; done)
    | (obtain rfl : k = k' := by simpa [isShift] using hk
       first
         | (subst h; simp [binOp, Op.intArith, Op.intBits]; done)
         | (obtain ⟨h1, rfl⟩ := h; simp [binOp, Op.intDiv, h1]))

theorem calcI_spec {op : BinOp} {k : IntKind} {a b r : Int} (h : calcI op k a b = some r) : specI op k a b r := by
  unfold calcI at h
  cases op <;> simp only [reduceCtorEq, Option.some.injEq] at h <;> first
    | exact h
    | (split at h <;> first
        | (rename_i hb; simp only [Option.some.injEq] at h; exact ⟨hb, h⟩)
        | cases h)

theorem run_cmp {op : BinOp} {t : TypeId} {k : IntKind} {a b : Int} {c : Bool} (h : cmpOp op a b = some c) (w : World) : (binOp op t (.int k a) (.int k b)).run P w = .ok (.bool c) w := by
  cases op <;> simp only [cmpOp, Option.some.injEq, reduceCtorEq] at h <;> subst h <;> simp [binOp, Op.intCmp] <;> (try rfl)

theorem boolRes_ok {c kn : Bool} (h : ∀ s : S, (∀ ρ, s.Rel ρ (.bool c)) → OpOk P o env m { val := .t (.one s), regs := [], nh := m.nh }) : (boolRes m c kn).Ok P o env m := by
  unfold boolRes
  refine Comes.Ok.bifs (fun _ => ?_) fun _ => h (.b c) fun _ => rfl
  cases c
  · exact h (.v (.bool false)) fun _ => ⟨rfl, rfl⟩
  · exact h (.v (.bool true)) fun _ => ⟨rfl, rfl⟩

theorem guard_one {op : BinOp} {t : TypeId} {x y : Operand} {a b : Value} (h : (∃ k i, a = .int k i) ∨ (∃ c, a = .bool c) ∨ (∃ s, a = .string s)) (w : World) : (eqGuard op t x y a b).run P w = .ok () w := by
  rcases h with ⟨k, i, rfl⟩ | ⟨c, rfl⟩ | ⟨s, rfl⟩ <;> (unfold eqGuard; split <;> simp)

theorem doInt_ok {op : BinOp} {t t2 : TypeId} {x y : Operand} {sx sy : S} {k k' : IntKind} {a b : Int} {ka kb kn : Bool} (ho : o.op = .binOp op t x y t2) (hx : evt env x = some (.one sx)) (hy : evt env y = some (.one sy))
    (hsx : sx.int? = some (k, a, ka)) (hsy : sy.int? = some (k', b, kb)) (hk : isShift op = true ∨ k = k') : (doInt op m k a b kn).Ok P o env m := by
  have key : ∀ (s : S) (r : Value), (∀ ρ, s.Rel ρ r) → (∀ w, (binOp op t (.int k a) (.int k' b)).run P w = .ok r w) → OpOk P o env m { val := .t (.one s), regs := [], nh := m.nh } := by
    intro s r hs hr
    refine binVal_ok (s := .one s) ho hx hy hs fun ρ u v w hu hv => ?_
    rw [S.int?_rel hsx hu, S.int?_rel hsy hv]
    exact ⟨guard_one (.inl ⟨_, _, rfl⟩) w, hr w⟩
  unfold doInt
  split
  · rename_i c hc
    refine boolRes_ok fun s hs => key s _ hs fun w => ?_
    obtain rfl : k = k' := by
      rcases hk with hk | hk
      · cases op <;> simp [isShift] at hk <;> simp [cmpOp] at hc
      · exact hk
    exact run_cmp hc w
  · refine Comes.Ok.bifs (fun _ => ?_) fun _ => ?_
    · split
      · rename_i r hr; rw [valI_eq]; exact key (.n k r) (.int k r) (fun _ => rfl) fun w => run_int (calcI_spec hr) hk w
      · trivial
    · intro r hr; exact key (.v (.int k r)) (.int k r) (fun _ => ⟨rfl, rfl⟩) fun w => run_int hr hk w

theorem doBool_ok {op : BinOp} {t t2 : TypeId} {x y : Operand} {sx sy : S} {a b : Bool} {ka kb kn : Bool} (ho : o.op = .binOp op t x y t2) (ht : P.underlying t = some .bool) (hx : evt env x = some (.one sx)) (hy : evt env y = some (.one sy))
    (hsx : sx.bool? = some (a, ka)) (hsy : sy.bool? = some (b, kb)) : (doBool op m a b kn).Ok P o env m := by
  have key : ∀ (s : S) (r : Value), (∀ ρ, s.Rel ρ r) → (∀ w, (binOp op t (.bool a) (.bool b)).run P w = .ok r w) → OpOk P o env m { val := .t (.one s), regs := [], nh := m.nh } := by
    intro s r hs hr
    refine binVal_ok (s := .one s) ho hx hy hs fun ρ u v w hu hv => ?_
    rw [S.bool?_rel hsx hu, S.bool?_rel hsy hv]
    exact ⟨guard_one (.inr (.inl ⟨_, rfl⟩)) w, hr w⟩
  have e : ∀ w, (Op.equalIn Op.maxDepth t (.bool a) (.bool b)).run P w = .ok (a == b) w := fun w => by
    have h0 : eqS P t (.v (.bool a)) (.v (.bool b)) = some (a == b, true && true) := by simp only [eqS, ht]; rfl
    exact eqS_run (ρ := fun _ => ⟨0, 0, 0, 0, true⟩) h0 ⟨rfl, rfl⟩ ⟨rfl, rfl⟩ 9999 w
  unfold doBool
  split
  · exact boolRes_ok fun s hs => key s _ hs fun w => by simp only [binOp, Op.equal, Sem.run_bind, e w, Result.andThen_ok, Sem.run_pure]
  · exact boolRes_ok fun s hs => key s _ hs fun w => by simp only [binOp, Op.equal, Sem.run_bind, e w, Result.andThen_ok, Sem.run_pure]
  · trivial

theorem doStr_ok {op : BinOp} {t t2 : TypeId} {x y : Operand} {sx sy : S} {a b : ByteArray} (ho : o.op = .binOp op t x y t2) (hx : evt env x = some (.one sx)) (hy : evt env y = some (.one sy))
    (hsx : sx.str? = some a) (hsy : sy.str? = some b) : (doStr op m a b).Ok P o env m := by
  have key : ∀ (s : S) (r : Value), (∀ ρ, s.Rel ρ r) → (∀ w, (binOp op t (.string a) (.string b)).run P w = .ok r w) → OpOk P o env m { val := .t (.one s), regs := [], nh := m.nh } := by
    intro s r hs hr
    refine binVal_ok (s := .one s) ho hx hy hs fun ρ u v w hu hv => ?_
    rw [S.str?_rel hsx hu, S.str?_rel hsy hv]
    exact ⟨guard_one (.inr (.inr ⟨_, rfl⟩)) w, hr w⟩
  unfold doStr
  split
  · rename_i c hc
    refine key (.b c) (.bool c) (fun _ => rfl) fun w => ?_
    cases op <;> simp only [strCmp, Option.some.injEq, reduceCtorEq] at hc <;> subst hc <;> simp [binOp, Op.stringOp]
  · split
    · rintro r ⟨rfl, hr⟩
      refine key (.v (.string (a ++ b))) (.string (a ++ b)) (fun _ => ⟨rfl, rfl⟩) fun w => ?_
      have : ¬ (((a.size + b.size : Nat) : Int) > IntKind.i64.max) := by omega
      simp only [binOp, Op.stringOp, this, if_false, Sem.run_pure]
    · trivial

theorem guard_agg {op : BinOp} {t : TypeId} {x y : Operand} (as bs : Array Value) {w : World} (h2 : (Op.eqGuardIn Op.maxDepth t (.agg as) (.agg bs)).run P w = .ok false w) : (eqGuard op t x y (.agg as) (.agg bs)).run P w = .ok () w := by
  have hp : (program : Sem Program).run P w = .ok P w := rfl
  unfold eqGuard
  generalize Op.maxDepth = D at *
  have key : (Sem.run P (do
      if !(← program).eqGuardType (← program).depth t then return
      if ← Op.eqGuardIn D t (.agg as) (.agg bs) then unsupported (.noEntry "binop/eql: two nil values of an interface type with methods, in a part of a struct or an array")) w) = .ok () w := by
    rw [Sem.run_bind, hp]
    show Sem.run P _ w = _
    rw [Sem.run_bind, hp]
    show Sem.run P _ w = _
    generalize P.eqGuardType P.depth t = q
    cases q
    · rfl
    · show Sem.run P (Op.eqGuardIn D t (.agg as) (.agg bs) >>= _) w = _
      rw [Sem.run_bind, h2]
      rfl
  split
  · exact key
  · exact key
  · rfl

theorem eq_agg {op : BinOp} {t : TypeId} {as bs : Array Value} {w : World} {c : Bool} (hop : op = .eql ∨ op = .neq) (h1 : (Op.equalIn Op.maxDepth t (.agg as) (.agg bs)).run P w = .ok c w) :
    (binOp op t (.agg as) (.agg bs)).run P w = .ok (.bool (if op = .eql then c else !c)) w := by
  have e : (Op.equal t (.agg as) (.agg bs)).run P w = .ok c w := h1
  rcases hop with rfl | rfl
  · show Sem.run P (do pure (Value.bool (← Op.equal t (.agg as) (.agg bs)))) w = _
    simp only [Sem.run_bind, e, Result.andThen_ok, Sem.run_pure, if_true]
  · show Sem.run P (do pure (Value.bool (!(← Op.equal t (.agg as) (.agg bs))))) w = _
    simp only [Sem.run_bind, e, Result.andThen_ok, Sem.run_pure]
    rfl

theorem eqPart_congr {g g' : TypeId → T → T → Option (Bool × Bool)} {t : TypeId} {xs ys : List S} {off : Nat} (h : ∀ a b, g t a b = g' t a b) : eqPart P g t xs ys off = eqPart P g' t xs ys off := by
  unfold eqPart
  split
  · exact h _ _
  · rfl
theorem eqFs_congr {g g' : TypeId → T → T → Option (Bool × Bool)} {xs ys : List S} : ∀ {fs : List Field}, (∀ f ∈ fs, ∀ a b, g f.type a b = g' f.type a b) → eqFsWith P g xs ys fs = eqFsWith P g' xs ys fs
  | [], _ => rfl
  | f :: fs, h => by
    unfold eqFsWith
    rw [eqPart_congr (h f (by simp)), eqFs_congr fun f' hf => h f' (by simp [hf])]
theorem eqArr_congr {g g' : TypeId → T → T → Option (Bool × Bool)} {e : TypeId} {xs ys : List S} {n : Nat} (h : ∀ a b, g e a b = g' e a b) : ∀ (len i : Nat), eqArrWith P g e xs ys n len i = eqArrWith P g' e xs ys n len i
  | 0, _ => rfl
  | len + 1, i => by
    unfold eqArrWith
    rw [eqPart_congr h, eqArr_congr h len (i + 1)]
theorem eqT0_eq : ∀ (d : Nat) (t : TypeId), heldFree P d t = true → ∀ a b, eqT P d t a b = eqT0 P d t a b
  | 0, t, _, a, b => by cases a <;> cases b <;> rfl
  | d + 1, t, h, .one x, .one y => rfl
  | d + 1, t, h, .one x, .agg y => rfl
  | d + 1, t, h, .agg x, .one y => rfl
  | d + 1, t, h, .agg xs, .agg ys => by
    unfold heldFree at h
    unfold eqT eqT0
    split
    · rename_i fs hu
      rw [hu] at h
      simp only [Bool.and_eq_true, Bool.not_eq_true'] at h
      rw [h.1, cond_false]
      exact eqFs_congr fun f hf a b => eqT0_eq d f.type (List.all_eq_true.1 h.2 f hf) a b
    · rename_i len e hu
      rw [hu] at h
      rw [eqArr_congr (fun a b => eqT0_eq d e h a b)]
    · rfl

theorem doEq_ok {op : BinOp} {t t2 : TypeId} {x y : Operand} {xs ys : List S} (ho : o.op = .binOp op t x y t2) (hx : evt env x = some (.agg xs)) (hy : evt env y = some (.agg ys)) : (doEq P op m t xs ys).Ok P o env m := by
  have key : ∀ (c kn : Bool), eqT P 8 t (.agg xs) (.agg ys) = some (c, kn) → op = .eql ∨ op = .neq → ∀ (s : S), (∀ ρ, s.Rel ρ (.bool (if op = .eql then c else !c))) → OpOk P o env m { val := .t (.one s), regs := [], nh := m.nh } := by
    intro c kn hc hop s hs
    refine binVal_ok (s := .one s) ho hx hy hs fun ρ u v w hu hv => ?_
    have hD : 8 ≤ Op.maxDepth := by unfold Op.maxDepth; omega
    have h1 := eqT_run (ρ := ρ) 8 hD _ _ _ _ _ _ _ hc hu hv w
    have h2 := eqT_guard (ρ := ρ) 8 hD _ _ _ _ _ _ hc hu hv w
    obtain ⟨as, rfl, _⟩ := hu
    obtain ⟨bs, rfl, _⟩ := hv
    exact ⟨guard_agg _ _ h2, eq_agg hop h1⟩
  have eff : ∀ (c kn : Bool), (∀ s : S, (∀ ρ, s.Rel ρ (.bool c)) → OpOk P o env m { val := .t (.one s), regs := [], nh := m.nh }) → OpOk P o env m (boolEff m c kn) := by
    intro c kn h
    unfold boolEff
    cases kn
    · exact h (.b c) fun _ => rfl
    · cases c
      · exact h (.v (.bool false)) fun _ => ⟨rfl, rfl⟩
      · exact h (.v (.bool true)) fun _ => ⟨rfl, rfl⟩
  unfold doEq
  split
  · split
    · rename_i c kn hc
      intro _ hf
      rw [← eqT0_eq _ _ hf] at hc
      exact eff _ _ fun s hs => key c kn hc (.inl rfl) s (by simpa using hs)
    · trivial
  · split
    · rename_i c kn hc
      intro _ hf
      rw [← eqT0_eq _ _ hf] at hc
      exact eff _ _ fun s hs => key c kn hc (.inr rfl) s (by simpa using hs)
    · trivial
  · trivial

theorem evt_of_evs {x : Operand} {s : S} (h : evs env x = some s) : evt env x = some (.one s) := by
  unfold evs at h; unfold evt
  split at h
  · rename_i s' hs; cases h; rw [hs]
  · cases h

theorem guard_two {op : BinOp} {t : TypeId} {x y : Operand} {a b : Value} (h : (∃ p l c, a = .slice p l c) ∨ (∃ p, a = .pointer p)) (w : World) : (eqGuard op t x y a b).run P w = .ok () w := by
  rcases h with ⟨k, i, c, rfl⟩ | ⟨c, rfl⟩ <;> (unfold eqGuard; split <;> simp)

theorem equal_slice {t e : TypeId} {p q : Option Addr} {l c l' c' : Nat} (h : P.underlying t = some (.slice e)) (hq : q = none) (w : World) : (Op.equal t (.slice p l c) (.slice q l' c')).run P w = .ok p.isNone w := by
  subst hq
  have e1 : Op.maxDepth = 9999 + 1 := rfl
  unfold Op.equal
  rw [e1]
  generalize 9999 = d
  cases p <;> simp [Op.equalIn, run_underlying h]

theorem equal_pointer {t e : TypeId} {p : Option Addr} (h : P.underlying t = some (.pointer e)) (w : World) : (Op.equal t (.pointer p) (.pointer none)).run P w = .ok p.isNone w := by
  have e1 : Op.maxDepth = 9999 + 1 := rfl
  unfold Op.equal
  rw [e1]
  generalize 9999 = d
  cases p <;> simp [Op.equalIn, run_underlying h]

theorem binOp_eq {op : BinOp} {c : Bool} (hc : nilAns op = some c) {t : TypeId} {a b : Value} (h : (∃ p l c, a = .slice p l c) ∨ (∃ p, a = .pointer p)) {r : Bool} {w : World} (hr : (Op.equal t a b).run P w = .ok r w) : (binOp op t a b).run P w = .ok (.bool (if r then !c else c)) w := by
  unfold nilAns at hc
  split at hc
  · cases hc
    rcases h with ⟨k, i, c, rfl⟩ | ⟨c, rfl⟩ <;> (simp only [binOp, Sem.run_bind, hr, Result.andThen_ok, Sem.run_pure]; cases r <;> rfl)
  · cases hc
    rcases h with ⟨k, i, c, rfl⟩ | ⟨c, rfl⟩ <;> (simp only [binOp, Sem.run_bind, hr, Result.andThen_ok, Sem.run_pure]; cases r <;> rfl)
  · cases hc

theorem guard_func {op : BinOp} {t : TypeId} {x y : Operand} {a b : Value} (h : (∃ f r c, a = .func f r c) ∨ a = .nilFunc) (w : World) : (eqGuard op t x y a b).run P w = .ok () w := by
  rcases h with ⟨k, i, c, rfl⟩ | rfl <;> (unfold eqGuard; split <;> simp)

theorem equal_func {t : TypeId} {ps rs : Array TypeId} {v : Bool} {a : Value} (h : P.underlying t = some (.func ps rs v)) (ha : (∃ f r c, a = .func f r c) ∨ a = .nilFunc) (w : World) : (Op.equal t a .nilFunc).run P w = .ok (match a with | .nilFunc => true | _ => false) w := by
  have e1 : Op.maxDepth = 9999 + 1 := rfl
  unfold Op.equal
  rw [e1]
  generalize 9999 = d
  rcases ha with ⟨k, i, c, rfl⟩ | rfl <;> simp [Op.equalIn, run_underlying h]

theorem binOp_eqF {op : BinOp} {c : Bool} (hc : nilAns op = some c) {t : TypeId} {a b : Value} (h : (∃ f r c, a = .func f r c) ∨ a = .nilFunc) {r : Bool} {w : World} (hr : (Op.equal t a b).run P w = .ok r w) : (binOp op t a b).run P w = .ok (.bool (if r then !c else c)) w := by
  unfold nilAns at hc
  split at hc
  · cases hc
    rcases h with ⟨k, i, c, rfl⟩ | rfl <;> (simp only [binOp, Sem.run_bind, hr, Result.andThen_ok, Sem.run_pure]; cases r <;> rfl)
  · cases hc
    rcases h with ⟨k, i, c, rfl⟩ | rfl <;> (simp only [binOp, Sem.run_bind, hr, Result.andThen_ok, Sem.run_pure]; cases r <;> rfl)
  · cases hc

theorem doNil_ok {op : BinOp} {t t2 : TypeId} {x y : Operand} {sx sy : S} (ho : o.op = .binOp op t x y t2) (hx : evt env x = some (.one sx)) (hy : evt env y = some (.one sy)) : (doNil P op m t sx sy).Ok P o env m := by
  unfold doNil
  split
  · trivial
  · rename_i c hc
    split
    · rename_i e h off len hut
      split
      · rename_i cells sz te hreg
        refine boolRes_ok fun s hs => ?_
        refine opOk_pure fun B w0 ρ a w he hm => ?_
        have h1 := evt_rel he hx
        obtain ⟨h2, _⟩ := evt_rel he hy
        have h4 := (hm.regs _ _ hreg).1
        rcases h1 with ⟨h3, _⟩ | ⟨_, _, ad, h3, _⟩
        · rw [h4] at h3; cases h3
        · refine ⟨.bool c, ?_, hs ρ⟩
          simp [execOp, ho, h2, h3, guard_two (.inl ⟨_, _, _, rfl⟩) w, binOp_eq hc (.inl ⟨_, _, _, rfl⟩) (equal_slice hut rfl w)]
      · rename_i xs sz te own hreg
        intro _ hl
        refine opOk_pure fun B w0 ρ a w he hm => ?_
        have h1 := evt_rel he hx
        obtain ⟨h2, _⟩ := evt_rel he hy
        have h4 : (ρ h).nil = true → xs = [] := by
          intro hn
          have := hm.regs _ _ hreg
          cases own <;> rcases this with ⟨_, _, ⟨_, _, h⟩ | ⟨h, _⟩⟩ <;> first | exact h | (rw [hn] at h; cases h)
        rcases h1 with ⟨h5, _, _, h3, _⟩ | ⟨_, _, ad, h3, _⟩
        · rcases hl with hl | hl
          · omega
          · exact absurd (h4 h5) hl
        · refine ⟨.bool c, ?_, rfl, rfl⟩
          simp [execOp, ho, h2, h3, guard_two (.inl ⟨_, _, _, rfl⟩) w, binOp_eq hc (.inl ⟨_, _, _, rfl⟩) (equal_slice hut rfl w)]
      · trivial
    · rename_i e hut
      refine boolRes_ok fun s hs => binVal_ok (s := .one s) ho hx hy hs fun ρ u v w hu hv => ?_
      obtain ⟨rfl, _⟩ := hu
      obtain ⟨rfl, _⟩ := hv
      exact ⟨guard_two (.inl ⟨_, _, _, rfl⟩) w, binOp_eq hc (.inl ⟨_, _, _, rfl⟩) (equal_slice hut rfl w)⟩
    · rename_i e ad l2 c2 hut
      refine boolRes_ok fun s hs => binVal_ok (s := .one s) ho hx hy hs fun ρ u v w hu hv => ?_
      obtain ⟨rfl, _⟩ := hu
      obtain ⟨rfl, _⟩ := hv
      exact ⟨guard_two (.inl ⟨_, _, _, rfl⟩) w, binOp_eq hc (.inl ⟨_, _, _, rfl⟩) (equal_slice hut rfl w)⟩
    · rename_i e h off hut
      refine boolRes_ok fun s hs => binVal_ok (s := .one s) ho hx hy hs fun ρ u v w hu hv => ?_
      have hu : u = ptrVal ρ h off := hu
      subst hu
      obtain ⟨rfl, _⟩ := hv
      exact ⟨guard_two (.inr ⟨_, rfl⟩) w, binOp_eq hc (.inr ⟨_, rfl⟩) (equal_pointer hut w)⟩
    · rename_i e h off hut
      refine boolRes_ok fun s hs => binVal_ok (s := .one s) ho hx hy hs fun ρ u v w hu hv => ?_
      have hu : u = ptrVal ρ h off := hu
      subst hu
      obtain ⟨rfl, _⟩ := hv
      exact ⟨guard_two (.inr ⟨_, rfl⟩) w, binOp_eq hc (.inr ⟨_, rfl⟩) (equal_pointer hut w)⟩
    · rename_i e1 e2 e3 f caps hut
      refine boolRes_ok fun s hs => binVal_ok (s := .one s) ho hx hy hs fun ρ u v w hu hv => ?_
      obtain ⟨rfl, _⟩ := hv
      have hu : u = .func (.func f) #[] (caps.map fun p => ptrVal ρ p.1 p.2).toArray := hu
      subst hu
      exact ⟨guard_func (.inl ⟨_, _, _, rfl⟩) w, binOp_eqF hc (.inl ⟨_, _, _, rfl⟩) (equal_func hut (.inl ⟨_, _, _, rfl⟩) w)⟩
    · rename_i e1 e2 e3 hut
      refine boolRes_ok fun s hs => binVal_ok (s := .one s) ho hx hy hs fun ρ u v w hu hv => ?_
      obtain ⟨rfl, _⟩ := hu
      obtain ⟨rfl, _⟩ := hv
      exact ⟨guard_func (.inr rfl) w, binOp_eqF hc (.inr rfl) (equal_func hut (.inr rfl) w)⟩
    · rename_i e hut
      refine boolRes_ok fun s hs => binVal_ok (s := .one s) ho hx hy hs fun ρ u v w hu hv => ?_
      obtain ⟨rfl, _⟩ := hu
      obtain ⟨rfl, _⟩ := hv
      exact ⟨guard_two (.inr ⟨_, rfl⟩) w, binOp_eq hc (.inr ⟨_, rfl⟩) (equal_pointer hut w)⟩
    · trivial

theorem cBin_ok {op : BinOp} {t t2 : TypeId} {x y : Operand} (ho : o.op = .binOp op t x y t2) : (cBin P env m op t x y).Ok P o env m := by
  unfold cBin; split
  · rename_i sx sy hx hy
    unfold doBin; split
    · rename_i hsx hsy
      refine Comes.Ok.bifs (fun hs => doInt_ok ho hx hy hsx hsy (.inl hs)) fun _ => ?_
      split
      · rename_i hk; exact doInt_ok ho hx hy hsx hsy (.inr hk)
      · trivial
    · split
      · rename_i hsx hsy
        split
        · rename_i ht; exact doBool_ok ho ht hx hy hsx hsy
        · trivial
      · split
        · rename_i hsx hsy; exact doStr_ok ho hx hy hsx hsy
        · exact doNil_ok ho hx hy
  · rename_i hx hy; exact doEq_ok ho hx hy
  · trivial

end Go.SE

namespace Go.SE
open Go Go.RowKit
variable {P : Program} {o : Oper} {env : Env} {m : M}

theorem elemSlice_spec {t e : TypeId} (h : elemSlice P t = some e) : P.underlying t = some (.slice e) := by
  unfold elemSlice at h; split at h
  · rename_i h1; cases h; exact h1
  · cases h

theorem elemInfo_spec {t : TypeId} {e sz by_ : Nat} (h : elemInfo P t = some ⟨e, sz, by_⟩) : P.underlying t = some (.slice e) ∧ ∃ i z, P.info? e = some i ∧ i.zero = some z ∧ i.size = sz ∧ z.cells.size = sz ∧ 0 < sz ∧ i.bytes = by_ := by
  unfold elemInfo at h
  split at h
  · rename_i e' hu
    split at h
    · rename_i i hi
      split at h
      · rename_i z hz
        simp only [cond_eq_ite] at h
        split at h
        · rename_i hb
          rw [Bool.and_eq_true] at hb
          simp only [withN_eq, Option.some.injEq, Elem.mk.injEq] at h
          obtain ⟨rfl, rfl, rfl⟩ := h
          exact ⟨hu, i, z, hi, hz, rfl, Nat.eq_of_beq_eq_true hb.1, Nat.le_of_ble_eq_true hb.2, rfl⟩
        · cases h
      · cases h
    · cases h
  · cases h

/-- The cells of a row, as the world has them. -/
theorem row_cell {ρ : Rho} {w : World} {h : Nat} {xs : List Value} {sz : Nat} {e : TypeId} {own : Bool} (hb : RegOk ρ w h (.row xs sz e own)) :
    (∀ x ∈ xs, x.oneCell' = true) ∧ ∀ i y, xs[i]? = some y → w.cell? ⟨(ρ h).blk, (ρ h).base + i, none⟩ = some y := by
  cases own with
  | true =>
    obtain ⟨_, h1, ⟨_, _, rfl⟩ | ⟨_, h3, ys, h4, _, h5⟩⟩ := hb
    · exact ⟨h1, fun i y hy => by simp at hy⟩
    · refine ⟨h1, fun i y hy => ?_⟩
      obtain ⟨zs, rfl⟩ := h5
      have hi : i < xs.length := (List.getElem?_eq_some_iff.1 hy).1
      simp [World.cell?, h4, h3, List.getElem?_append_left hi, hy]
  | false =>
    obtain ⟨_, h1, ⟨_, _, rfl⟩ | ⟨_, h5⟩⟩ := hb
    · exact ⟨h1, fun i y hy => by simp at hy⟩
    · exact ⟨h1, h5⟩

/-- What is read of a slice. -/
theorem givesOf_rel {ρ : Rho} {B : Nat} {w0 w : World} {sz k : Nat} {s : S} {y : Value} {news : List Value} (hm : MOk P B w0 ρ m w) (h : givesOf m sz s = some (news, k)) (hs : s.Rel ρ y) (hl : news.length = k * sz) (hsz : 0 < sz) : Gives w sz y k news := by
  have key : ∀ (hh off len : Nat) (xs : List Value), (ρ hh).sz = sz → (∀ x ∈ xs, x.oneCell' = true) → (∀ i y, xs[i]? = some y → w.cell? ⟨(ρ hh).blk, (ρ hh).base + i, none⟩ = some y) → SlRel (ρ hh) off len y →
      ((xs.drop (off * sz)).take (len * sz)).length = len * sz → Gives w sz y len ((xs.drop (off * sz)).take (len * sz)) := by
    intro hh off len xs h1 h2 h3 h4 h5
    rcases h4 with ⟨_, _, rfl, rfl, rfl⟩ | ⟨hn, hle, a, rfl, ha⟩
    · have : (List.take (0 * sz) (List.drop (0 * sz) xs)) = [] := by simp
      rw [this]; exact .none
    · refine .some a len _ _ h5 (fun j u hj => ?_) (fun u hu => h2 u (List.mem_of_mem_drop (List.mem_of_mem_take hu)))
      rw [List.getElem?_take] at hj
      split at hj
      · rename_i hlt
        rw [List.getElem?_drop] at hj
        have hlen : 0 < len := by
          rcases Nat.eq_zero_or_pos len with h0 | h0
          · subst h0; simp at hlt
          · exact h0
        rw [ha (.inl (by omega)), addr_add, h1]
        have := h3 _ _ hj
        rw [← this, Nat.add_assoc]
      · cases hj
  unfold givesOf at h
  split at h
  · cases h
    obtain ⟨rfl, _⟩ := hs
    exact .none
  · rename_i ad cap
    cases h
    obtain ⟨rfl, _⟩ := hs
    exact .some ad 0 cap [] (by simp) (by simp) (by simp)
  · rename_i hh off len
    split at h
    · rename_i xs sz' e own hr
      simp only [cond_eq_ite] at h
      split at h
      · rename_i hb
        cases h
        have hb := Nat.eq_of_beq_eq_true hb
        subst hb
        have hreg := hm.regs _ _ hr
        obtain ⟨h2, h3⟩ := row_cell hreg
        have h1 : (ρ hh).sz = sz' := by cases own <;> exact hreg.1
        exact key hh off k xs h1 h2 h3 hs hl
      · cases h
    · rename_i cells sz' e hr
      simp only [cond_eq_ite] at h
      split at h
      · rename_i hb
        split at h
        · rename_i xs hv
          have hb := Nat.eq_of_beq_eq_true hb
          subst hb
          obtain ⟨g1, g2, g3, ys, g4, g5⟩ := hm.regs _ _ hr
          have e5 := valsOf_rel hv g5
          rw [e5] at g4 g5
          have hcell : ∀ (i : Nat) (y : Value), xs[i]? = some y → w.cell? ⟨(ρ hh).blk, (ρ hh).base + i, none⟩ = some y := fun i y hy => by simp [World.cell?, g4, g2, hy]
          split at h
          · rename_i hfull
            rw [Bool.and_eq_true] at hfull
            have e0 := Nat.eq_of_beq_eq_true hfull.1
            have e1 := Nat.eq_of_beq_eq_true hfull.2
            simp only [Option.some.injEq, Prod.mk.injEq] at h
            obtain ⟨h6, h7⟩ := h
            subst h6; subst h7; subst e0
            have e2 : ((xs.drop (0 * sz')).take (len * sz')) = xs := by
              rw [Nat.zero_mul, List.drop_zero, e1, g5.length, List.take_length]
            have := key hh 0 len xs g3.1 (LRel.one g5) hcell hs (by rw [e2]; exact hl)
            rwa [e2] at this
          · simp only [Option.some.injEq, Prod.mk.injEq] at h
            obtain ⟨h6, h7⟩ := h
            subst h6; subst h7
            exact key hh off len xs g3.1 (LRel.one g5) hcell hs hl
        · cases h
      · cases h
    · cases h
  · cases h

theorem ownVals_rel {ρ : Rho} {B : Nat} {w0 w : World} {sz n : Nat} {e : TypeId} {s : S} {y : Value} {ho : Option Nat} {xs : List Value} (hm : MOk P B w0 ρ m w) (h : ownVals m sz e s = some ⟨ho, xs, n⟩) (hs : s.Rel ρ y) (hl : xs.length = n * sz) (hsz : 0 < sz) :
    (∀ h, ho = some h → ∃ z, m.reg h = some z ∧ z.own = true ∧ ∀ r, tied z r = false) ∧ ∃ L, RowAt L w xs sz e ∧ SlRel L 0 n y ∧ (L.nil = false → ∃ h, ho = some h ∧ L = ρ h) := by
  unfold ownVals at h
  split at h
  · cases h
    obtain ⟨rfl, _⟩ := hs
    exact ⟨fun _ h => (by cases h), ⟨0, 0, 0, sz, true⟩, ⟨rfl, by simp, .inl ⟨rfl, rfl, rfl⟩⟩, .inl ⟨rfl, rfl, rfl, rfl, rfl⟩, fun h => by cases h⟩
  · rename_i hh len
    split at h
    · rename_i xs' sz' e' hr
      simp only [cond_eq_ite] at h
      split at h
      · rename_i hb
        rw [Bool.and_eq_true] at hb
        simp only [Option.some.injEq, Own.mk.injEq] at h
        obtain ⟨rfl, rfl, rfl⟩ := h
        have hb1 := Nat.eq_of_beq_eq_true hb.1
        have hb2 := Nat.eq_of_beq_eq_true hb.2
        subst hb1; subst hb2
        exact ⟨fun h e => by cases e; exact ⟨_, hr, rfl, fun _ => rfl⟩, ρ hh, regOk_row.1 (hm.regs _ _ hr), hs, fun _ => ⟨hh, rfl, rfl⟩⟩
      · cases h
    · rename_i cells sz' e' hr
      simp only [cond_eq_ite] at h
      split at h
      · rename_i hb
        rw [Bool.and_eq_true] at hb
        split at h
        · rename_i vs hv
          simp only [Option.some.injEq, Own.mk.injEq] at h
          obtain ⟨rfl, rfl, rfl⟩ := h
          have hb1 := Nat.eq_of_beq_eq_true hb.1
          have hb2 := Nat.eq_of_beq_eq_true hb.2
          subst hb1; subst hb2
          refine ⟨fun h e => by cases e; exact ⟨_, hr, rfl, fun _ => rfl⟩, ρ hh, ?_, hs, fun _ => ⟨hh, rfl, rfl⟩⟩
          obtain ⟨g1, g2, ⟨g3, g6, g7⟩, ys, g4, g5⟩ := hm.regs _ _ hr
          have := valsOf_rel hv g5
          subst this
          refine ⟨g3, fun x hx => LRel.one g5 x (List.mem_of_mem_take hx), .inr ⟨g1, g2, ys, g4, ⟨?_, g7 (by omega)⟩, List.take_prefix _ _⟩⟩
          rw [← g5.length]; exact g6.symm
        · cases h
      · cases h
    · cases h
  · cases h

/-- A box, as a row of whatever lies in it. -/
theorem box_row {ρ : Rho} {w : World} {h : Nat} {cells : List S} {sz : Nat} {e : TypeId} (hb : RegOk ρ w h (.box cells sz e)) (hsz : 0 < sz) :
    ∃ ys : List Value, LRel ρ cells ys ∧ RowAt (ρ h) w ys sz e ∧ (ρ h).nil = false ∧ (ρ h).base = 0 ∧ (ρ h).cap * sz = cells.length ∧ ∀ i y, ys[i]? = some y → w.cell? ⟨(ρ h).blk, i, none⟩ = some y := by
  obtain ⟨g1, g2, ⟨g3, g6, g7⟩, ys, g4, g5⟩ := hb
  exact ⟨ys, g5, ⟨g3, LRel.one g5, .inr ⟨g1, g2, ys, g4, ⟨by rw [← g5.length]; exact g6.symm, g7 (by omega)⟩, List.prefix_refl _⟩⟩, g1, g2, g6, fun i y hy => by simp [World.cell?, g4, hy]⟩

theorem mul_right_eq {a b c : Nat} (h : a * c = b * c) (hc : 0 < c) : a = b := Nat.eq_of_mul_eq_mul_right hc h

theorem appendS_row {ρ : Rho} {B : Nat} {w0 w : World} {L : Loc} {xs : List Value} {h2 k n sz : Nat} {cells2 : List S} {e e2 t ty : TypeId} {i : TypeInfo} {z y x : Value} (hm : MOk P B w0 ρ m w) (hr2 : m.reg h2 = some (.box cells2 sz e2)) (hsz : 0 < sz) (hk : 0 < k) (hc2 : k * sz = cells2.length)
    (hu : P.underlying t = some (.slice e)) (hi : P.info? e = some i) (hz : i.zero = some z) (hsize : i.size = sz) (hzs : z.cells.size = sz) (hrow : RowAt L w xs sz e) (hs : SlRel L 0 n y) (hl : xs.length = n * sz) (hx : S.Rel ρ (.sl h2 0 k) x) (h63 : n + k ≤ maxLen) (hby : (n + k) * i.bytes ≤ 140737488355328) :
    ∃ v' w', (Builtin.append_ #[t, t] ty #[y, x]).run P w = .ok v' w' ∧ (∃ zs, LRel ρ cells2 zs ∧ RowAt (locOf sz v') w' (xs ++ zs) sz e) ∧ SlRel (locOf sz v') 0 (n + k) v' ∧ w.grownBy w' y.ownBlock ∧
      ((locOf sz v').nil = false → w.heap.size ≤ (locOf sz v').blk ∨ (L.nil = false ∧ (locOf sz v').blk = L.blk)) := by
  obtain ⟨zs, j1, j2, j3, j4, j5, j6⟩ := box_row (hm.regs _ _ hr2) hsz
  rcases hx with ⟨q, _⟩ | ⟨-, q4, ad2, q5, q6⟩
  · rw [j3] at q; cases q
  have q6 := q6 (.inr rfl)
  rw [j4] at q6
  simp only [Nat.zero_mul, Nat.add_zero] at q6
  have g : Gives w sz x k zs := by
    rw [q5, q6]
    refine .some _ _ _ _ (by rw [← j1.length, hc2]) (fun j u hj => by rw [addr_add, Nat.zero_add]; exact j6 j u hj) (LRel.one j1)
  obtain ⟨v', w', r1, r2, r3, r4, r5⟩ := append_row (ty := ty) hu hi hz hsize hzs hsz hrow hs hl g h63 hby
  exact ⟨v', w', r1, ⟨zs, j1, r2⟩, r3, r4, r5⟩

theorem srow_of {ρ : Rho} {w : World} {h sz : Nat} {e : TypeId} {v : Value} {cells : List S} {xs : List Value} (hL : ρ h = locOf sz v) (hr : RowAt (locOf sz v) w xs sz e) (hx : LRel ρ cells xs) (hne : ¬ xs = []) : RegOk ρ w h (.srow cells sz e) := by
  obtain ⟨g1, g2, ⟨_, _, g3⟩ | ⟨g5, g6, us, g7, ⟨g8, g9⟩, g10⟩⟩ := hr
  · exact absurd g3 hne
  · exact ⟨by rw [hL]; exact g5, by rw [hL]; exact g6, ⟨by rw [hL]; exact g1, by rw [hL]; exact g9⟩, us, xs, by rw [hL]; exact g7, by rw [hL]; exact g8, g10, hx⟩

theorem cAppendS_ok {c : Call} (ho : o.op = .call c) (hc : c.callee = .builtin .append) {s x : Operand} {t e sz by_ : Nat} {vs vx : S} (ha : c.args.toList = [s, x]) (ht : c.argTypes.toList = [t, t])
    (hel : elemInfo P t = some ⟨e, sz, by_⟩) (hvs : evs env s = some vs) (hvx : evs env x = some vx) : (cAppendS m e sz by_ vs vx).Ok P o env m := by
  obtain ⟨hu, i, z, hi, hz, hsize, hzs, hsz, hbytes⟩ := elemInfo_spec hel
  have hargs : c.args = #[s, x] := by rw [← Array.toArray_toList (xs := c.args), ha]
  have htys : c.argTypes = #[t, t] := by rw [← Array.toArray_toList (xs := c.argTypes), ht]
  unfold cAppendS
  split
  · rename_i h n
    split
    · rename_i cells sz' e' hr
      refine Comes.Ok.bif fun hb => ?_
      simp only [Bool.and_eq_true] at hb
      obtain ⟨b1, b2, b3, b4⟩ := hb
      have b1 := Nat.eq_of_beq_eq_true b1
      have b2 := Nat.eq_of_beq_eq_true b2
      have b4 := Nat.eq_of_beq_eq_true b4
      subst b1; subst b2
      split
      · refine opOk_pure fun B w0 ρ a w he hm => ?_
        obtain ⟨ys, k1, k2, k3, k4, k5, k6⟩ := box_row (hm.regs _ _ hr) hsz
        have hs := evs_rel he hvs
        obtain ⟨hx, _⟩ := evs_rel he hvx
        have hown := ownsRow_of (B := 0) k2 hs (by rw [← k1.length, b4]) (fun _ => Nat.zero_le _)
        exact ⟨a.eval s, by simp [execOp, ho, resolve, hc, invoke, Go.builtin, hargs, htys, hx, run_append_owned_none w 0 t o.type e' i sz' hu hi (a.eval s) n ys hown], hs⟩
      · rename_i h2 k
        split
        · rename_i cells2 sz2 e2 hr2
          refine Comes.Ok.bif fun hb => ?_
          simp only [Bool.and_eq_true] at hb
          obtain ⟨d1, d2, d3⟩ := hb
          have d1 := Nat.eq_of_beq_eq_true d1
          have d2 : 0 < k := Nat.le_of_ble_eq_true d2
          have d3 := Nat.eq_of_beq_eq_true d3
          subst d1
          rw [withN_eq]
          rintro _ ⟨h63, hby⟩
          refine opOk_newR ⟨fun y _ => locOf sz2 y, fun B w0 ρ a w he hm => ?_⟩
          obtain ⟨ys, k1, k2, k3, k4, k5, k6⟩ := box_row (hm.regs _ _ hr) hsz
          obtain ⟨zs, j1, j2, j3, j4, j5, j6⟩ := box_row (hm.regs _ _ hr2) hsz
          have hs := evs_rel he hvs
          have hx := evs_rel he hvx
          rcases hs with ⟨q, _⟩ | ⟨-, q1, ad, q2, q3⟩
          · rw [k3] at q; cases q
          rcases hx with ⟨q, _⟩ | ⟨-, q4, ad2, q5, q6⟩
          · rw [j3] at q; cases q
          have e1 : (ρ h).cap = n := mul_right_eq (by rw [k5, b4]) hsz
          have hl1 : ys.length = n * sz2 := by rw [← k1.length, b4]
          have hl2 : zs.length = k * sz2 := by rw [← j1.length, d3]
          have q3 := q3 (.inr rfl)
          have q6 := q6 (.inr rfl)
          rw [k4] at q3
          rw [j4] at q6
          simp only [Nat.zero_mul, Nat.add_zero] at q3 q6
          subst q3; subst q6
          obtain ⟨v', w', hrun, hown, hg⟩ := run_append_arg_grows (P := P) w t o.type e' i z sz2 i.bytes hu hi hz hsize rfl hzs hsz ⟨(ρ h).blk, 0, none⟩ n ((ρ h).cap - 0) ys hl1 (fun j u hj => by rw [addr_add, Nat.zero_add]; exact k6 j u hj)
            ⟨(ρ h2).blk, 0, none⟩ k ((ρ h2).cap - 0) zs hl2 (fun j u hj => by rw [addr_add, Nat.zero_add]; exact j6 j u hj) (by omega) h63 (by rw [hbytes]; exact hby)
          have hone : ∀ u ∈ ys ++ zs, u.oneCell' = true := fun u hu => by
            rcases List.mem_append.1 hu with hu | hu
            · exact LRel.one k1 u hu
            · exact LRel.one j1 u hu
          obtain ⟨⟨g1, g2, g3⟩, g4⟩ := of_ownsRow hown hone
          have hne : ¬ (ys ++ zs = []) := fun q => by
            have := congrArg List.length q
            simp only [List.length_append, List.length_nil] at this
            have : 1 * sz2 ≤ k * sz2 := Nat.mul_le_mul_right _ d2
            omega
          rcases g3 with ⟨_, _, g3⟩ | ⟨g5, g6, us, g7, ⟨g8, g9⟩, g10⟩
          · exact absurd g3 hne
          refine ⟨v', w', ?_, hg, ?_, fun hL => ⟨?_, ?_⟩⟩
          · simp only [Nat.sub_zero] at hrun
            simp [execOp, ho, resolve, hc, invoke, Go.builtin, hargs, htys, q2, q5, hrun]
          · rcases hown.2 with ⟨rfl, _⟩ | ⟨g, cap, cur, rfl, hb, _⟩
            · cases g5
            · exact hb
          · exact ⟨by rw [hL]; exact g5, by rw [hL]; exact g6, ⟨by rw [hL]; exact g1, by rw [hL]; exact g9⟩, us, ys ++ zs, by rw [hL]; exact g7, by rw [hL]; exact g8, g10, k1.append j1⟩
          · show SlRel (ρ m.nh) 0 (n + k) v'
            rw [hL]; exact g4
        · trivial
      · trivial
    · rename_i cells sz' e' hr
      refine Comes.Ok.bif fun hb => ?_
      simp only [Bool.and_eq_true] at hb
      obtain ⟨b1, b2, b3, b4⟩ := hb
      have b1 := Nat.eq_of_beq_eq_true b1
      have b2 := Nat.eq_of_beq_eq_true b2
      have b4 := Nat.eq_of_beq_eq_true b4
      subst b1; subst b2
      split
      · rename_i h2 k
        split
        · rename_i cells2 sz2 e2 hr2
          refine Comes.Ok.bif fun hb => ?_
          simp only [Bool.and_eq_true] at hb
          obtain ⟨d1, d2, d3⟩ := hb
          have d1 := Nat.eq_of_beq_eq_true d1
          have d2 : 0 < k := Nat.le_of_ble_eq_true d2
          have d3 := Nat.eq_of_beq_eq_true d3
          subst d1
          rw [withN_eq, withN_eq, appS_eq]
          rintro _ ⟨h63, hby⟩
          refine opOk_growG (sz := sz2) (fun _ => .srow (cells ++ cells2) sz2 e') rfl (some h) (fun h' e => by cases e; exact ⟨_, hr, rfl, fun _ => rfl⟩) fun B w0 ρ a w he hm => ?_
          obtain ⟨k1, k2, ⟨k3, k4⟩, ys, xs, k5, k6, k7, k8⟩ := hm.regs _ _ hr
          have hrow : RowAt (ρ h) w xs sz2 e' := ⟨k3, LRel.one k8, .inr ⟨k1, k2, ys, k5, ⟨k6, k4⟩, k7⟩⟩
          obtain ⟨v', w', r1, r2, r3, r4, r5⟩ := appendS_row (ty := o.type) hm hr2 hsz d2 d3 hu hi hz hsize hzs hrow (evs_rel he hvs) (by rw [← k8.length, b4]) (evs_rel he hvx) h63 (by rw [hbytes]; exact hby)
          obtain ⟨zs, j1, r2⟩ := r2
          have hl2 : zs.length = k * sz2 := by rw [← j1.length, d3]
          refine ⟨v', w', (a.eval s).ownBlock, ?_, fun hL => ?_, r3, r4, fun kk hk => ?_, fun hn => ?_⟩
          · simp [execOp, ho, resolve, hc, invoke, Go.builtin, hargs, htys, r1]
          · exact srow_of hL r2 (k8.append j1) (fun q => by
              have := congrArg List.length q
              simp only [List.length_append, List.length_nil] at this
              have : 1 * sz2 ≤ k * sz2 := Nat.mul_le_mul_right _ d2
              omega)
          · rcases evs_rel he hvs with ⟨q, _⟩ | ⟨hn, _, ad, hv, had⟩
            · rw [k1] at q; cases q
            · rw [hv] at hk
              simp only [Value.ownBlock, Option.some.injEq] at hk
              exact ⟨h, rfl, k1, by rw [← hk, had (.inr rfl)]⟩
          · rcases r5 hn with h5 | ⟨h5, h6⟩
            · exact .inl h5
            · exact .inr ⟨h, rfl, h5, h6⟩
        · trivial
      · trivial
    · trivial
  · split
    · rename_i h2 k
      split
      · rename_i cells2 sz2 e2 hr2
        refine Comes.Ok.bif fun hb => ?_
        simp only [Bool.and_eq_true] at hb
        obtain ⟨d1, d2, d3⟩ := hb
        have d1 := Nat.eq_of_beq_eq_true d1
        have d2 : 0 < k := Nat.le_of_ble_eq_true d2
        have d3 := Nat.eq_of_beq_eq_true d3
        subst d1
        rw [withN_eq]
        rintro _ ⟨h63, hby⟩
        refine opOk_growG (sz := sz2) (fun _ => .srow cells2 sz2 e) rfl none (fun h' e => by cases e) fun B w0 ρ a w he hm => ?_
        obtain ⟨hv, _⟩ := evs_rel he hvs
        have hrow : RowAt ⟨0, 0, 0, sz2, true⟩ w [] sz2 e := ⟨rfl, by simp, .inl ⟨rfl, rfl, rfl⟩⟩
        obtain ⟨v', w', r1, r2, r3, r4, r5⟩ := appendS_row (n := 0) (y := a.eval s) (ty := o.type) hm hr2 hsz d2 d3 hu hi hz hsize hzs hrow (.inl ⟨rfl, rfl, rfl, rfl, hv⟩) (by simp) (evs_rel he hvx) (by simpa using h63) (by rw [hbytes]; simpa using hby)
        obtain ⟨zs, j1, r2⟩ := r2
        have hl2 : zs.length = k * sz2 := by rw [← j1.length, d3]
        refine ⟨v', w', (a.eval s).ownBlock, ?_, fun hL => ?_, by simpa using r3, r4, fun kk hk => ?_, fun hn => ?_⟩
        · simp [execOp, ho, resolve, hc, invoke, Go.builtin, hargs, htys, r1]
        · exact srow_of hL r2 j1 (fun q => by
            have := congrArg List.length q
            simp only [List.nil_append, List.length_nil] at this
            have : 1 * sz2 ≤ k * sz2 := Nat.mul_le_mul_right _ d2
            omega)
        · rw [hv] at hk; cases hk
        · rcases r5 hn with h5 | ⟨h5, h6⟩
          · exact .inl h5
          · cases h5
      · trivial
    · trivial
  · trivial

theorem cAppend_ok {c : Call} (ho : o.op = .call c) (hc : c.callee = .builtin .append) : (cAppend P env m c).Ok P o env m := by
  unfold cAppend
  split
  · rename_i s x t t' ha ht
    refine Comes.Ok.bif fun hb => ?_
    have hb := Nat.eq_of_beq_eq_true hb
    subst hb
    split
    · rename_i e sz by_ vs vx hel hvs hvx
      split
      · rename_i hov xs n news k h1 h2
        rw [withN_eq]
        rintro r ⟨rfl, hl1, hl2, h63, hby⟩
        obtain ⟨hu, i, z, hi, hz, hsize, hzs, hsz, hbytes⟩ := elemInfo_spec hel
        have hreg : ∀ h, hov = some h → ∃ z, m.reg h = some z ∧ z.own = true ∧ ∀ r, tied z r = false := by
          intro h hh
          subst hh
          unfold ownVals at h1
          split at h1
          · cases h1
          · rename_i hh len
            split at h1
            · rename_i hr
              simp only [cond_eq_ite] at h1
              split at h1
              · cases h1; exact ⟨_, hr, rfl, fun _ => rfl⟩
              · cases h1
            · rename_i hr
              simp only [cond_eq_ite] at h1
              split at h1
              · split at h1
                · cases h1; exact ⟨_, hr, rfl, fun _ => rfl⟩
                · cases h1
              · cases h1
            · cases h1
          · cases h1
        refine opOk_grow hov hreg fun B w0 ρ a w he hm => ?_
        obtain ⟨_, L, q1, q2, q3⟩ := ownVals_rel hm h1 (evs_rel he hvs) hl1 hsz
        have q4 := givesOf_rel hm h2 (evs_rel he hvx) hl2 hsz
        obtain ⟨v', w', r1, r2, r3, r4, r5⟩ := append_row (ty := o.type) hu hi hz hsize hzs hsz q1 q2 hl1 q4 h63 (by rw [hbytes]; exact hby)
        have hargs : c.args = #[s, x] := by rw [← Array.toArray_toList (xs := c.args), ha]
        have htys : c.argTypes = #[t, t] := by rw [← Array.toArray_toList (xs := c.argTypes), ht]
        refine ⟨v', w', (a.eval s).ownBlock, ?_, r2, r3, r4, fun kk hk => ?_, fun hn => ?_⟩
        · simp [execOp, ho, resolve, hc, invoke, Go.builtin, hargs, htys, r1]
        · rcases q2 with ⟨_, _, _, _, hv⟩ | ⟨hn, _, ad, hv, had⟩
          · rw [hv] at hk; cases hk
          · rw [hv] at hk
            simp only [Value.ownBlock, Option.some.injEq] at hk
            obtain ⟨h, g1, g2⟩ := q3 hn
            refine ⟨h, g1, by rw [← g2]; exact hn, ?_⟩
            rw [← hk, had (.inr rfl), g2]
        · rcases r5 hn with h5 | ⟨h5, h6⟩
          · exact .inl h5
          · obtain ⟨h, g1, g2⟩ := q3 h5
            exact .inr ⟨h, g1, by rw [← g2]; exact h5, by rw [h6, g2]⟩
      · exact cAppendS_ok ho hc ha ht hel hvs hvx
    · trivial
  · trivial

theorem bound_rel {ρ : Rho} {a : Act} (he : EnvOk ρ env a) {d : Nat} {x : Option Operand} {i : Int} (h : bound env d x = some i) : (x = none ∧ i = d) ∨ ∃ y k, x = some y ∧ a.eval y = .int k i := by
  unfold bound at h
  split at h
  · cases h; exact .inl ⟨rfl, rfl⟩
  · rename_i y
    split at h
    · rename_i s hs
      split at h
      · rename_i k i' kn hi
        cases h
        exact .inr ⟨y, k, rfl, S.int?_rel hi (evs_rel he hs)⟩
      · cases h
    · cases h

theorem slSz_ok {ρ : Rho} {B : Nat} {w0 w : World} {h sz : Nat} (hm : MOk P B w0 ρ m w) (hs : slSz m h = some sz) : (ρ h).sz = sz := by
  unfold slSz at hs
  split at hs
  · rename_i xs sz' e own hr
    cases hs
    have := hm.regs _ _ hr
    cases own <;> exact this.1
  · rename_i hr
    cases hs
    exact (hm.regs _ _ hr).2.2.1.1
  · cases hs

theorem run_bounds {ρ : Rho} {a : Act} (he : EnvOk ρ env a) {lo hi : Option Operand} {len cap l u : Nat} (hl : bound env 0 lo = some (l : Int)) (hu : bound env len hi = some (u : Int)) (hlu : l ≤ u) (huc : u ≤ cap) (w : World) :
    (Instr.sliceBounds true len cap (lo.map a.eval) (hi.map a.eval) none).run P w = .ok (l, u, cap) w := by
  rcases bound_rel he hl with ⟨rfl, h1⟩ | ⟨y, k, rfl, h1⟩ <;> rcases bound_rel he hu with ⟨rfl, h2⟩ | ⟨z, k', rfl, h2⟩
  · have e1 : l = 0 := by omega
    have e2 : u = len := by omega
    subst e1; subst e2
    simp [Instr.sliceBounds]
  · have e1 : l = 0 := by omega
    subst e1
    simp [Instr.sliceBounds, Instr.sliceBound, h2, asIntOf, huc]
  · have e2 : u = len := by omega
    subst e2
    simp [Instr.sliceBounds, Instr.sliceBound, h1, asIntOf, hlu]
  · simp [Instr.sliceBounds, Instr.sliceBound, h1, h2, asIntOf, hlu, huc]

theorem arrInfo_spec {t : TypeId} {n : Nat} {e : TypeId} (h : arrInfo P t = some (n, e)) : P.underlying t = some (.array n e) := by
  unfold arrInfo at h
  split at h
  · rename_i h1; cases h; exact h1
  · cases h

theorem run_bounds_arr {ρ : Rho} {a : Act} (he : EnvOk ρ env a) {lo hi : Option Operand} {n l u : Nat} (hl : bound env 0 lo = some (l : Int)) (hu : bound env n hi = some (u : Int)) (hlu : l ≤ u) (huc : u ≤ n) (w : World) :
    (Instr.sliceBounds false n n (lo.map a.eval) (hi.map a.eval) none).run P w = .ok (l, u, n) w := by
  rcases bound_rel he hl with ⟨rfl, h1⟩ | ⟨y, k, rfl, h1⟩ <;> rcases bound_rel he hu with ⟨rfl, h2⟩ | ⟨z, k', rfl, h2⟩
  · have e1 : l = 0 := by omega
    have e2 : u = n := by omega
    subst e1; subst e2
    simp [Instr.sliceBounds]
  · have e1 : l = 0 := by omega
    subst e1
    simp [Instr.sliceBounds, Instr.sliceBound, h2, asIntOf, huc]
  · have e2 : u = n := by omega
    subst e2
    simp [Instr.sliceBounds, Instr.sliceBound, h1, asIntOf, hlu]
  · simp [Instr.sliceBounds, Instr.sliceBound, h1, h2, asIntOf, hlu, huc]

theorem run_bounds3 {n : Nat} {k k' : IntKind} (w : World) : (Instr.sliceBounds true n n none (some (.int k (n : Int))) (some (.int k' (n : Int)))).run P w = .ok (0, n, n) w := by
  simp [Instr.sliceBounds, Instr.sliceBound, asIntOf]

theorem cSlice_ok {t : TypeId} {x : Operand} {lo hi mx : Option Operand} (ho : o.op = .slice t x lo hi mx) : (cSlice P env m t x lo hi mx).Ok P o env m := by
  unfold cSlice
  split
  · rename_i c
    split
    · rename_i e h len y hel hx
      split
      · rename_i ku u kku kc c' kkc cells sz te hu hc hreg
        refine Comes.Ok.bif fun hb => ?_
        simp only [Bool.and_eq_true] at hb
        have hb1 := Nat.eq_of_beq_eq_true hb.1
        obtain ⟨inf, hinf⟩ := Option.isSome_iff_exists.1 hb.2.1
        have hsz : 0 < sz := Nat.le_of_ble_eq_true hb.2.2
        refine Comes.Ok.ite fun hp => ?_
        obtain ⟨rfl, rfl, hlen⟩ := hp
        have hut := elemSlice_spec hel
        obtain ⟨su, hsu, hu⟩ := Option.bind_eq_some_iff.1 hu
        obtain ⟨sc, hsc, hc⟩ := Option.bind_eq_some_iff.1 hc
        refine opOk_pure fun B w0 ρ a w he hm => ?_
        have hu1 := S.int?_rel hu (evs_rel he hsu)
        have hc1 := S.int?_rel hc (evs_rel he hsc)
        have hs := evs_rel he hx
        obtain ⟨ys, k1, k2, k3, k4, k5, k6⟩ := box_row (hm.regs _ _ hreg) hsz
        refine ⟨a.eval x, ?_, hs⟩
        rcases hs with ⟨q, _⟩ | ⟨-, q1, ad, q2, q3⟩
        · rw [k3] at q; cases q
        have e1 : (ρ h).cap = len := mul_right_eq (by rw [k5, hlen]) hsz
        rw [q3 (.inr rfl), e1, Nat.sub_zero] at q2
        have hbd := run_bounds3 (P := P) (n := len) (k := ku) (k' := kc) w
        simp only [execOp, ho, q2, hu1, hc1, Instr.sliceAt, Instr.slice, run_underlying hut, hbd, run_sizeOf w hinf, Sem.run_bind, Result.andThen_ok, Sem.run_pure, Option.map_some, Option.map_none, Nat.zero_mul, Nat.sub_zero, addr_add, Nat.add_zero, ite_self]
      · trivial
    · trivial
  · split
    · rename_i e h off len hel hx
      split
      · rename_i l u sz hl hu hsz
        refine Comes.Ok.bif fun hb => ?_
        rw [Bool.and_eq_true] at hb
        rintro ⟨p, q⟩ ⟨rfl, rfl, h3, h4⟩
        have hb1 := Nat.eq_of_beq_eq_true hb.1
        obtain ⟨inf, hinf⟩ := Option.isSome_iff_exists.1 hb.2
        have hut := elemSlice_spec hel
        refine opOk_pure fun B w0 ρ a w he hm => ?_
        have hL := slSz_ok hm hsz
        simp only at h3 h4
        rcases evs_rel he hx with ⟨g1, g2, g3, g4, g5⟩ | ⟨g1, g2, ad, g3, g4⟩
        · have e1 : p = 0 := by omega
          have e2 : q = 0 := by omega
          subst e1; subst e2; subst g3; subst g4
          refine ⟨.slice none 0 0, ?_, .inl ⟨g1, g2, rfl, rfl, rfl⟩⟩
          have hbd := run_bounds (P := P) he (cap := 0) hl hu (Nat.le_refl _) (Nat.le_refl _) w
          simp [execOp, ho, g5, Instr.sliceAt, Instr.slice, run_underlying hut, hbd, run_sizeOf w hinf]
        · refine ⟨.slice (some (if (ρ h).cap - off = p then ad else ad.add (p * P.cellsOf e))) (q - p) ((ρ h).cap - off - p), ?_, .inr ⟨g1, by simp only; omega, if (ρ h).cap - off = p then ad else ad.add (p * P.cellsOf e), ?_, fun hc => ?_⟩⟩
          · have hbd := run_bounds (P := P) he (cap := (ρ h).cap - off) hl hu h3 (by omega) w
            simp only [execOp, ho, g3, Instr.sliceAt, Instr.slice, run_underlying hut, hbd, run_sizeOf w hinf, Sem.run_bind, Result.andThen_ok, Sem.run_pure, Option.map_none]
            congr 2
            split <;> simp_all
          · rw [Nat.sub_sub]
          · simp only at hc ⊢
            have ha := g4 (by omega)
            subst ha
            rw [hL, hb1]
            split
            · rcases hc with hc | hc
              · omega
              · have e1 : off = 0 := by omega
                have e2 : p = 0 := by omega
                subst e1; subst e2; simp
            · rw [addr_add, Nat.add_mul, Nat.add_assoc]
      · trivial
    · rename_i e hel hx
      split
      · rename_i l u hl hu
        refine Comes.Ok.bif fun hb => ?_
        rintro _ ⟨rfl, rfl⟩
        obtain ⟨inf, hinf⟩ := Option.isSome_iff_exists.1 hb
        have hut := elemSlice_spec hel
        refine opOk_pure fun B w0 ρ a w he hm => ?_
        obtain ⟨g5, _⟩ := evs_rel he hx
        have hbd := run_bounds (P := P) he (l := 0) (u := 0) (len := 0) (cap := 0) hl hu (Nat.le_refl _) (Nat.le_refl _) w
        exact ⟨.slice none 0 0, by simp [execOp, ho, g5, Instr.sliceAt, Instr.slice, run_underlying hut, hbd, run_sizeOf w hinf], rfl, rfl⟩
      · trivial
    · rename_i h k hel hx
      split
      · rename_i n e cells sz te har hreg
        refine Comes.Ok.bif fun hb => ?_
        simp only [Bool.and_eq_true] at hb
        obtain ⟨b1, b2, b3, b4, b5⟩ := hb
        have b1 := Nat.eq_of_beq_eq_true b1
        have b2 := Nat.eq_of_beq_eq_true b2
        have b3 := Nat.eq_of_beq_eq_true b3
        have b4 := Nat.eq_of_beq_eq_true b4
        obtain ⟨inf, hinf⟩ := Option.isSome_iff_exists.1 b5
        subst b1; subst b2
        split
        · rename_i l u hl hu
          rintro ⟨p, q⟩ ⟨rfl, rfl, h3, h4⟩
          simp only at h3 h4
          have hut := arrInfo_spec har
          refine opOk_pure fun B w0 ρ a w he hm => ?_
          have g1 : a.eval x = ptrVal ρ h 0 := evs_rel he hx
          obtain ⟨r1, r2, ⟨r3, r4, r5⟩, ys, r6, r7⟩ := hm.regs _ _ hreg
          have hbd := run_bounds_arr (P := P) he (n := n) hl hu h3 h4 w
          refine ⟨.slice (some (if n = p then ⟨(ρ h).blk, 0, none⟩ else (⟨(ρ h).blk, 0, none⟩ : Addr).add (p * P.cellsOf e))) (q - p) (n - p), ?_, .inr ⟨r1, by simp only; omega, if n = p then ⟨(ρ h).blk, 0, none⟩ else (⟨(ρ h).blk, 0, none⟩ : Addr).add (p * P.cellsOf e), ?_, fun hc => ?_⟩⟩
          · simp only [execOp, ho, g1, ptrVal, r2, Nat.add_zero, Instr.sliceAt, Instr.sureAddr, run_underlying hut, hbd, run_sizeOf w hinf, Sem.run_bind, Result.andThen_ok, Sem.run_pure, Option.map_none]
          · simp only
            rw [show (ρ h).cap = n by omega]
          · simp only at hc ⊢
            rw [r2, r3, b4]
            split
            · rcases hc with hc | hc
              · omega
              · subst hc; simp
            · rw [addr_add]
        · trivial
      · trivial
    · trivial

theorem strOf_spec : ∀ (xs : List Value) (r s : ByteArray), strOf xs r = some s → ∃ ns : List Int, xs = ns.map (Value.int .u8) ∧ ns.foldl (fun r n => r.push (UInt8.ofNat n.toNat)) r = s
  | [], r, s, h => by simp [strOf] at h; exact ⟨[], rfl, h⟩
  | x :: xs, r, s, h => by
    cases x <;> first
      | (simp [strOf] at h; done)
      | skip
    rename_i k n
    cases k <;> first
      | (simp [strOf] at h; done)
      | skip
    obtain ⟨ns, rfl, h2⟩ := strOf_spec xs _ s h
    exact ⟨n :: ns, rfl, h2⟩

theorem cToString_ok {s d : TypeId} {x : Operand} (ho : o.op = .convert s d x) (hd : P.underlying d = some .string) : (cToString P env m s x).Ok P o env m := by
  unfold cToString
  refine Comes.Ok.bif fun hb => ?_
  split
  · rename_i vx hx
    split
    · rename_i xs k hg
      rintro r ⟨hr, hl⟩
      have hby : ∃ e, P.underlying s = some (.slice e) ∧ P.underlying e = some (.int .u8) := by
        unfold isBytes at hb
        split at hb
        · rename_i e he
          split at hb
          · rename_i h2; exact ⟨e, he, h2⟩
          · cases hb
        · cases hb
      obtain ⟨e, h1, h2⟩ := hby
      refine opOk_pure fun B w0 ρ a w he hm => ?_
      have h3 := givesOf_rel hm hg (evs_rel he hx) (by omega) (Nat.lt_succ_self 0)
      obtain ⟨ns, rfl, h4⟩ := strOf_spec _ _ _ hr
      refine ⟨.string r, ?_, rfl, rfl⟩
      have hrun : (convert s d (a.eval x)).run P w = .ok (.string r) w := by
        generalize a.eval x = y at h3
        generalize hnews : ns.map (Value.int .u8) = news' at h3
        cases h3 with
        | none =>
          rw [run_convert_bytes_string w s d e none 0 0 h1 h2 hd]
          have : ns = [] := by
            cases ns with
            | nil => rfl
            | cons n ns => simp at hnews
          subst this
          simp at h4
          subst h4
          simp [Conv.bytesToString]
        | some ad k c news g1 g2 g3 =>
          subst hnews
          rw [run_convert_bytes_string w s d e (some ad) _ c h1 h2 hd]
          have hlc := run_loadCells_list (P := P) w ad (ns.map (Value.int .u8)) g2
          rw [hl] at hlc
          have hb := run_bytesToString (P := P) w ad k c ns hlc
          rw [hb, h4]
      simp [execOp, ho, hrun]
    · trivial
  · trivial

end Go.SE
