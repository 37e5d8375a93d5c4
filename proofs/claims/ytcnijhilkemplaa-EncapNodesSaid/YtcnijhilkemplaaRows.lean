/-
  No cell of these rows narrows 'for every input' (looked for: loops, veiled, ifaces, maps, wideKeys, modest, calm, conditions, laid).
  DERIVED. THE GIVEN ROWS OF THIS SEAT. 5 by the template 'for every input the law returns true; each argument reads behind the call as it read before'; 0 by the template 'total and deterministic' (their statements: YtcnijhilkemplaaTotals.lean).
  GIVEN WITH THE SEED: the statements are not yours to turn. If you find one false, say at which input.
  Laid BY PROGRAM, IN A SANDBOX (cutbox-rows.mjs): the forced cells as the released guide's own fill.sh prints them over the translation a70609c490c2d88e… (all of the seat's roots in one cut). By AI agents, Wed Nov 11 2026. No macro, syntax, notation, axiom, sorry.
-/
import Derived.Test.YtcnijhilkemplaaChecked
import GoSem.Claim
import GoSem.ClaimJoined
import GoSem.ClaimMapViews
import Derived.JoinedTies
import Derived.KernelRfl
namespace Go.Proofs.Ytcnijhilkemplaa
/- THE CELL 'sum', in the pinned program and in every row, IS THE sha256 OF THE DUMP (.gsa) THAT YtcnijhilkemplaaProg.lean LOADS. Nothing in Lean hashes anything: it is a label: what it is worth is what the hold of that sum in a sandbox is worth. -/
noncomputable def Try.pinned : Pinned := { name := "ytcnijhilkemplaa", sum := "a70609c490c2d88e6af99424eb7013d3d4fdba82b67be561e945c1b3d87ae971", checked := Try.checked }
namespace Rows
def none {H : Type} : Left H := { results := [], args := [] }

/-- 'handfastlaw07.EncapTells': WHATEVER THE INPUT: true; the input reads as it did. -/
def encapTellsSpec : ChangeSpec := { name := "encapTells", fn := fun _ => fun
  | [d1, d2, d3, d4, d5] => { results := [.lit (.bool true)], args := [d1, d2, d3, d4, d5] }
  | _ => none }
def encapTellsRow : OpenClaim := { program := "ytcnijhilkemplaa", sum := "a70609c490c2d88e6af99424eb7013d3d4fdba82b67be561e945c1b3d87ae971", func := "handfast/handfastlaw07.EncapTells", spec := "encapTells", unfollowed := true, recurses := true, plainKeys := false, apart := false }
def EncapTellsSaid : Prop := encapTellsRow.holds Try.pinned (OpenSpec.ofChange encapTellsSpec)

/-- ITS FALSE NEIGHBOUR: 'it returns false'. Refute it at one input. -/
def encapTellsWrong : ChangeSpec := { name := "encapTells", fn := fun _ => fun
  | [d1, d2, d3, d4, d5] => { results := [.lit (.bool false)], args := [d1, d2, d3, d4, d5] }
  | _ => none }
def EncapTellsWrongFalsely : Prop := encapTellsRow.holds Try.pinned (OpenSpec.ofChange encapTellsWrong)

/-- 'handfastlaw07.EncapBack': WHATEVER THE INPUT: true; the input reads as it did. -/
def encapBackSpec : ChangeSpec := { name := "encapBack", fn := fun _ => fun
  | [d1, d2] => { results := [.lit (.bool true)], args := [d1, d2] }
  | _ => none }
def encapBackRow : OpenClaim := { program := "ytcnijhilkemplaa", sum := "a70609c490c2d88e6af99424eb7013d3d4fdba82b67be561e945c1b3d87ae971", func := "handfast/handfastlaw07.EncapBack", spec := "encapBack", unfollowed := true, recurses := true, plainKeys := false, apart := false }
def EncapBackSaid : Prop := encapBackRow.holds Try.pinned (OpenSpec.ofChange encapBackSpec)

/-- ITS FALSE NEIGHBOUR: 'it returns false'. Refute it at one input. -/
def encapBackWrong : ChangeSpec := { name := "encapBack", fn := fun _ => fun
  | [d1, d2] => { results := [.lit (.bool false)], args := [d1, d2] }
  | _ => none }
def EncapBackWrongFalsely : Prop := encapBackRow.holds Try.pinned (OpenSpec.ofChange encapBackWrong)

/-- 'handfastlaw07.EncapOnly': WHATEVER THE INPUT: true; the input reads as it did. -/
def encapOnlySpec : ChangeSpec := { name := "encapOnly", fn := fun _ => fun
  | [d] => { results := [.lit (.bool true)], args := [d] }
  | _ => none }
def encapOnlyRow : OpenClaim := { program := "ytcnijhilkemplaa", sum := "a70609c490c2d88e6af99424eb7013d3d4fdba82b67be561e945c1b3d87ae971", func := "handfast/handfastlaw07.EncapOnly", spec := "encapOnly", unfollowed := true, recurses := true, plainKeys := false, apart := false }
def EncapOnlySaid : Prop := encapOnlyRow.holds Try.pinned (OpenSpec.ofChange encapOnlySpec)

/-- ITS FALSE NEIGHBOUR: 'it returns false'. Refute it at one input. -/
def encapOnlyWrong : ChangeSpec := { name := "encapOnly", fn := fun _ => fun
  | [d] => { results := [.lit (.bool false)], args := [d] }
  | _ => none }
def EncapOnlyWrongFalsely : Prop := encapOnlyRow.holds Try.pinned (OpenSpec.ofChange encapOnlyWrong)

/-- 'handfastlaw07.EncapNodes': WHATEVER THE INPUT: true; the input reads as it did. -/
def encapNodesSpec : ChangeSpec := { name := "encapNodes", fn := fun _ => fun
  | [d1, d2] => { results := [.lit (.bool true)], args := [d1, d2] }
  | _ => none }
def encapNodesRow : OpenClaim := { program := "ytcnijhilkemplaa", sum := "a70609c490c2d88e6af99424eb7013d3d4fdba82b67be561e945c1b3d87ae971", func := "handfast/handfastlaw07.EncapNodes", spec := "encapNodes", unfollowed := true, recurses := true, plainKeys := false, apart := false }
def EncapNodesSaid : Prop := encapNodesRow.holds Try.pinned (OpenSpec.ofChange encapNodesSpec)

/-- ITS FALSE NEIGHBOUR: 'it returns false'. Refute it at one input. -/
def encapNodesWrong : ChangeSpec := { name := "encapNodes", fn := fun _ => fun
  | [d1, d2] => { results := [.lit (.bool false)], args := [d1, d2] }
  | _ => none }
def EncapNodesWrongFalsely : Prop := encapNodesRow.holds Try.pinned (OpenSpec.ofChange encapNodesWrong)

/-- 'handfastlaw07.EncapOwn': WHATEVER THE INPUT: true; the input reads as it did. -/
def encapOwnSpec : ChangeSpec := { name := "encapOwn", fn := fun _ => fun
  | [d1, d2] => { results := [.lit (.bool true)], args := [d1, d2] }
  | _ => none }
def encapOwnRow : OpenClaim := { program := "ytcnijhilkemplaa", sum := "a70609c490c2d88e6af99424eb7013d3d4fdba82b67be561e945c1b3d87ae971", func := "handfast/handfastlaw07.EncapOwn", spec := "encapOwn", unfollowed := true, recurses := true, plainKeys := false, apart := false }
def EncapOwnSaid : Prop := encapOwnRow.holds Try.pinned (OpenSpec.ofChange encapOwnSpec)

/-- ITS FALSE NEIGHBOUR: 'it returns false'. Refute it at one input. -/
def encapOwnWrong : ChangeSpec := { name := "encapOwn", fn := fun _ => fun
  | [d1, d2] => { results := [.lit (.bool false)], args := [d1, d2] }
  | _ => none }
def EncapOwnWrongFalsely : Prop := encapOwnRow.holds Try.pinned (OpenSpec.ofChange encapOwnWrong)

/- THE SECOND FORM. 'bulk': how many values and letters a reading holds, each counted each time it is reached (what is shared counts as often as it is met; a slice's spare places count too). A statement '..UptoSaid' is the law's where the arguments, and the package variables that the reading takes, are together of bulk at most 1048576: NARROWER than '..Said'. Prove '..Said' where nothing that the law and all that it calls make is longer than what came in: it says more and counts as full. Else prove '..UptoSaid'. A law counts once. -/
mutual
def uptoBulk {H : Type} : DataW H → Nat
  | .lit (.string bytes) => bytes.length + 1
  | .lit _ => 1
  | .nil => 1
  | .ptr d => uptoBulk d + 1
  | .slice elems spare => uptoBulkAll elems + uptoBulkAll spare + 1
  | .agg parts => uptoBulkAll parts + 1
  | .iface _ d => uptoBulk d + 1
  | .map entries => uptoBulkEntries entries + 1
  | .held _ => 1
def uptoBulkAll {H : Type} : List (DataW H) → Nat
  | [] => 0
  | d :: r => uptoBulk d + uptoBulkAll r
def uptoBulkEntries {H : Type} : List (Lit × DataW H) → Nat
  | [] => 0
  | x :: r => uptoBulkEntry x + uptoBulkEntries r
def uptoBulkEntry {H : Type} : Lit × DataW H → Nat
  | (.string bytes, d) => bytes.length + uptoBulk d + 1
  | (_, d) => uptoBulk d + 1
 end
def uptoSmall : (H : Type) → List (DataW H) → Bool := fun _ ds => decide (uptoBulkAll ds ≤ 1048576)
def OpenSpec.upto (s : _root_.Go.ChangeSpec) : _root_.Go.OpenSpec := { _root_.Go.OpenSpec.ofChange s with cond := some uptoSmall }

/-- 'handfastlaw07.EncapTells', WHERE WHAT IT READS IS OF BULK AT MOST 1048576: true; the input reads as it did. -/
def encapTellsUptoRow : OpenClaim := { program := "ytcnijhilkemplaa", sum := "a70609c490c2d88e6af99424eb7013d3d4fdba82b67be561e945c1b3d87ae971", func := "handfast/handfastlaw07.EncapTells", spec := "encapTells", unfollowed := true, recurses := true, plainKeys := false, apart := false, narrowed := true }
def EncapTellsUptoSaid : Prop := encapTellsUptoRow.holds Try.pinned (OpenSpec.upto encapTellsSpec)

/-- 'handfastlaw07.EncapBack', WHERE WHAT IT READS IS OF BULK AT MOST 1048576: true; the input reads as it did. -/
def encapBackUptoRow : OpenClaim := { program := "ytcnijhilkemplaa", sum := "a70609c490c2d88e6af99424eb7013d3d4fdba82b67be561e945c1b3d87ae971", func := "handfast/handfastlaw07.EncapBack", spec := "encapBack", unfollowed := true, recurses := true, plainKeys := false, apart := false, narrowed := true }
def EncapBackUptoSaid : Prop := encapBackUptoRow.holds Try.pinned (OpenSpec.upto encapBackSpec)

/-- 'handfastlaw07.EncapOnly', WHERE WHAT IT READS IS OF BULK AT MOST 1048576: true; the input reads as it did. -/
def encapOnlyUptoRow : OpenClaim := { program := "ytcnijhilkemplaa", sum := "a70609c490c2d88e6af99424eb7013d3d4fdba82b67be561e945c1b3d87ae971", func := "handfast/handfastlaw07.EncapOnly", spec := "encapOnly", unfollowed := true, recurses := true, plainKeys := false, apart := false, narrowed := true }
def EncapOnlyUptoSaid : Prop := encapOnlyUptoRow.holds Try.pinned (OpenSpec.upto encapOnlySpec)

/-- 'handfastlaw07.EncapNodes', WHERE WHAT IT READS IS OF BULK AT MOST 1048576: true; the input reads as it did. -/
def encapNodesUptoRow : OpenClaim := { program := "ytcnijhilkemplaa", sum := "a70609c490c2d88e6af99424eb7013d3d4fdba82b67be561e945c1b3d87ae971", func := "handfast/handfastlaw07.EncapNodes", spec := "encapNodes", unfollowed := true, recurses := true, plainKeys := false, apart := false, narrowed := true }
def EncapNodesUptoSaid : Prop := encapNodesUptoRow.holds Try.pinned (OpenSpec.upto encapNodesSpec)

/-- 'handfastlaw07.EncapOwn', WHERE WHAT IT READS IS OF BULK AT MOST 1048576: true; the input reads as it did. -/
def encapOwnUptoRow : OpenClaim := { program := "ytcnijhilkemplaa", sum := "a70609c490c2d88e6af99424eb7013d3d4fdba82b67be561e945c1b3d87ae971", func := "handfast/handfastlaw07.EncapOwn", spec := "encapOwn", unfollowed := true, recurses := true, plainKeys := false, apart := false, narrowed := true }
def EncapOwnUptoSaid : Prop := encapOwnUptoRow.holds Try.pinned (OpenSpec.upto encapOwnSpec)

end Rows
end Go.Proofs.Ytcnijhilkemplaa
