/-
  No cell of these rows narrows 'for every input' (looked for: loops, veiled, ifaces, maps, wideKeys, modest, calm, conditions, laid).
  DERIVED. THE GIVEN ROWS OF THIS SEAT. 8 by the template 'for every input the law returns true; each argument reads behind the call as it read before'; 0 by the template 'total and deterministic' (their statements: YtiijiofhofkhkaaTotals.lean).
  GIVEN WITH THE SEED: the statements are not yours to turn. If you find one false, say at which input.
  Laid BY PROGRAM, IN A SANDBOX (cutbox-rows.mjs): the forced cells as the released guide's own fill.sh prints them over the translation 6975db72b9c5ca6a… (all of the seat's roots in one cut). By AI agents, Wed Nov 11 2026. No macro, syntax, notation, axiom, sorry.
-/
import Derived.Test.YtiijiofhofkhkaaChecked
import GoSem.Claim
import GoSem.ClaimJoined
import GoSem.ClaimMapViews
import Derived.JoinedTies
import Derived.KernelRfl
namespace Go.Proofs.Ytiijiofhofkhkaa
/- THE CELL 'sum', in the pinned program and in every row, IS THE sha256 OF THE DUMP (.gsa) THAT YtiijiofhofkhkaaProg.lean LOADS. Nothing in Lean hashes anything: it is a label: what it is worth is what the hold of that sum in a sandbox is worth. -/
noncomputable def Try.pinned : Pinned := { name := "ytiijiofhofkhkaa", sum := "6975db72b9c5ca6a661a9abcf39ae59a66492a6f6f2535305f5f09a9ff834b47", checked := Try.checked }
namespace Rows
def none {H : Type} : Left H := { results := [], args := [] }

/-- 'handfastlaw19.ControlTells': WHATEVER THE INPUT: true; the input reads as it did. -/
def controlTellsSpec : ChangeSpec := { name := "controlTells", fn := fun _ => fun
  | [d1, d2, d3] => { results := [.lit (.bool true)], args := [d1, d2, d3] }
  | _ => none }
def controlTellsRow : OpenClaim := { program := "ytiijiofhofkhkaa", sum := "6975db72b9c5ca6a661a9abcf39ae59a66492a6f6f2535305f5f09a9ff834b47", func := "handfast/handfastlaw19.ControlTells", spec := "controlTells", unfollowed := true, recurses := true, apart := false }
def ControlTellsSaid : Prop := controlTellsRow.holds Try.pinned (OpenSpec.ofChange controlTellsSpec)

/-- ITS FALSE NEIGHBOUR: 'it returns false'. Refute it at one input. -/
def controlTellsWrong : ChangeSpec := { name := "controlTells", fn := fun _ => fun
  | [d1, d2, d3] => { results := [.lit (.bool false)], args := [d1, d2, d3] }
  | _ => none }
def ControlTellsWrongFalsely : Prop := controlTellsRow.holds Try.pinned (OpenSpec.ofChange controlTellsWrong)

/-- 'handfastlaw19.ControlBack': WHATEVER THE INPUT: true; the input reads as it did. -/
def controlBackSpec : ChangeSpec := { name := "controlBack", fn := fun _ => fun
  | [d1, d2, d3] => { results := [.lit (.bool true)], args := [d1, d2, d3] }
  | _ => none }
def controlBackRow : OpenClaim := { program := "ytiijiofhofkhkaa", sum := "6975db72b9c5ca6a661a9abcf39ae59a66492a6f6f2535305f5f09a9ff834b47", func := "handfast/handfastlaw19.ControlBack", spec := "controlBack", unfollowed := true, recurses := true, apart := false }
def ControlBackSaid : Prop := controlBackRow.holds Try.pinned (OpenSpec.ofChange controlBackSpec)

/-- ITS FALSE NEIGHBOUR: 'it returns false'. Refute it at one input. -/
def controlBackWrong : ChangeSpec := { name := "controlBack", fn := fun _ => fun
  | [d1, d2, d3] => { results := [.lit (.bool false)], args := [d1, d2, d3] }
  | _ => none }
def ControlBackWrongFalsely : Prop := controlBackRow.holds Try.pinned (OpenSpec.ofChange controlBackWrong)

/-- 'handfastlaw19.ControlOnly': WHATEVER THE INPUT: true; the input reads as it did. -/
def controlOnlySpec : ChangeSpec := { name := "controlOnly", fn := fun _ => fun
  | [d] => { results := [.lit (.bool true)], args := [d] }
  | _ => none }
def controlOnlyRow : OpenClaim := { program := "ytiijiofhofkhkaa", sum := "6975db72b9c5ca6a661a9abcf39ae59a66492a6f6f2535305f5f09a9ff834b47", func := "handfast/handfastlaw19.ControlOnly", spec := "controlOnly", unfollowed := true, recurses := true, apart := false }
def ControlOnlySaid : Prop := controlOnlyRow.holds Try.pinned (OpenSpec.ofChange controlOnlySpec)

/-- ITS FALSE NEIGHBOUR: 'it returns false'. Refute it at one input. -/
def controlOnlyWrong : ChangeSpec := { name := "controlOnly", fn := fun _ => fun
  | [d] => { results := [.lit (.bool false)], args := [d] }
  | _ => none }
def ControlOnlyWrongFalsely : Prop := controlOnlyRow.holds Try.pinned (OpenSpec.ofChange controlOnlyWrong)

/-- 'handfastlaw19.ControlAcks': WHATEVER THE INPUT: true; the input reads as it did. -/
def controlAcksSpec : ChangeSpec := { name := "controlAcks", fn := fun _ => fun
  | [d1, d2] => { results := [.lit (.bool true)], args := [d1, d2] }
  | _ => none }
def controlAcksRow : OpenClaim := { program := "ytiijiofhofkhkaa", sum := "6975db72b9c5ca6a661a9abcf39ae59a66492a6f6f2535305f5f09a9ff834b47", func := "handfast/handfastlaw19.ControlAcks", spec := "controlAcks", unfollowed := true, recurses := true, apart := false }
def ControlAcksSaid : Prop := controlAcksRow.holds Try.pinned (OpenSpec.ofChange controlAcksSpec)

/-- ITS FALSE NEIGHBOUR: 'it returns false'. Refute it at one input. -/
def controlAcksWrong : ChangeSpec := { name := "controlAcks", fn := fun _ => fun
  | [d1, d2] => { results := [.lit (.bool false)], args := [d1, d2] }
  | _ => none }
def ControlAcksWrongFalsely : Prop := controlAcksRow.holds Try.pinned (OpenSpec.ofChange controlAcksWrong)

/-- 'handfastlaw19.ControlMay': WHATEVER THE INPUT: true; the input reads as it did. -/
def controlMaySpec : ChangeSpec := { name := "controlMay", fn := fun _ => fun
  | [d1, d2] => { results := [.lit (.bool true)], args := [d1, d2] }
  | _ => none }
def controlMayRow : OpenClaim := { program := "ytiijiofhofkhkaa", sum := "6975db72b9c5ca6a661a9abcf39ae59a66492a6f6f2535305f5f09a9ff834b47", func := "handfast/handfastlaw19.ControlMay", spec := "controlMay", unfollowed := true, recurses := true, apart := false }
def ControlMaySaid : Prop := controlMayRow.holds Try.pinned (OpenSpec.ofChange controlMaySpec)

/-- ITS FALSE NEIGHBOUR: 'it returns false'. Refute it at one input. -/
def controlMayWrong : ChangeSpec := { name := "controlMay", fn := fun _ => fun
  | [d1, d2] => { results := [.lit (.bool false)], args := [d1, d2] }
  | _ => none }
def ControlMayWrongFalsely : Prop := controlMayRow.holds Try.pinned (OpenSpec.ofChange controlMayWrong)

/-- 'handfastlaw22.MoveRises': WHATEVER THE INPUT: true; the input reads as it did. -/
def moveRisesSpec : ChangeSpec := { name := "moveRises", fn := fun _ => fun
  | [d1, d2, d3, d4] => { results := [.lit (.bool true)], args := [d1, d2, d3, d4] }
  | _ => none }
def moveRisesRow : OpenClaim := { program := "ytiijiofhofkhkaa", sum := "6975db72b9c5ca6a661a9abcf39ae59a66492a6f6f2535305f5f09a9ff834b47", func := "handfast/handfastlaw22.MoveRises", spec := "moveRises", unfollowed := true, recurses := true, apart := false }
def MoveRisesSaid : Prop := moveRisesRow.holds Try.pinned (OpenSpec.ofChange moveRisesSpec)

/-- ITS FALSE NEIGHBOUR: 'it returns false'. Refute it at one input. -/
def moveRisesWrong : ChangeSpec := { name := "moveRises", fn := fun _ => fun
  | [d1, d2, d3, d4] => { results := [.lit (.bool false)], args := [d1, d2, d3, d4] }
  | _ => none }
def MoveRisesWrongFalsely : Prop := moveRisesRow.holds Try.pinned (OpenSpec.ofChange moveRisesWrong)

/-- 'handfastlaw22.MoveWhole': WHATEVER THE INPUT: true; the input reads as it did. -/
def moveWholeSpec : ChangeSpec := { name := "moveWhole", fn := fun _ => fun
  | [d1, d2, d3, d4, d5] => { results := [.lit (.bool true)], args := [d1, d2, d3, d4, d5] }
  | _ => none }
def moveWholeRow : OpenClaim := { program := "ytiijiofhofkhkaa", sum := "6975db72b9c5ca6a661a9abcf39ae59a66492a6f6f2535305f5f09a9ff834b47", func := "handfast/handfastlaw22.MoveWhole", spec := "moveWhole", unfollowed := true, recurses := true, apart := false }
def MoveWholeSaid : Prop := moveWholeRow.holds Try.pinned (OpenSpec.ofChange moveWholeSpec)

/-- ITS FALSE NEIGHBOUR: 'it returns false'. Refute it at one input. -/
def moveWholeWrong : ChangeSpec := { name := "moveWhole", fn := fun _ => fun
  | [d1, d2, d3, d4, d5] => { results := [.lit (.bool false)], args := [d1, d2, d3, d4, d5] }
  | _ => none }
def MoveWholeWrongFalsely : Prop := moveWholeRow.holds Try.pinned (OpenSpec.ofChange moveWholeWrong)

/-- 'handfastlaw22.MoveRefused': WHATEVER THE INPUT: true; the input reads as it did. -/
def moveRefusedSpec : ChangeSpec := { name := "moveRefused", fn := fun _ => fun
  | [d1, d2, d3, d4, d5] => { results := [.lit (.bool true)], args := [d1, d2, d3, d4, d5] }
  | _ => none }
def moveRefusedRow : OpenClaim := { program := "ytiijiofhofkhkaa", sum := "6975db72b9c5ca6a661a9abcf39ae59a66492a6f6f2535305f5f09a9ff834b47", func := "handfast/handfastlaw22.MoveRefused", spec := "moveRefused", unfollowed := true, recurses := true, apart := false }
def MoveRefusedSaid : Prop := moveRefusedRow.holds Try.pinned (OpenSpec.ofChange moveRefusedSpec)

/-- ITS FALSE NEIGHBOUR: 'it returns false'. Refute it at one input. -/
def moveRefusedWrong : ChangeSpec := { name := "moveRefused", fn := fun _ => fun
  | [d1, d2, d3, d4, d5] => { results := [.lit (.bool false)], args := [d1, d2, d3, d4, d5] }
  | _ => none }
def MoveRefusedWrongFalsely : Prop := moveRefusedRow.holds Try.pinned (OpenSpec.ofChange moveRefusedWrong)

/- THE SECOND FORM. 'bulk': how many values and letters a reading holds, each counted each time it is reached (what is shared counts as often as it is met; a slice's spare places count too). A statement '..UptoSaid' is the law's where the arguments, and the package variables that the reading takes, are together of bulk at most 1048576: NARROWER than '..Said'. Prove '..Said' where nothing that the law and all that it calls make is longer than what came in: it says more and counts as full. Else prove '..UptoSaid'. A law counts once. -/
mutual
def uptoBulk {H : Type} : DataW H → Nat
  | .lit (.string bytes) => bytes.length + 1
  | .lit _ => 1
  | .nil => 1
  | .ptr d => uptoBulk d + 1
  | .slice elems spare => uptoBulkAll elems + uptoBulkAll spare + 1
  | .agg parts => uptoBulkAll parts + 1
  | .iface _ d => uptoBulk d + 1
  | .map entries => uptoBulkEntries entries + 1
  | .held _ => 1
def uptoBulkAll {H : Type} : List (DataW H) → Nat
  | [] => 0
  | d :: r => uptoBulk d + uptoBulkAll r
def uptoBulkEntries {H : Type} : List (Lit × DataW H) → Nat
  | [] => 0
  | x :: r => uptoBulkEntry x + uptoBulkEntries r
def uptoBulkEntry {H : Type} : Lit × DataW H → Nat
  | (.string bytes, d) => bytes.length + uptoBulk d + 1
  | (_, d) => uptoBulk d + 1
 end
def uptoSmall : (H : Type) → List (DataW H) → Bool := fun _ ds => decide (uptoBulkAll ds ≤ 1048576)
def OpenSpec.upto (s : _root_.Go.ChangeSpec) : _root_.Go.OpenSpec := { _root_.Go.OpenSpec.ofChange s with cond := some uptoSmall }

/-- 'handfastlaw19.ControlTells', WHERE WHAT IT READS IS OF BULK AT MOST 1048576: true; the input reads as it did. -/
def controlTellsUptoRow : OpenClaim := { program := "ytiijiofhofkhkaa", sum := "6975db72b9c5ca6a661a9abcf39ae59a66492a6f6f2535305f5f09a9ff834b47", func := "handfast/handfastlaw19.ControlTells", spec := "controlTells", unfollowed := true, recurses := true, apart := false, narrowed := true }
def ControlTellsUptoSaid : Prop := controlTellsUptoRow.holds Try.pinned (OpenSpec.upto controlTellsSpec)

/-- 'handfastlaw19.ControlBack', WHERE WHAT IT READS IS OF BULK AT MOST 1048576: true; the input reads as it did. -/
def controlBackUptoRow : OpenClaim := { program := "ytiijiofhofkhkaa", sum := "6975db72b9c5ca6a661a9abcf39ae59a66492a6f6f2535305f5f09a9ff834b47", func := "handfast/handfastlaw19.ControlBack", spec := "controlBack", unfollowed := true, recurses := true, apart := false, narrowed := true }
def ControlBackUptoSaid : Prop := controlBackUptoRow.holds Try.pinned (OpenSpec.upto controlBackSpec)

/-- 'handfastlaw19.ControlOnly', WHERE WHAT IT READS IS OF BULK AT MOST 1048576: true; the input reads as it did. -/
def controlOnlyUptoRow : OpenClaim := { program := "ytiijiofhofkhkaa", sum := "6975db72b9c5ca6a661a9abcf39ae59a66492a6f6f2535305f5f09a9ff834b47", func := "handfast/handfastlaw19.ControlOnly", spec := "controlOnly", unfollowed := true, recurses := true, apart := false, narrowed := true }
def ControlOnlyUptoSaid : Prop := controlOnlyUptoRow.holds Try.pinned (OpenSpec.upto controlOnlySpec)

/-- 'handfastlaw19.ControlAcks', WHERE WHAT IT READS IS OF BULK AT MOST 1048576: true; the input reads as it did. -/
def controlAcksUptoRow : OpenClaim := { program := "ytiijiofhofkhkaa", sum := "6975db72b9c5ca6a661a9abcf39ae59a66492a6f6f2535305f5f09a9ff834b47", func := "handfast/handfastlaw19.ControlAcks", spec := "controlAcks", unfollowed := true, recurses := true, apart := false, narrowed := true }
def ControlAcksUptoSaid : Prop := controlAcksUptoRow.holds Try.pinned (OpenSpec.upto controlAcksSpec)

/-- 'handfastlaw19.ControlMay', WHERE WHAT IT READS IS OF BULK AT MOST 1048576: true; the input reads as it did. -/
def controlMayUptoRow : OpenClaim := { program := "ytiijiofhofkhkaa", sum := "6975db72b9c5ca6a661a9abcf39ae59a66492a6f6f2535305f5f09a9ff834b47", func := "handfast/handfastlaw19.ControlMay", spec := "controlMay", unfollowed := true, recurses := true, apart := false, narrowed := true }
def ControlMayUptoSaid : Prop := controlMayUptoRow.holds Try.pinned (OpenSpec.upto controlMaySpec)

/-- 'handfastlaw22.MoveRises', WHERE WHAT IT READS IS OF BULK AT MOST 1048576: true; the input reads as it did. -/
def moveRisesUptoRow : OpenClaim := { program := "ytiijiofhofkhkaa", sum := "6975db72b9c5ca6a661a9abcf39ae59a66492a6f6f2535305f5f09a9ff834b47", func := "handfast/handfastlaw22.MoveRises", spec := "moveRises", unfollowed := true, recurses := true, apart := false, narrowed := true }
def MoveRisesUptoSaid : Prop := moveRisesUptoRow.holds Try.pinned (OpenSpec.upto moveRisesSpec)

/-- 'handfastlaw22.MoveWhole', WHERE WHAT IT READS IS OF BULK AT MOST 1048576: true; the input reads as it did. -/
def moveWholeUptoRow : OpenClaim := { program := "ytiijiofhofkhkaa", sum := "6975db72b9c5ca6a661a9abcf39ae59a66492a6f6f2535305f5f09a9ff834b47", func := "handfast/handfastlaw22.MoveWhole", spec := "moveWhole", unfollowed := true, recurses := true, apart := false, narrowed := true }
def MoveWholeUptoSaid : Prop := moveWholeUptoRow.holds Try.pinned (OpenSpec.upto moveWholeSpec)

/-- 'handfastlaw22.MoveRefused', WHERE WHAT IT READS IS OF BULK AT MOST 1048576: true; the input reads as it did. -/
def moveRefusedUptoRow : OpenClaim := { program := "ytiijiofhofkhkaa", sum := "6975db72b9c5ca6a661a9abcf39ae59a66492a6f6f2535305f5f09a9ff834b47", func := "handfast/handfastlaw22.MoveRefused", spec := "moveRefused", unfollowed := true, recurses := true, apart := false, narrowed := true }
def MoveRefusedUptoSaid : Prop := moveRefusedUptoRow.holds Try.pinned (OpenSpec.upto moveRefusedSpec)

end Rows
end Go.Proofs.Ytiijiofhofkhkaa
