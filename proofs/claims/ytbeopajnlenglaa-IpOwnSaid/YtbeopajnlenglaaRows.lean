/-
  No cell of these rows narrows 'for every input' (looked for: loops, veiled, ifaces, maps, wideKeys, modest, calm, conditions, laid).
  DERIVED. THE GIVEN ROWS OF THIS SEAT. 5 by the template 'for every input the law returns true; each argument reads behind the call as it read before'; 0 by the template 'total and deterministic' (their statements: YtbeopajnlenglaaTotals.lean).
  GIVEN WITH THE SEED: the statements are not yours to turn. If you find one false, say at which input.
  Laid BY PROGRAM, IN A SANDBOX (cutbox-rows.mjs): the forced cells as the released guide's own fill.sh prints them over the translation ed781205c3547627… (all of the seat's roots in one cut). By AI agents, Wed Nov 11 2026. No macro, syntax, notation, axiom, sorry.
-/
import Derived.Test.YtbeopajnlenglaaChecked
import GoSem.Claim
import GoSem.ClaimJoined
import GoSem.ClaimMapViews
import Derived.JoinedTies
import Derived.KernelRfl
namespace Go.Proofs.Ytbeopajnlenglaa
/- THE CELL 'sum', in the pinned program and in every row, IS THE sha256 OF THE DUMP (.gsa) THAT YtbeopajnlenglaaProg.lean LOADS. Nothing in Lean hashes anything: it is a label: what it is worth is what the hold of that sum in a sandbox is worth. -/
noncomputable def Try.pinned : Pinned := { name := "ytbeopajnlenglaa", sum := "ed781205c3547627cedfbad3854ad7d7495511bce4e57949ca93223c2429964a", checked := Try.checked }
namespace Rows
def none {H : Type} : Left H := { results := [], args := [] }

/-- 'handfastlaw02.IpTells': WHATEVER THE INPUT: true; the input reads as it did. -/
def ipTellsSpec : ChangeSpec := { name := "ipTells", fn := fun _ => fun
  | [d1, d2, d3] => { results := [.lit (.bool true)], args := [d1, d2, d3] }
  | _ => none }
def ipTellsRow : OpenClaim := { program := "ytbeopajnlenglaa", sum := "ed781205c3547627cedfbad3854ad7d7495511bce4e57949ca93223c2429964a", func := "handfast/handfastlaw02.IpTells", spec := "ipTells", unfollowed := true, recurses := true, apart := false }
def IpTellsSaid : Prop := ipTellsRow.holds Try.pinned (OpenSpec.ofChange ipTellsSpec)

/-- ITS FALSE NEIGHBOUR: 'it returns false'. Refute it at one input. -/
def ipTellsWrong : ChangeSpec := { name := "ipTells", fn := fun _ => fun
  | [d1, d2, d3] => { results := [.lit (.bool false)], args := [d1, d2, d3] }
  | _ => none }
def IpTellsWrongFalsely : Prop := ipTellsRow.holds Try.pinned (OpenSpec.ofChange ipTellsWrong)

/-- 'handfastlaw02.IpBack': WHATEVER THE INPUT: true; the input reads as it did. -/
def ipBackSpec : ChangeSpec := { name := "ipBack", fn := fun _ => fun
  | [d1, d2, d3] => { results := [.lit (.bool true)], args := [d1, d2, d3] }
  | _ => none }
def ipBackRow : OpenClaim := { program := "ytbeopajnlenglaa", sum := "ed781205c3547627cedfbad3854ad7d7495511bce4e57949ca93223c2429964a", func := "handfast/handfastlaw02.IpBack", spec := "ipBack", unfollowed := true, recurses := true, apart := false }
def IpBackSaid : Prop := ipBackRow.holds Try.pinned (OpenSpec.ofChange ipBackSpec)

/-- ITS FALSE NEIGHBOUR: 'it returns false'. Refute it at one input. -/
def ipBackWrong : ChangeSpec := { name := "ipBack", fn := fun _ => fun
  | [d1, d2, d3] => { results := [.lit (.bool false)], args := [d1, d2, d3] }
  | _ => none }
def IpBackWrongFalsely : Prop := ipBackRow.holds Try.pinned (OpenSpec.ofChange ipBackWrong)

/-- 'handfastlaw02.IpByte': WHATEVER THE INPUT: true; the input reads as it did. -/
def ipByteSpec : ChangeSpec := { name := "ipByte", fn := fun _ => fun
  | [d1, d2, d3] => { results := [.lit (.bool true)], args := [d1, d2, d3] }
  | _ => none }
def ipByteRow : OpenClaim := { program := "ytbeopajnlenglaa", sum := "ed781205c3547627cedfbad3854ad7d7495511bce4e57949ca93223c2429964a", func := "handfast/handfastlaw02.IpByte", spec := "ipByte", unfollowed := true, recurses := true, apart := false }
def IpByteSaid : Prop := ipByteRow.holds Try.pinned (OpenSpec.ofChange ipByteSpec)

/-- ITS FALSE NEIGHBOUR: 'it returns false'. Refute it at one input. -/
def ipByteWrong : ChangeSpec := { name := "ipByte", fn := fun _ => fun
  | [d1, d2, d3] => { results := [.lit (.bool false)], args := [d1, d2, d3] }
  | _ => none }
def IpByteWrongFalsely : Prop := ipByteRow.holds Try.pinned (OpenSpec.ofChange ipByteWrong)

/-- 'handfastlaw02.IpReasons': WHATEVER THE INPUT: true; the input reads as it did. -/
def ipReasonsSpec : ChangeSpec := { name := "ipReasons", fn := fun _ => fun
  | [d1, d2, d3, d4] => { results := [.lit (.bool true)], args := [d1, d2, d3, d4] }
  | _ => none }
def ipReasonsRow : OpenClaim := { program := "ytbeopajnlenglaa", sum := "ed781205c3547627cedfbad3854ad7d7495511bce4e57949ca93223c2429964a", func := "handfast/handfastlaw02.IpReasons", spec := "ipReasons", unfollowed := true, recurses := true, apart := false }
def IpReasonsSaid : Prop := ipReasonsRow.holds Try.pinned (OpenSpec.ofChange ipReasonsSpec)

/-- ITS FALSE NEIGHBOUR: 'it returns false'. Refute it at one input. -/
def ipReasonsWrong : ChangeSpec := { name := "ipReasons", fn := fun _ => fun
  | [d1, d2, d3, d4] => { results := [.lit (.bool false)], args := [d1, d2, d3, d4] }
  | _ => none }
def IpReasonsWrongFalsely : Prop := ipReasonsRow.holds Try.pinned (OpenSpec.ofChange ipReasonsWrong)

/-- 'handfastlaw02.IpOwn': WHATEVER THE INPUT: true; the input reads as it did. -/
def ipOwnSpec : ChangeSpec := { name := "ipOwn", fn := fun _ => fun
  | [d] => { results := [.lit (.bool true)], args := [d] }
  | _ => none }
def ipOwnRow : OpenClaim := { program := "ytbeopajnlenglaa", sum := "ed781205c3547627cedfbad3854ad7d7495511bce4e57949ca93223c2429964a", func := "handfast/handfastlaw02.IpOwn", spec := "ipOwn", unfollowed := true, recurses := true, apart := false }
def IpOwnSaid : Prop := ipOwnRow.holds Try.pinned (OpenSpec.ofChange ipOwnSpec)

/-- ITS FALSE NEIGHBOUR: 'it returns false'. Refute it at one input. -/
def ipOwnWrong : ChangeSpec := { name := "ipOwn", fn := fun _ => fun
  | [d] => { results := [.lit (.bool false)], args := [d] }
  | _ => none }
def IpOwnWrongFalsely : Prop := ipOwnRow.holds Try.pinned (OpenSpec.ofChange ipOwnWrong)

/- THE SECOND FORM. 'bulk': how many values and letters a reading holds, each counted each time it is reached (what is shared counts as often as it is met; a slice's spare places count too). A statement '..UptoSaid' is the law's where the arguments, and the package variables that the reading takes, are together of bulk at most 1048576: NARROWER than '..Said'. Prove '..Said' where nothing that the law and all that it calls make is longer than what came in: it says more and counts as full. Else prove '..UptoSaid'. A law counts once. -/
mutual
def uptoBulk {H : Type} : DataW H → Nat
  | .lit (.string bytes) => bytes.length + 1
  | .lit _ => 1
  | .nil => 1
  | .ptr d => uptoBulk d + 1
  | .slice elems spare => uptoBulkAll elems + uptoBulkAll spare + 1
  | .agg parts => uptoBulkAll parts + 1
  | .iface _ d => uptoBulk d + 1
  | .map entries => uptoBulkEntries entries + 1
  | .held _ => 1
def uptoBulkAll {H : Type} : List (DataW H) → Nat
  | [] => 0
  | d :: r => uptoBulk d + uptoBulkAll r
def uptoBulkEntries {H : Type} : List (Lit × DataW H) → Nat
  | [] => 0
  | x :: r => uptoBulkEntry x + uptoBulkEntries r
def uptoBulkEntry {H : Type} : Lit × DataW H → Nat
  | (.string bytes, d) => bytes.length + uptoBulk d + 1
  | (_, d) => uptoBulk d + 1
 end
def uptoSmall : (H : Type) → List (DataW H) → Bool := fun _ ds => decide (uptoBulkAll ds ≤ 1048576)
def OpenSpec.upto (s : _root_.Go.ChangeSpec) : _root_.Go.OpenSpec := { _root_.Go.OpenSpec.ofChange s with cond := some uptoSmall }

/-- 'handfastlaw02.IpTells', WHERE WHAT IT READS IS OF BULK AT MOST 1048576: true; the input reads as it did. -/
def ipTellsUptoRow : OpenClaim := { program := "ytbeopajnlenglaa", sum := "ed781205c3547627cedfbad3854ad7d7495511bce4e57949ca93223c2429964a", func := "handfast/handfastlaw02.IpTells", spec := "ipTells", unfollowed := true, recurses := true, apart := false, narrowed := true }
def IpTellsUptoSaid : Prop := ipTellsUptoRow.holds Try.pinned (OpenSpec.upto ipTellsSpec)

/-- 'handfastlaw02.IpBack', WHERE WHAT IT READS IS OF BULK AT MOST 1048576: true; the input reads as it did. -/
def ipBackUptoRow : OpenClaim := { program := "ytbeopajnlenglaa", sum := "ed781205c3547627cedfbad3854ad7d7495511bce4e57949ca93223c2429964a", func := "handfast/handfastlaw02.IpBack", spec := "ipBack", unfollowed := true, recurses := true, apart := false, narrowed := true }
def IpBackUptoSaid : Prop := ipBackUptoRow.holds Try.pinned (OpenSpec.upto ipBackSpec)

/-- 'handfastlaw02.IpByte', WHERE WHAT IT READS IS OF BULK AT MOST 1048576: true; the input reads as it did. -/
def ipByteUptoRow : OpenClaim := { program := "ytbeopajnlenglaa", sum := "ed781205c3547627cedfbad3854ad7d7495511bce4e57949ca93223c2429964a", func := "handfast/handfastlaw02.IpByte", spec := "ipByte", unfollowed := true, recurses := true, apart := false, narrowed := true }
def IpByteUptoSaid : Prop := ipByteUptoRow.holds Try.pinned (OpenSpec.upto ipByteSpec)

/-- 'handfastlaw02.IpReasons', WHERE WHAT IT READS IS OF BULK AT MOST 1048576: true; the input reads as it did. -/
def ipReasonsUptoRow : OpenClaim := { program := "ytbeopajnlenglaa", sum := "ed781205c3547627cedfbad3854ad7d7495511bce4e57949ca93223c2429964a", func := "handfast/handfastlaw02.IpReasons", spec := "ipReasons", unfollowed := true, recurses := true, apart := false, narrowed := true }
def IpReasonsUptoSaid : Prop := ipReasonsUptoRow.holds Try.pinned (OpenSpec.upto ipReasonsSpec)

/-- 'handfastlaw02.IpOwn', WHERE WHAT IT READS IS OF BULK AT MOST 1048576: true; the input reads as it did. -/
def ipOwnUptoRow : OpenClaim := { program := "ytbeopajnlenglaa", sum := "ed781205c3547627cedfbad3854ad7d7495511bce4e57949ca93223c2429964a", func := "handfast/handfastlaw02.IpOwn", spec := "ipOwn", unfollowed := true, recurses := true, apart := false, narrowed := true }
def IpOwnUptoSaid : Prop := ipOwnUptoRow.holds Try.pinned (OpenSpec.upto ipOwnSpec)

end Rows
end Go.Proofs.Ytbeopajnlenglaa
