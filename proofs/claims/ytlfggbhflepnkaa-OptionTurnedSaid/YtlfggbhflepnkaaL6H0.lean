/- Contracts of functions of the program, or a row of the seat, proved out of them. No condition beyond those that stand in each statement. -/
import Derived.Test.YtlfggbhflepnkaaL6G
import Derived.Test.YtlfggbhflepnkaaSeD
import Derived.Test.YtlfggbhflepnkaaRows
namespace Go.Proofs.Ytlfggbhflepnkaa
open Go Go.SE Go.RowKit Go.WideShapes Go.ChangeShapes Go.Proofs.L6
set_option maxRecDepth 100000
set_option maxHeartbeats 4000000

theorem own : ownKnob Try.prog.godebug = none := by kernel_rfl
theorem laid : laidOutB Try.prog = true := by kernel_rfl
theorem cells5 : Try.prog.cellsOf 5 = 1 := by kernel_rfl
theorem types23 : Try.prog.cellTypes Try.prog.depth 23 = some [5, 5, 3, 3, 3, 3] := by kernel_rfl
theorem types25 : Try.prog.cellTypes Try.prog.depth 25 = some [3, 3, 3, 3] := by kernel_rfl
theorem cells23 : Try.prog.cellsOf 23 = 6 := by kernel_rfl
theorem cells25 : Try.prog.cellsOf 25 = 4 := by kernel_rfl

theorem open_opt {W : World} {base : Nat} {v : Value} (h : Value.okWide Try.prog W .any base 23 v) : ∃ o : Opt, o.Wf ∧ ∀ ρ, T.Rel ρ (optT o) v := by
  obtain ⟨ns, rfl, hh⟩ := okWide_ints Try.underlying23 [5, 5, 3, 3, 3, 3] [.u8, .u8, .i64, .i64, .i64, .i64] types23 (by simp [Try.underlying5, Try.underlying3]) cells23 h
  obtain ⟨a1, ns, rfl, h1, hh⟩ := hasAll_cons hh
  obtain ⟨a2, ns, rfl, h2, hh⟩ := hasAll_cons hh
  obtain ⟨a3, ns, rfl, h3, hh⟩ := hasAll_cons hh
  obtain ⟨a4, ns, rfl, h4, hh⟩ := hasAll_cons hh
  obtain ⟨a5, ns, rfl, h5, hh⟩ := hasAll_cons hh
  obtain ⟨a6, ns, rfl, h6, hh⟩ := hasAll_cons hh
  obtain rfl := hasAll_nil hh
  exact ⟨⟨a1, a2, a3, a4, a5, a6⟩, ⟨h1.1, h1.2, h2.1, h2.2⟩, fun ρ => ⟨_, rfl, ⟨rfl, rfl⟩, ⟨rfl, rfl⟩, ⟨rfl, rfl⟩, ⟨rfl, rfl⟩, ⟨rfl, rfl⟩, ⟨rfl, rfl⟩, trivial⟩⟩
theorem open_ent {W : World} {base : Nat} {v : Value} (h : Value.okWide Try.prog W .any base 25 v) : ∃ a b c d : Int, ∀ ρ, T.Rel ρ (.agg [.v (.int .i64 a), .v (.int .i64 b), .v (.int .i64 c), .v (.int .i64 d)]) v := by
  obtain ⟨ns, rfl, hh⟩ := okWide_ints Try.underlying25 [3, 3, 3, 3] [.i64, .i64, .i64, .i64] types25 (by simp [Try.underlying3]) cells25 h
  obtain ⟨a1, ns, rfl, h1, hh⟩ := hasAll_cons hh
  obtain ⟨a2, ns, rfl, h2, hh⟩ := hasAll_cons hh
  obtain ⟨a3, ns, rfl, h3, hh⟩ := hasAll_cons hh
  obtain ⟨a4, ns, rfl, h4, hh⟩ := hasAll_cons hh
  obtain rfl := hasAll_nil hh
  exact ⟨a1, a2, a3, a4, fun ρ => ⟨_, rfl, ⟨rfl, rfl⟩, ⟨rfl, rfl⟩, ⟨rfl, rfl⟩, ⟨rfl, rfl⟩, trivial⟩⟩

end Go.Proofs.Ytlfggbhflepnkaa
