/- Contracts of functions of the program, or a row of the seat, proved out of them. No condition beyond those that stand in each statement. -/
import Derived.Test.YtooempepoejmhaaP3I
namespace Go.Proofs.P3
open Go Go.SE
set_option maxRecDepth 100000
set_option maxHeartbeats 4000000
attribute [local irreducible] specI

def zeroLit : T := .agg [.n .u16 0, .n .u16 0, .n .u8 0, .n .i64 0, .v (.slice none 0 0)]
