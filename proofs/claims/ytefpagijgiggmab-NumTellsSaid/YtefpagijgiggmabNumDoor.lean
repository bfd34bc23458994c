/- The door of the laws of layer 1. -/
import Derived.Test.YtefpagijgiggmabRows
import Derived.Test.YtefpagijgiggmabDoor
import Derived.Test.YtefpagijgiggmabOpenI
namespace Go.Proofs.Ytefpagijgiggmab
open Go Go.ChangeShapes Go.WideShapes Go.ChangeAt Go.RowKit

theorem own : ownKnob Try.prog.godebug = none := by kernel_rfl
theorem laidOut : laidOutB Try.prog = true := by kernel_rfl
end Go.Proofs.Ytefpagijgiggmab
