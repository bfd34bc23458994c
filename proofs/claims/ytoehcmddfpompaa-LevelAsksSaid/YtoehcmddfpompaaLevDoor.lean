/- The door of the laws of layer 19. -/
import Derived.Test.YtoehcmddfpompaaRows
import Derived.Test.YtoehcmddfpompaaDoor
import Derived.Test.YtoehcmddfpompaaEntOpen
namespace Go.Proofs.Ytoehcmddfpompaa
open Go Go.ChangeShapes Go.WideShapes Go.ChangeAt Go.RowKit

theorem own : ownKnob Try.prog.godebug = none := by kernel_rfl
theorem laidOut : laidOutB Try.prog = true := by kernel_rfl
end Go.Proofs.Ytoehcmddfpompaa
