/-
  The law numerallaw06.NearNative answers true, whatever it is asked, in whatever memory; what it is asked reads behind the call as it read before. One condition: the table math/bits.deBruijn32tab reads as its initialiser lays it (the card ties it to the program's text). (Printed by wip/gen/row.py.)
-/
import Derived.Lib.SmallJoins
import Derived.Test.YtfjgmpfpadfknaaGreatDoorTie
import Derived.Test.YtfjgmpfpadfknaaGreatDoorCards
import Derived.SevenTiedAt
namespace Go.Proofs.YtfjgmpfpadfknaaGreatDoor
open Go.RowKit Go.ChangeShapes Go.WideShapes Go.ChangeAt Go.Joins

/-- What the card asks last: by itself, the kernel bears it. -/
theorem nearNative_goes : false = Rows.nearNativeRow.goesBy Tryz.prog := by
  kernel_rfl

end Go.Proofs.YtfjgmpfpadfknaaGreatDoor
