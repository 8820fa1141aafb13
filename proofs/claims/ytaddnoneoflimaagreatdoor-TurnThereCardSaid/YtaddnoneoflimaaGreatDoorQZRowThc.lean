/-
  The law numerallaw08.TurnThere answers true, whatever it is asked, in whatever memory; what it is asked reads behind the call as it read before. One condition: the table math/bits.deBruijn32tab reads as its initialiser lays it (the card ties it to the program's text). (Printed by wip/gen/row.py.)
-/
import Derived.Lib.SmallJoins
import Derived.Test.YtaddnoneoflimaaGreatDoorTie
import Derived.Test.YtaddnoneoflimaaGreatDoorCards
import Derived.SevenTiedAt
namespace Go.Proofs.YtaddnoneoflimaaGreatDoor
open Go.RowKit Go.ChangeShapes Go.WideShapes Go.ChangeAt Go.Joins

/-- What the card asks last: by itself, the kernel bears it. -/
theorem turnThere_goes : false = Rows.turnThereRow.goesBy Tryz.prog := by
  kernel_rfl

end Go.Proofs.YtaddnoneoflimaaGreatDoor
