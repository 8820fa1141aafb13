/-
  The law numeraltop.TopReach answers true, whatever it is asked, in whatever memory; what it is asked reads behind the call as it read before. One condition: the table math/bits.deBruijn32tab reads as its initialiser lays it (the card ties it to the program's text). (Printed by wip/gen/row.py.)
-/
import Derived.Lib.SmallJoins
import Derived.Test.YtpmncmglmobjoaaGreatDoorTie
import Derived.Test.YtpmncmglmobjoaaGreatDoorCards
import Derived.SevenTiedAt
namespace Go.Proofs.YtpmncmglmobjoaaGreatDoor
open Go.RowKit Go.ChangeShapes Go.WideShapes Go.ChangeAt Go.Joins
theorem topReach_goes : false = Rows.topReachRow.goesBy Tryz.prog := by
 kernel_rfl
end Go.Proofs.YtpmncmglmobjoaaGreatDoor
