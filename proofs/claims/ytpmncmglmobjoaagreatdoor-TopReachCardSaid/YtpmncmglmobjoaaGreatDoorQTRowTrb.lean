/-
  The law numeraltop.TopReach answers true, whatever it is asked, in whatever memory; what it is asked reads behind the call as it read before. One condition: the table math/bits.deBruijn32tab reads as its initialiser lays it (the card ties it to the program's text). (Printed by wip/gen/row.py.)
-/
import Derived.Lib.SmallJoins
import Derived.Test.YtpmncmglmobjoaaGreatDoorTie
import Derived.Test.YtpmncmglmobjoaaGreatDoorCards
import Derived.SevenTiedAt
set_option maxHeartbeats 8000000
set_option maxRecDepth 100000
namespace Go.Proofs.YtpmncmglmobjoaaGreatDoor
open Go.RowKit Go.ChangeShapes Go.WideShapes Go.ChangeAt Go.Joins
theorem topReach_closed : joinedFacts Tryz.prog 3 Tryz.f3 Rows.topReachSpec Rows.topReachRow = true := by
 unfold joinedFacts
 repeat' (with_reducible refine Bool.and_eq_true_iff.2 ⟨?_, ?_⟩)
 all_goals as_aux_lemma => kernel_rfl
end Go.Proofs.YtpmncmglmobjoaaGreatDoor
