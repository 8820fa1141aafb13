/-
  The law numerallaw06.NearNative answers true, whatever it is asked, in whatever memory; what it is asked reads behind the call as it read before. One condition: the table math/bits.deBruijn32tab reads as its initialiser lays it (the card ties it to the program's text). (Printed by wip/gen/row.py.)
-/
import Derived.Lib.SmallJoins
import Derived.Test.YtfjgmpfpadfknaaGreatDoorTie
import Derived.Test.YtfjgmpfpadfknaaGreatDoorCards
import Derived.SevenTiedAt
namespace Go.Proofs.YtfjgmpfpadfknaaGreatDoor
open Go.RowKit Go.ChangeShapes Go.WideShapes Go.ChangeAt Go.Joins

set_option maxRecDepth 100000 in
set_option maxHeartbeats 8000000 in
/-- The closed facts, each by itself (in a seat of twelve laws all at once is beyond the kernel's memory). -/
theorem nearNative_closed : joinedFacts Tryz.prog 8 Tryz.f8 Rows.nearNativeSpec Rows.nearNativeRow = true := by
  unfold joinedFacts
  repeat' (with_reducible refine Bool.and_eq_true_iff.2 ⟨?_, ?_⟩)
  all_goals as_aux_lemma => kernel_rfl

end Go.Proofs.YtfjgmpfpadfknaaGreatDoor
