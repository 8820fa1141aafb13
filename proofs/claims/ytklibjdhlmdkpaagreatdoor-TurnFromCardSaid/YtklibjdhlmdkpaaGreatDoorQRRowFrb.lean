/-
  The law numerallaw08.TurnFrom answers true, whatever it is asked, in whatever memory; what it is asked reads behind the call as it read before. One condition: the table math/bits.deBruijn32tab reads as its initialiser lays it (the card ties it to the program's text). (Printed by wip/gen/row.py.)
-/
import Derived.Test.YtklibjdhlmdkpaaGreatDoorQRRowFra
import Derived.Test.YtklibjdhlmdkpaaGreatDoorTie
import Derived.Test.YtklibjdhlmdkpaaGreatDoorCards
import Derived.SevenTiedAt
import Derived.Test.YtklibjdhlmdkpaaGreatDoorQTurBase
import Derived.Test.YtklibjdhlmdkpaaGreatDoorQRLawFr
import Derived.Test.YtklibjdhlmdkpaaGreatDoorQRRowTab
import Derived.Test.YtklibjdhlmdkpaaGreatDoorQRRowArgs
namespace Go.Proofs.YtklibjdhlmdkpaaGreatDoor
open Go.RowKit Go.Lb Go.ChangeShapes Go.WideShapes Go.ChangeAt Go.Joins

set_option maxRecDepth 100000 in
set_option maxHeartbeats 8000000 in
/-- The closed facts, each by itself (in a seat of twelve laws all at once is beyond the kernel's memory). -/
theorem turnFrom_closed : joinedFacts Tryz.prog 9 Tryz.f9 Rows.turnFromSpec Rows.turnFromRow = true := by
  unfold joinedFacts
  repeat' (with_reducible refine Bool.and_eq_true_iff.2 ⟨?_, ?_⟩)
  all_goals as_aux_lemma => kernel_rfl

theorem turnFrom_row : Rows.TurnFromSaid :=
  OpenClaim.holds_of_wide 9 Tryz.f9 rfl rfl rfl rfl rfl rfl rfl ⟨rfl, rfl, rfl, rfl, rfl⟩ rfl rfl rfl rfl rfl (by as_aux_lemma => kernel_rfl) Tryz.func9 turnFrom_closed
    (of_decide_eq_true (by as_aux_lemma => kernel_rfl)) (by unfold Func.isWrapper; first | (rw [if_pos (by decide +kernel)]; kernel_rfl) | (rw [if_neg (by decide +kernel)]; exact ⟨rfl, rfl⟩))
    (fun os started H enc _ => lifted os started H enc)

end Go.Proofs.YtklibjdhlmdkpaaGreatDoor
