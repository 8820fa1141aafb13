/-
  The law numerallaw08.TurnFrom answers true, whatever it is asked, in whatever memory; what it is asked reads behind the call as it read before. One condition: the table math/bits.deBruijn32tab reads as its initialiser lays it (the card ties it to the program's text). (Printed by wip/gen/row.py.)
-/
import Derived.Test.YtklibjdhlmdkpaaGreatDoorQRRowFrb
import Derived.Test.YtklibjdhlmdkpaaGreatDoorTie
import Derived.Test.YtklibjdhlmdkpaaGreatDoorCards
import Derived.SevenTiedAt
import Derived.Test.YtklibjdhlmdkpaaGreatDoorQTurBase
import Derived.Test.YtklibjdhlmdkpaaGreatDoorQRLawFr
import Derived.Test.YtklibjdhlmdkpaaGreatDoorQRRowTab
import Derived.Test.YtklibjdhlmdkpaaGreatDoorQRRowArgs
namespace Go.Proofs.YtklibjdhlmdkpaaGreatDoor
open Go.RowKit Go.Lb Go.ChangeShapes Go.WideShapes Go.ChangeAt Go.Joins
set_option maxRecDepth 100000
set_option maxHeartbeats 4000000
theorem turnFrom_holds : Rows.TurnFromCardSaid :=
 Claim7.holds_tied_plain_at .later [] [.data] true Rows.turnFromCard.stood.harness Rows.turnFromCard.stood.looks
  turnFrom_row (fun _ h => by cases h) (by as_aux_lemma => kernel_rfl) (fun _ h => by cases h) turnFrom_row_tie rfl ⟨rfl, rfl⟩ (by as_aux_lemma => kernel_rfl) rfl
  (fun f fn hf hfn => by
   obtain rfl : f = 9 := Option.some.inj ((show Tryz.prog.funcNamed "numeral/numerallaw08.TurnFrom" = some 9 by kernel_rfl).symm.trans hf) |>.symm
   obtain rfl : fn = Tryz.f9 := (Option.some.inj (Tryz.func9.symm.trans hfn)).symm
   exact ⟨by as_aux_lemma => kernel_rfl, fun j t ht => by
    rw [Tryz.params9] at ht
    have hm : t ∈ [24, 25] := by simpa using Array.mem_of_getElem? ht
    have hall : ([24, 25].all fun u => !Tryz.prog.wantsStandIn u) = true := by kernel_rfl
    exact (show Tryz.prog.wantsStandIn t = false by simpa using List.all_eq_true.1 hall t hm)⟩)
  (by as_aux_lemma => kernel_rfl)
#print axioms turnFrom_holds
end Go.Proofs.YtklibjdhlmdkpaaGreatDoor
