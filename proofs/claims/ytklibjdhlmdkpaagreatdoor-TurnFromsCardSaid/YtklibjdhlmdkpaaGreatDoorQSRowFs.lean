/-
  The law numerallaw08.TurnFroms answers true, whatever it is asked, in whatever memory; what it is asked reads behind the call as it read before. One condition: the table math/bits.deBruijn32tab reads as its initialiser lays it (the card ties it to the program's text). (Printed by wip/gen/row.py.)
-/
import Derived.Test.YtklibjdhlmdkpaaGreatDoorQSRowFsb
import Derived.Test.YtklibjdhlmdkpaaGreatDoorTie
import Derived.Test.YtklibjdhlmdkpaaGreatDoorCards
import Derived.SevenTiedAt
import Derived.Test.YtklibjdhlmdkpaaGreatDoorQTurBase
import Derived.Test.YtklibjdhlmdkpaaGreatDoorQSLawFs
import Derived.Test.YtklibjdhlmdkpaaGreatDoorQSRowTab
import Derived.Test.YtklibjdhlmdkpaaGreatDoorQSRowArgs
namespace Go.Proofs.YtklibjdhlmdkpaaGreatDoor
open Go.RowKit Go.Lb Go.ChangeShapes Go.WideShapes Go.ChangeAt Go.Joins

theorem turnFroms_holds : Rows.TurnFromsCardSaid :=
  Claim7.holds_tied_plain_at .later [] [.data] true Rows.turnFromsCard.stood.harness Rows.turnFromsCard.stood.looks
    turnFroms_row (fun _ h => by cases h) (by as_aux_lemma => kernel_rfl) (fun _ h => by cases h) turnFroms_row_tie rfl ⟨rfl, rfl⟩ (by as_aux_lemma => kernel_rfl) rfl
    (fun f fn hf hfn => by
      obtain rfl : f = 6 := Option.some.inj ((show Tryz.prog.funcNamed "numeral/numerallaw08.TurnFroms" = some 6 by kernel_rfl).symm.trans hf) |>.symm
      obtain rfl : fn = Tryz.f6 := (Option.some.inj (Tryz.func6.symm.trans hfn)).symm
      exact ⟨by as_aux_lemma => kernel_rfl, fun j t ht => by
        rw [Tryz.params6] at ht
        have hm : t ∈ [24, 2, 5] := by simpa using Array.mem_of_getElem? ht
        have hall : ([24, 2, 5].all fun u => !Tryz.prog.wantsStandIn u) = true := by kernel_rfl
        exact (show Tryz.prog.wantsStandIn t = false by simpa using List.all_eq_true.1 hall t hm)⟩)
    (by as_aux_lemma => kernel_rfl)
#print axioms turnFroms_holds

end Go.Proofs.YtklibjdhlmdkpaaGreatDoor
