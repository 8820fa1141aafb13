/-
  The law numerallaw08.TurnTos answers true, whatever it is asked, in whatever memory; what it is asked reads behind the call as it read before. One condition: the table math/bits.deBruijn32tab reads as its initialiser lays it (the card ties it to the program's text). (Printed by wip/gen/row.py.)
-/
import Derived.Test.YtklibjdhlmdkpaaGreatDoorQTRowTob
import Derived.Test.YtklibjdhlmdkpaaGreatDoorTie
import Derived.Test.YtklibjdhlmdkpaaGreatDoorCards
import Derived.SevenTiedAt
import Derived.Test.YtklibjdhlmdkpaaGreatDoorQTurBase
import Derived.Test.YtklibjdhlmdkpaaGreatDoorQTLawTo
import Derived.Test.YtklibjdhlmdkpaaGreatDoorQTRowTab
import Derived.Test.YtklibjdhlmdkpaaGreatDoorQTRowArgs
namespace Go.Proofs.YtklibjdhlmdkpaaGreatDoor
open Go.RowKit Go.Lb Go.ChangeShapes Go.WideShapes Go.ChangeAt Go.Joins

theorem turnTos_holds : Rows.TurnTosCardSaid :=
  Claim7.holds_tied_plain_at .later [] [.data] true Rows.turnTosCard.stood.harness Rows.turnTosCard.stood.looks
    turnTos_row (fun _ h => by cases h) (by as_aux_lemma => kernel_rfl) (fun _ h => by cases h) turnTos_row_tie rfl ⟨rfl, rfl⟩ (by as_aux_lemma => kernel_rfl) rfl
    (fun f fn hf hfn => by
      obtain rfl : f = 4 := Option.some.inj ((show Tryz.prog.funcNamed "numeral/numerallaw08.TurnTos" = some 4 by kernel_rfl).symm.trans hf) |>.symm
      obtain rfl : fn = Tryz.f4 := (Option.some.inj (Tryz.func4.symm.trans hfn)).symm
      exact ⟨by as_aux_lemma => kernel_rfl, fun j t ht => by
        rw [Tryz.params4] at ht
        have hm : t ∈ [24, 24, 25, 5] := by simpa using Array.mem_of_getElem? ht
        have hall : ([24, 24, 25, 5].all fun u => !Tryz.prog.wantsStandIn u) = true := by kernel_rfl
        exact (show Tryz.prog.wantsStandIn t = false by simpa using List.all_eq_true.1 hall t hm)⟩)
    (by as_aux_lemma => kernel_rfl)
#print axioms turnTos_holds

end Go.Proofs.YtklibjdhlmdkpaaGreatDoor
