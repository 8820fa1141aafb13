/-
  The law numerallaw08.TurnNames answers true, whatever it is asked, in whatever memory; what it is asked reads behind the call as it read before. One condition: the table math/bits.deBruijn32tab reads as its initialiser lays it (the card ties it to the program's text). (Printed by wip/gen/row.py.)
-/
import Derived.Test.YtklibjdhlmdkpaaGreatDoorQRowTnb
import Derived.Test.YtklibjdhlmdkpaaGreatDoorQTurSetN
import Derived.Test.YtklibjdhlmdkpaaGreatDoorTie
import Derived.Test.YtklibjdhlmdkpaaGreatDoorCards
import Derived.SevenTiedAt
namespace Go.Proofs.YtklibjdhlmdkpaaGreatDoor
open Go.RowKit Go.Lb Go.ChangeShapes Go.WideShapes Go.ChangeAt Go.Joins

theorem turnNames_holds : Rows.TurnNamesCardSaid :=
  Claim7.holds_tied_plain_at .later [] [.data] true Rows.turnNamesCard.stood.harness Rows.turnNamesCard.stood.looks
    turnNames_row (fun _ h => by cases h) (by as_aux_lemma => kernel_rfl) (fun _ h => by cases h) turnNames_row_tie rfl ⟨rfl, rfl⟩ (by as_aux_lemma => kernel_rfl) rfl
    (fun f fn hf hfn => by
      obtain rfl : f = 3 := Option.some.inj ((show Tryz.prog.funcNamed "numeral/numerallaw08.TurnNames" = some 3 by kernel_rfl).symm.trans hf) |>.symm
      obtain rfl : fn = Tryz.f3 := (Option.some.inj (Tryz.func3.symm.trans hfn)).symm
      exact ⟨by as_aux_lemma => kernel_rfl, fun j t ht => by
        rw [Tryz.params3] at ht
        simp at ht⟩)
    (by as_aux_lemma => kernel_rfl)
#print axioms turnNames_holds

end Go.Proofs.YtklibjdhlmdkpaaGreatDoor
