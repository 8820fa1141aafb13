/-
  The law numerallaw07.SoftSums answers true, whatever it is asked, in whatever memory; what it is asked reads behind the call as it read before. One condition: the table math/bits.deBruijn32tab reads as its initialiser lays it (the card ties it to the program's text). (Printed by wip/gen/row.py.)
-/
import Derived.Test.YtkifhlgmbckekaaGreatDoorQRowSmb
import Derived.Test.YtkifhlgmbckekaaGreatDoorQMS24
import Derived.Test.YtkifhlgmbckekaaGreatDoorRowTab
import Derived.Test.YtkifhlgmbckekaaGreatDoorTie
import Derived.Test.YtkifhlgmbckekaaGreatDoorCards
import Derived.SevenTiedAt
namespace Go.Proofs.YtkifhlgmbckekaaGreatDoor
open Go.RowKit Go.Lb Go.ChangeShapes Go.WideShapes Go.ChangeAt Go.Joins

theorem softSums_holds : Rows.SoftSumsCardSaid :=
  Claim7.holds_tied_plain_at .later [] [.data] true Rows.softSumsCard.stood.harness Rows.softSumsCard.stood.looks
    softSums_row (fun _ h => by cases h) (by as_aux_lemma => kernel_rfl) (fun _ h => by cases h) softSums_row_tie rfl ⟨rfl, rfl⟩ (by as_aux_lemma => kernel_rfl) rfl
    (fun f fn hf hfn => by
      obtain rfl : f = 3 := Option.some.inj ((show Tryz.prog.funcNamed "numeral/numerallaw07.SoftSums" = some 3 by kernel_rfl).symm.trans hf) |>.symm
      obtain rfl : fn = Tryz.f3 := (Option.some.inj (Tryz.func3.symm.trans hfn)).symm
      exact ⟨by as_aux_lemma => kernel_rfl, fun j t ht => by
        rw [Tryz.params3] at ht
        have hm : t ∈ [26] := by simpa using Array.mem_of_getElem? ht
        have hall : ([26].all fun u => !Tryz.prog.wantsStandIn u) = true := by kernel_rfl
        exact (show Tryz.prog.wantsStandIn t = false by simpa using List.all_eq_true.1 hall t hm)⟩)
    (by as_aux_lemma => kernel_rfl)

#print axioms softSums_holds

end Go.Proofs.YtkifhlgmbckekaaGreatDoor
