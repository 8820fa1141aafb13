/-
  The law numerallaw06.NearSteps answers true, whatever it is asked, in whatever memory; what it is asked reads behind the call as it read before. One condition: the table math/bits.deBruijn32tab reads as its initialiser lays it (the card ties it to the program's text). (Printed by wip/gen/row.py.)
-/
import Derived.Test.YtfjgmpfpadfknaaGreatDoorQSRowNtb
import Derived.Test.YtfjgmpfpadfknaaGreatDoorQSRowNtc
import Derived.Test.YtfjgmpfpadfknaaGreatDoorQSRowNta
import Derived.Test.YtfjgmpfpadfknaaGreatDoorTie
import Derived.Test.YtfjgmpfpadfknaaGreatDoorCards
import Derived.SevenTiedAt
import Derived.Test.YtfjgmpfpadfknaaGreatDoorQNbBase
import Derived.Test.YtfjgmpfpadfknaaGreatDoorQSLawNt
import Derived.Test.YtfjgmpfpadfknaaGreatDoorQSRowTab
import Derived.Test.YtfjgmpfpadfknaaGreatDoorQSRowArgs
namespace Go.Proofs.YtfjgmpfpadfknaaGreatDoor
open Go.RowKit Go.Lb Go.ChangeShapes Go.WideShapes Go.ChangeAt Go.Joins

theorem nearSteps_row : Rows.NearStepsSaid :=
  OpenClaim.holds_of_wide 6 Tryz.f6 rfl rfl rfl rfl rfl rfl rfl ⟨rfl, rfl, rfl, rfl, rfl⟩ rfl rfl rfl rfl rfl (by as_aux_lemma => kernel_rfl) Tryz.func6 nearSteps_closed
    (of_decide_eq_true (by as_aux_lemma => kernel_rfl)) (by unfold Func.isWrapper; first | (rw [if_pos (by decide +kernel)]; kernel_rfl) | (rw [if_neg (by decide +kernel)]; exact ⟨rfl, rfl⟩))
    (fun os started H enc _ => lifted os started H enc)

theorem nearSteps_holds : Rows.NearStepsCardSaid :=
  Claim7.holds_tied_plain_at .later [] [.data] true Rows.nearStepsCard.stood.harness Rows.nearStepsCard.stood.looks
    nearSteps_row (fun _ h => by cases h) (by as_aux_lemma => kernel_rfl) (fun _ h => by cases h) nearSteps_row_tie rfl ⟨rfl, rfl⟩ (by as_aux_lemma => kernel_rfl) rfl
    (fun f fn hf hfn => by
      obtain rfl : f = 6 := Option.some.inj ((show Tryz.prog.funcNamed "numeral/numerallaw06.NearSteps" = some 6 by kernel_rfl).symm.trans hf) |>.symm
      obtain rfl : fn = Tryz.f6 := (Option.some.inj (Tryz.func6.symm.trans hfn)).symm
      exact ⟨by as_aux_lemma => kernel_rfl, fun j t ht => by
        rw [Tryz.params6] at ht
        have hm : t ∈ [23, 24, 24, 24] := by simpa using Array.mem_of_getElem? ht
        have hall : ([23, 24, 24, 24].all fun u => !Tryz.prog.wantsStandIn u) = true := by kernel_rfl
        exact (show Tryz.prog.wantsStandIn t = false by simpa using List.all_eq_true.1 hall t hm)⟩)
    nearSteps_goes
#print axioms nearSteps_holds

end Go.Proofs.YtfjgmpfpadfknaaGreatDoor
