/-
  The law numerallaw06.NearRow answers true, whatever it is asked, in whatever memory; what it is asked reads behind the call as it read before. One condition: the table math/bits.deBruijn32tab reads as its initialiser lays it (the card ties it to the program's text). (Printed by wip/gen/row.py.)
-/
import Derived.Test.YtfjgmpfpadfknaaGreatDoorQRRowNrb
import Derived.Test.YtfjgmpfpadfknaaGreatDoorQRRowNrc
import Derived.Test.YtfjgmpfpadfknaaGreatDoorQRRowNra
import Derived.Test.YtfjgmpfpadfknaaGreatDoorTie
import Derived.Test.YtfjgmpfpadfknaaGreatDoorCards
import Derived.SevenTiedAt
import Derived.Test.YtfjgmpfpadfknaaGreatDoorQNbBase
import Derived.Test.YtfjgmpfpadfknaaGreatDoorQRLawNr
import Derived.Test.YtfjgmpfpadfknaaGreatDoorQRRowArgs
namespace Go.Proofs.YtfjgmpfpadfknaaGreatDoor
open Go.RowKit Go.Lb Go.ChangeShapes Go.WideShapes Go.ChangeAt Go.Joins

theorem nearRow_row : Rows.NearRowSaid :=
  OpenClaim.holds_of_wide 7 Tryz.f7 rfl rfl rfl rfl rfl rfl rfl ⟨rfl, rfl, rfl, rfl, rfl⟩ rfl rfl rfl rfl rfl (by as_aux_lemma => kernel_rfl) Tryz.func7 nearRow_closed
    (of_decide_eq_true (by as_aux_lemma => kernel_rfl)) (by unfold Func.isWrapper; first | (rw [if_pos (by decide +kernel)]; kernel_rfl) | (rw [if_neg (by decide +kernel)]; exact ⟨rfl, rfl⟩))
    (fun os started H enc _ => lifted os started H enc)

theorem nearRow_holds : Rows.NearRowCardSaid :=
  Claim7.holds_tied_plain_at .later [] [.data] true Rows.nearRowCard.stood.harness Rows.nearRowCard.stood.looks
    nearRow_row (fun _ h => by cases h) (by as_aux_lemma => kernel_rfl) (fun _ h => by cases h) nearRow_row_tie rfl ⟨rfl, rfl⟩ (by as_aux_lemma => kernel_rfl) rfl
    (fun f fn hf hfn => by
      obtain rfl : f = 7 := Option.some.inj ((show Tryz.prog.funcNamed "numeral/numerallaw06.NearRow" = some 7 by kernel_rfl).symm.trans hf) |>.symm
      obtain rfl : fn = Tryz.f7 := (Option.some.inj (Tryz.func7.symm.trans hfn)).symm
      exact ⟨by as_aux_lemma => kernel_rfl, fun j t ht => by
        rw [Tryz.params7] at ht
        have hm : t ∈ [23, 24, 24] := by simpa using Array.mem_of_getElem? ht
        have hall : ([23, 24, 24].all fun u => !Tryz.prog.wantsStandIn u) = true := by kernel_rfl
        exact (show Tryz.prog.wantsStandIn t = false by simpa using List.all_eq_true.1 hall t hm)⟩)
    nearRow_goes
#print axioms nearRow_holds

end Go.Proofs.YtfjgmpfpadfknaaGreatDoor
