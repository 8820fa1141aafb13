/-
  The law numerallaw06.NearRounds answers true, whatever it is asked, in whatever memory; what it is asked reads behind the call as it read before. One condition: the table math/bits.deBruijn32tab reads as its initialiser lays it (the card ties it to the program's text). (Printed by wip/gen/row.py.)
-/
import Derived.Test.YtfjgmpfpadfknaaGreatDoorQDRowRnb
import Derived.Test.YtfjgmpfpadfknaaGreatDoorQDRowRnc
import Derived.Test.YtfjgmpfpadfknaaGreatDoorQDRowRna
import Derived.Test.YtfjgmpfpadfknaaGreatDoorTie
import Derived.Test.YtfjgmpfpadfknaaGreatDoorCards
import Derived.SevenTiedAt
import Derived.Test.YtfjgmpfpadfknaaGreatDoorQRnBase
import Derived.Test.YtfjgmpfpadfknaaGreatDoorQDLawRn
import Derived.Test.YtfjgmpfpadfknaaGreatDoorQDRowTab
import Derived.Test.YtfjgmpfpadfknaaGreatDoorQDRowArgs
namespace Go.Proofs.YtfjgmpfpadfknaaGreatDoor
open Go.RowKit Go.Lb Go.ChangeShapes Go.WideShapes Go.ChangeAt Go.Joins

theorem nearRounds_row : Rows.NearRoundsSaid :=
  OpenClaim.holds_of_wide 9 Tryz.f9 rfl rfl rfl rfl rfl rfl rfl ⟨rfl, rfl, rfl, rfl, rfl⟩ rfl rfl rfl rfl rfl (by as_aux_lemma => kernel_rfl) Tryz.func9 nearRounds_closed
    (of_decide_eq_true (by as_aux_lemma => kernel_rfl)) (by unfold Func.isWrapper; first | (rw [if_pos (by decide +kernel)]; kernel_rfl) | (rw [if_neg (by decide +kernel)]; exact ⟨rfl, rfl⟩))
    (fun os started H enc _ => lifted os started H enc)

theorem nearRounds_holds : Rows.NearRoundsCardSaid :=
  Claim7.holds_tied_plain_at .later [] [.data] true Rows.nearRoundsCard.stood.harness Rows.nearRoundsCard.stood.looks
    nearRounds_row (fun _ h => by cases h) (by as_aux_lemma => kernel_rfl) (fun _ h => by cases h) nearRounds_row_tie rfl ⟨rfl, rfl⟩ (by as_aux_lemma => kernel_rfl) rfl
    (fun f fn hf hfn => by
      obtain rfl : f = 9 := Option.some.inj ((show Tryz.prog.funcNamed "numeral/numerallaw06.NearRounds" = some 9 by kernel_rfl).symm.trans hf) |>.symm
      obtain rfl : fn = Tryz.f9 := (Option.some.inj (Tryz.func9.symm.trans hfn)).symm
      exact ⟨by as_aux_lemma => kernel_rfl, fun j t ht => by
        rw [Tryz.params9] at ht
        have hm : t ∈ [23, 24, 5, 30] := by simpa using Array.mem_of_getElem? ht
        have hall : ([23, 24, 5, 30].all fun u => !Tryz.prog.wantsStandIn u) = true := by kernel_rfl
        exact (show Tryz.prog.wantsStandIn t = false by simpa using List.all_eq_true.1 hall t hm)⟩)
    nearRounds_goes
#print axioms nearRounds_holds

end Go.Proofs.YtfjgmpfpadfknaaGreatDoor
