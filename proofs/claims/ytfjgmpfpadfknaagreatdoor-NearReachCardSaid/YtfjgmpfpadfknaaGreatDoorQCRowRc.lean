/-
  The law numerallaw06.NearReach answers true, whatever it is asked, in whatever memory; what it is asked reads behind the call as it read before. One condition: the table math/bits.deBruijn32tab reads as its initialiser lays it (the card ties it to the program's text). (Printed by wip/gen/row.py.)
-/
import Derived.Test.YtfjgmpfpadfknaaGreatDoorQCRowRcb
import Derived.Test.YtfjgmpfpadfknaaGreatDoorQCRowRcc
import Derived.Test.YtfjgmpfpadfknaaGreatDoorQCRowRca
import Derived.Test.YtfjgmpfpadfknaaGreatDoorTie
import Derived.Test.YtfjgmpfpadfknaaGreatDoorCards
import Derived.SevenTiedAt
import Derived.Test.YtfjgmpfpadfknaaGreatDoorQNbBase
import Derived.Test.YtfjgmpfpadfknaaGreatDoorQCLawRc
import Derived.Test.YtfjgmpfpadfknaaGreatDoorQCRowTab
import Derived.Test.YtfjgmpfpadfknaaGreatDoorQCRowArgs
namespace Go.Proofs.YtfjgmpfpadfknaaGreatDoor
open Go.RowKit Go.Lb Go.ChangeShapes Go.WideShapes Go.ChangeAt Go.Joins

theorem nearReach_row : Rows.NearReachSaid :=
  OpenClaim.holds_of_wide 3 Tryz.f3 rfl rfl rfl rfl rfl rfl rfl ⟨rfl, rfl, rfl, rfl, rfl⟩ rfl rfl rfl rfl rfl (by as_aux_lemma => kernel_rfl) Tryz.func3 nearReach_closed
    (of_decide_eq_true (by as_aux_lemma => kernel_rfl)) (by unfold Func.isWrapper; first | (rw [if_pos (by decide +kernel)]; kernel_rfl) | (rw [if_neg (by decide +kernel)]; exact ⟨rfl, rfl⟩))
    (fun os started H enc _ => lifted os started H enc)

theorem nearReach_holds : Rows.NearReachCardSaid :=
  Claim7.holds_tied_plain_at .later [] [.data] true Rows.nearReachCard.stood.harness Rows.nearReachCard.stood.looks
    nearReach_row (fun _ h => by cases h) (by as_aux_lemma => kernel_rfl) (fun _ h => by cases h) nearReach_row_tie rfl ⟨rfl, rfl⟩ (by as_aux_lemma => kernel_rfl) rfl
    (fun f fn hf hfn => by
      obtain rfl : f = 3 := Option.some.inj ((show Tryz.prog.funcNamed "numeral/numerallaw06.NearReach" = some 3 by kernel_rfl).symm.trans hf) |>.symm
      obtain rfl : fn = Tryz.f3 := (Option.some.inj (Tryz.func3.symm.trans hfn)).symm
      exact ⟨by as_aux_lemma => kernel_rfl, fun j t ht => by
        rw [Tryz.params3] at ht
        have hm : t ∈ [23, 24, 5] := by simpa using Array.mem_of_getElem? ht
        have hall : ([23, 24, 5].all fun u => !Tryz.prog.wantsStandIn u) = true := by kernel_rfl
        exact (show Tryz.prog.wantsStandIn t = false by simpa using List.all_eq_true.1 hall t hm)⟩)
    nearReach_goes
#print axioms nearReach_holds

end Go.Proofs.YtfjgmpfpadfknaaGreatDoor
