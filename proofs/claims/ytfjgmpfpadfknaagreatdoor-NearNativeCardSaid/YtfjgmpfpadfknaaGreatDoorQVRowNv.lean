/-
  The law numerallaw06.NearNative answers true, whatever it is asked, in whatever memory; what it is asked reads behind the call as it read before. One condition: the table math/bits.deBruijn32tab reads as its initialiser lays it (the card ties it to the program's text). (Printed by wip/gen/row.py.)
-/
import Derived.Test.YtfjgmpfpadfknaaGreatDoorQVRowNvb
import Derived.Test.YtfjgmpfpadfknaaGreatDoorQVRowNvc
import Derived.Test.YtfjgmpfpadfknaaGreatDoorQVRowNva
import Derived.Test.YtfjgmpfpadfknaaGreatDoorTie
import Derived.Test.YtfjgmpfpadfknaaGreatDoorCards
import Derived.SevenTiedAt
import Derived.Test.YtfjgmpfpadfknaaGreatDoorQNbBase
import Derived.Test.YtfjgmpfpadfknaaGreatDoorQVLawNv
import Derived.Test.YtfjgmpfpadfknaaGreatDoorQVRowArgs
namespace Go.Proofs.YtfjgmpfpadfknaaGreatDoor
open Go.RowKit Go.Lb Go.ChangeShapes Go.WideShapes Go.ChangeAt Go.Joins

theorem nearNative_row : Rows.NearNativeSaid :=
  OpenClaim.holds_of_wide 8 Tryz.f8 rfl rfl rfl rfl rfl rfl rfl ⟨rfl, rfl, rfl, rfl, rfl⟩ rfl rfl rfl rfl rfl (by as_aux_lemma => kernel_rfl) Tryz.func8 nearNative_closed
    (of_decide_eq_true (by as_aux_lemma => kernel_rfl)) (by unfold Func.isWrapper; first | (rw [if_pos (by decide +kernel)]; kernel_rfl) | (rw [if_neg (by decide +kernel)]; exact ⟨rfl, rfl⟩))
    (fun os started H enc _ => lifted os started H enc)

theorem nearNative_holds : Rows.NearNativeCardSaid :=
  Claim7.holds_tied_plain_at .later [] [.data] true Rows.nearNativeCard.stood.harness Rows.nearNativeCard.stood.looks
    nearNative_row (fun _ h => by cases h) (by as_aux_lemma => kernel_rfl) (fun _ h => by cases h) nearNative_row_tie rfl ⟨rfl, rfl⟩ (by as_aux_lemma => kernel_rfl) rfl
    (fun f fn hf hfn => by
      obtain rfl : f = 8 := Option.some.inj ((show Tryz.prog.funcNamed "numeral/numerallaw06.NearNative" = some 8 by kernel_rfl).symm.trans hf) |>.symm
      obtain rfl : fn = Tryz.f8 := (Option.some.inj (Tryz.func8.symm.trans hfn)).symm
      exact ⟨by as_aux_lemma => kernel_rfl, fun j t ht => by
        rw [Tryz.params8] at ht
        have hm : t ∈ [24, 24] := by simpa using Array.mem_of_getElem? ht
        have hall : ([24, 24].all fun u => !Tryz.prog.wantsStandIn u) = true := by kernel_rfl
        exact (show Tryz.prog.wantsStandIn t = false by simpa using List.all_eq_true.1 hall t hm)⟩)
    nearNative_goes
#print axioms nearNative_holds

end Go.Proofs.YtfjgmpfpadfknaaGreatDoor
