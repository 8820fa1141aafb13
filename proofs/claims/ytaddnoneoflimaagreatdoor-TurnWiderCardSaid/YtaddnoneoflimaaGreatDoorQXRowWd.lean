/-
  The law numerallaw08.TurnWider answers true, whatever it is asked, in whatever memory; what it is asked reads behind the call as it read before. One condition: the table math/bits.deBruijn32tab reads as its initialiser lays it (the card ties it to the program's text). (Printed by wip/gen/row.py.)
-/
import Derived.Test.YtaddnoneoflimaaGreatDoorQXRowWdb
import Derived.Test.YtaddnoneoflimaaGreatDoorQXRowWdc
import Derived.Test.YtaddnoneoflimaaGreatDoorQXRowWda
import Derived.Test.YtaddnoneoflimaaGreatDoorTie
import Derived.Test.YtaddnoneoflimaaGreatDoorCards
import Derived.SevenTiedAt
import Derived.Test.YtaddnoneoflimaaGreatDoorQTwBase
import Derived.Test.YtaddnoneoflimaaGreatDoorQXLawWd
import Derived.Test.YtaddnoneoflimaaGreatDoorQXRowTab
import Derived.Test.YtaddnoneoflimaaGreatDoorQXRowArgs
namespace Go.Proofs.YtaddnoneoflimaaGreatDoor
open Go.RowKit Go.Lb Go.ChangeShapes Go.WideShapes Go.ChangeAt Go.Joins

theorem turnWider_row : Rows.TurnWiderSaid :=
  OpenClaim.holds_of_wide 8 Tryz.f8 rfl rfl rfl rfl rfl rfl rfl ⟨rfl, rfl, rfl, rfl, rfl⟩ rfl rfl rfl rfl rfl (by as_aux_lemma => kernel_rfl) Tryz.func8 turnWider_closed
    (of_decide_eq_true (by as_aux_lemma => kernel_rfl)) (by unfold Func.isWrapper; first | (rw [if_pos (by decide +kernel)]; kernel_rfl) | (rw [if_neg (by decide +kernel)]; exact ⟨rfl, rfl⟩))
    (fun os started H enc _ => lifted os started H enc)

theorem turnWider_holds : Rows.TurnWiderCardSaid :=
  Claim7.holds_tied_plain_at .later [] [.data] true Rows.turnWiderCard.stood.harness Rows.turnWiderCard.stood.looks
    turnWider_row (fun _ h => by cases h) (by as_aux_lemma => kernel_rfl) (fun _ h => by cases h) turnWider_row_tie rfl ⟨rfl, rfl⟩ (by as_aux_lemma => kernel_rfl) rfl
    (fun f fn hf hfn => by
      obtain rfl : f = 8 := Option.some.inj ((show Tryz.prog.funcNamed "numeral/numerallaw08.TurnWider" = some 8 by kernel_rfl).symm.trans hf) |>.symm
      obtain rfl : fn = Tryz.f8 := (Option.some.inj (Tryz.func8.symm.trans hfn)).symm
      exact ⟨by as_aux_lemma => kernel_rfl, fun j t ht => by
        rw [Tryz.params8] at ht
        have hm : t ∈ [31, 31, 22, 5, 5] := by simpa using Array.mem_of_getElem? ht
        have hall : ([31, 31, 22, 5, 5].all fun u => !Tryz.prog.wantsStandIn u) = true := by kernel_rfl
        exact (show Tryz.prog.wantsStandIn t = false by simpa using List.all_eq_true.1 hall t hm)⟩)
    turnWider_goes
#print axioms turnWider_holds

end Go.Proofs.YtaddnoneoflimaaGreatDoor
