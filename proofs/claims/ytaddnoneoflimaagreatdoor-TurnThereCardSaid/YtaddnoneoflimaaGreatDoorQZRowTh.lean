/-
  The law numerallaw08.TurnThere answers true, whatever it is asked, in whatever memory; what it is asked reads behind the call as it read before. One condition: the table math/bits.deBruijn32tab reads as its initialiser lays it (the card ties it to the program's text). (Printed by wip/gen/row.py.)
-/
import Derived.Test.YtaddnoneoflimaaGreatDoorQZRowThb
import Derived.Test.YtaddnoneoflimaaGreatDoorQZRowThc
import Derived.Test.YtaddnoneoflimaaGreatDoorQZRowTha
import Derived.Test.YtaddnoneoflimaaGreatDoorTie
import Derived.Test.YtaddnoneoflimaaGreatDoorCards
import Derived.SevenTiedAt
import Derived.Test.YtaddnoneoflimaaGreatDoorQTwBase
import Derived.Test.YtaddnoneoflimaaGreatDoorQZLawTh
import Derived.Test.YtaddnoneoflimaaGreatDoorQZRowTab
import Derived.Test.YtaddnoneoflimaaGreatDoorQZRowArgs
namespace Go.Proofs.YtaddnoneoflimaaGreatDoor
open Go.RowKit Go.Lb Go.ChangeShapes Go.WideShapes Go.ChangeAt Go.Joins

theorem turnThere_row : Rows.TurnThereSaid :=
  OpenClaim.holds_of_wide 4 Tryz.f4 rfl rfl rfl rfl rfl rfl rfl ⟨rfl, rfl, rfl, rfl, rfl⟩ rfl rfl rfl rfl rfl (by as_aux_lemma => kernel_rfl) Tryz.func4 turnThere_closed
    (of_decide_eq_true (by as_aux_lemma => kernel_rfl)) (by unfold Func.isWrapper; first | (rw [if_pos (by decide +kernel)]; kernel_rfl) | (rw [if_neg (by decide +kernel)]; exact ⟨rfl, rfl⟩))
    (fun os started H enc _ => lifted os started H enc)

theorem turnThere_holds : Rows.TurnThereCardSaid :=
  Claim7.holds_tied_plain_at .later [] [.data] true Rows.turnThereCard.stood.harness Rows.turnThereCard.stood.looks
    turnThere_row (fun _ h => by cases h) (by as_aux_lemma => kernel_rfl) (fun _ h => by cases h) turnThere_row_tie rfl ⟨rfl, rfl⟩ (by as_aux_lemma => kernel_rfl) rfl
    (fun f fn hf hfn => by
      obtain rfl : f = 4 := Option.some.inj ((show Tryz.prog.funcNamed "numeral/numerallaw08.TurnThere" = some 4 by kernel_rfl).symm.trans hf) |>.symm
      obtain rfl : fn = Tryz.f4 := (Option.some.inj (Tryz.func4.symm.trans hfn)).symm
      exact ⟨by as_aux_lemma => kernel_rfl, fun j t ht => by
        rw [Tryz.params4] at ht
        have hm : t ∈ [31, 2, 5, 22] := by simpa using Array.mem_of_getElem? ht
        have hall : ([31, 2, 5, 22].all fun u => !Tryz.prog.wantsStandIn u) = true := by kernel_rfl
        exact (show Tryz.prog.wantsStandIn t = false by simpa using List.all_eq_true.1 hall t hm)⟩)
    turnThere_goes
#print axioms turnThere_holds

end Go.Proofs.YtaddnoneoflimaaGreatDoor
