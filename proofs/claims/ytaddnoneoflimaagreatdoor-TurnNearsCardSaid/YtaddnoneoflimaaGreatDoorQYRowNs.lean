/-
  The law numerallaw08.TurnNears answers true, whatever it is asked, in whatever memory; what it is asked reads behind the call as it read before. One condition: the table math/bits.deBruijn32tab reads as its initialiser lays it (the card ties it to the program's text). (Printed by wip/gen/row.py.)
-/
import Derived.Test.YtaddnoneoflimaaGreatDoorQYRowNsb
import Derived.Test.YtaddnoneoflimaaGreatDoorQYRowNsc
import Derived.Test.YtaddnoneoflimaaGreatDoorQYRowNsa
import Derived.Test.YtaddnoneoflimaaGreatDoorTie
import Derived.Test.YtaddnoneoflimaaGreatDoorCards
import Derived.SevenTiedAt
import Derived.Test.YtaddnoneoflimaaGreatDoorQNsBase
import Derived.Test.YtaddnoneoflimaaGreatDoorQYLawNs
import Derived.Test.YtaddnoneoflimaaGreatDoorQYRowTab
import Derived.Test.YtaddnoneoflimaaGreatDoorQYRowArgs
namespace Go.Proofs.YtaddnoneoflimaaGreatDoor
open Go.RowKit Go.Lb Go.ChangeShapes Go.WideShapes Go.ChangeAt Go.Joins

theorem turnNears_row : Rows.TurnNearsSaid :=
  OpenClaim.holds_of_wide 5 Tryz.f5 rfl rfl rfl rfl rfl rfl rfl ⟨rfl, rfl, rfl, rfl, rfl⟩ rfl rfl rfl rfl rfl (by as_aux_lemma => kernel_rfl) Tryz.func5 turnNears_closed
    (of_decide_eq_true (by as_aux_lemma => kernel_rfl)) (by unfold Func.isWrapper; first | (rw [if_pos (by decide +kernel)]; kernel_rfl) | (rw [if_neg (by decide +kernel)]; exact ⟨rfl, rfl⟩))
    (fun os started H enc _ => lifted os started H enc)

theorem turnNears_holds : Rows.TurnNearsCardSaid :=
  Claim7.holds_tied_plain_at .later [] [.data] true Rows.turnNearsCard.stood.harness Rows.turnNearsCard.stood.looks
    turnNears_row (fun _ h => by cases h) (by as_aux_lemma => kernel_rfl) (fun _ h => by cases h) turnNears_row_tie rfl ⟨rfl, rfl⟩ (by as_aux_lemma => kernel_rfl) rfl
    (fun f fn hf hfn => by
      obtain rfl : f = 5 := Option.some.inj ((show Tryz.prog.funcNamed "numeral/numerallaw08.TurnNears" = some 5 by kernel_rfl).symm.trans hf) |>.symm
      obtain rfl : fn = Tryz.f5 := (Option.some.inj (Tryz.func5.symm.trans hfn)).symm
      exact ⟨by as_aux_lemma => kernel_rfl, fun j t ht => by
        rw [Tryz.params5] at ht
        have hm : t ∈ [22] := by simpa using Array.mem_of_getElem? ht
        have hall : ([22].all fun u => !Tryz.prog.wantsStandIn u) = true := by kernel_rfl
        exact (show Tryz.prog.wantsStandIn t = false by simpa using List.all_eq_true.1 hall t hm)⟩)
    turnNears_goes
#print axioms turnNears_holds

end Go.Proofs.YtaddnoneoflimaaGreatDoor
