/-
  The law numeraltop.TopReach answers true, whatever it is asked, in whatever memory; what it is asked reads behind the call as it read before. One condition: the table math/bits.deBruijn32tab reads as its initialiser lays it (the card ties it to the program's text). (Printed by wip/gen/row.py.)
-/
import Derived.Test.YtpmncmglmobjoaaGreatDoorQTRowTrb
import Derived.Test.YtpmncmglmobjoaaGreatDoorQTRowTrc
import Derived.Test.YtpmncmglmobjoaaGreatDoorQTRowTra
namespace Go.Proofs.YtpmncmglmobjoaaGreatDoor
open Go.RowKit Go.Lb Go.ChangeShapes Go.WideShapes Go.ChangeAt Go.Joins
theorem topReach_row : Rows.TopReachSaid :=
 OpenClaim.holds_of_wide 3 Tryz.f3 rfl rfl rfl rfl rfl rfl rfl ⟨rfl, rfl, rfl, rfl, rfl⟩ rfl rfl rfl rfl rfl (by as_aux_lemma => kernel_rfl) Tryz.func3 topReach_closed
  (of_decide_eq_true (by as_aux_lemma => kernel_rfl)) (by unfold Func.isWrapper; first | (rw [if_pos (by decide +kernel)]; kernel_rfl) | (rw [if_neg (by decide +kernel)]; exact ⟨rfl, rfl⟩))
  (fun os started H enc _ => lifted os started H enc)
theorem topReach_holds : Rows.TopReachCardSaid :=
 Claim7.holds_tied_plain_at .later [] [.data] true Rows.topReachCard.stood.harness Rows.topReachCard.stood.looks
  topReach_row (fun _ h => by cases h) (by as_aux_lemma => kernel_rfl) (fun _ h => by cases h) topReach_row_tie rfl ⟨rfl, rfl⟩ (by as_aux_lemma => kernel_rfl) rfl
  (fun f fn hf hfn => by
    obtain rfl : f = 3 := Option.some.inj ((show Tryz.prog.funcNamed "numeral/numeraltop.TopReach" = some 3 by kernel_rfl).symm.trans hf) |>.symm
    obtain rfl : fn = Tryz.f3 := (Option.some.inj (Tryz.func3.symm.trans hfn)).symm
    exact ⟨by as_aux_lemma => kernel_rfl, fun j t ht => by
     rw [Tryz.params3] at ht
     have hm : t ∈ [23, 24, 29, 5] := by simpa using Array.mem_of_getElem? ht
     have hall : ([23, 24, 29, 5].all fun u => !Tryz.prog.wantsStandIn u) = true := by kernel_rfl
     exact (show Tryz.prog.wantsStandIn t = false by simpa using List.all_eq_true.1 hall t hm)⟩)
  topReach_goes
#print axioms topReach_holds
end Go.Proofs.YtpmncmglmobjoaaGreatDoor
