/-
  What the rows over the laid table share: the table's cells out of the row's condition, a number opened, closed facts on the types.
-/
import Derived.Lib.LaidTab
import Derived.LaidMore
import Derived.OpenShut
import Derived.Test.YtfjgmpfpadfknaaGreatDoorQNbBase
import Derived.Test.YtfjgmpfpadfknaaGreatDoorQCPost
namespace Go.Proofs.YtfjgmpfpadfknaaGreatDoor

open Go.RowKit Go.Lb Go.ChangeShapes Go.WideShapes Go.ChangeAt Go.Joins

theorem own : ownKnob Tryz.prog.godebug = none := by kernel_rfl

theorem cells8 : Tryz.prog.cellsOf 5 = 1 := by kernel_rfl

theorem cellsT : Tryz.prog.cellsOf 212 = 32 := by kernel_rfl

theorem laidOut : laidOutB Tryz.prog = true := by kernel_rfl

theorem gTab : Tryz.prog.globalNamed "math/bits.deBruijn32tab" = some 1 := by kernel_rfl

theorem tTab : (Tryz.prog.globals[1]?).map (·.type) = some 212 := by kernel_rfl

theorem cellsF : Tryz.prog.cellsOf 23 = 2 := by kernel_rfl

def laid1 : List (String × DataW Unit) := [("math/bits.deBruijn32tab", Rows.laid_math_bits_deBruijn32tab)]

theorem tab_of_laid {W : World} (h : laidMetH Tryz.prog laid1 W) : Tab W := by
  rw [MakeChecks.laidMetH_plain _ _ _ (by kernel_rfl)] at h
  have hT : Lib.TabIs Tryz.prog W "math/bits.deBruijn32tab" .u8 (Lib.deBruijn32tab.map (fun (k : Nat) => (k : Int))) := Lib.tabIs_of_head gTab tTab Tryz.underlying212 Tryz.underlying5 cells8 cellsT h
  intro j hj
  have hc := hT.cell gTab j (by simpa [Lib.deBruijn32tab] using hj)
  rw [hc]
  congr 2
  rw [List.getD_eq_getElem?_getD, List.getD_eq_getElem?_getD, List.getElem?_map]
  have hl : j < Lib.deBruijn32tab.length := by simpa [Lib.deBruijn32tab] using hj
  rw [List.getElem?_eq_getElem hl]
  rfl

/-- The door's own heap meets the condition. -/
theorem door_met (os : Os) (args : Array Value) : laidMetH Tryz.prog laid1 ((World.doorLaid Tryz.prog 14 os).forCall (fun _ _ => 0) ⟨#[], args, []⟩).memory :=
  laidMetH_of_parts3 (fuel := 8) (laidMet_of_run' 8 (by kernel_rfl) (by kernel_rfl)) (by kernel_rfl) (by kernel_rfl)

end Go.Proofs.YtfjgmpfpadfknaaGreatDoor

