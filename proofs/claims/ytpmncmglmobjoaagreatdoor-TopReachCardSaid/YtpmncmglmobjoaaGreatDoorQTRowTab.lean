/-
  What the rows over the laid table share: the table's cells out of the row's condition, a number opened, closed facts on the types.
-/
import Derived.Lib.LaidTab
import Derived.LaidMore
import Derived.OpenShut
import Derived.Test.YtpmncmglmobjoaaGreatDoorQTPost
namespace Go.Proofs.YtpmncmglmobjoaaGreatDoor
open Go.RowKit Go.Lb Go.ChangeShapes Go.WideShapes Go.ChangeAt Go.Joins
theorem own : ownKnob Tryz.prog.godebug = none := by kernel_rfl
theorem cells1 : Tryz.prog.cellsOf 40 = 1 := by kernel_rfl
theorem cellsS : Tryz.prog.cellsOf 25 = 1 := by kernel_rfl
theorem cells8 : Tryz.prog.cellsOf 5 = 1 := by kernel_rfl
theorem cellsT : Tryz.prog.cellsOf 183 = 32 := by kernel_rfl
theorem bytes4 : Tryz.prog.bytesOf 40 = 4 := by kernel_rfl
theorem laidOut : laidOutB Tryz.prog = true := by kernel_rfl
theorem gTab : Tryz.prog.globalNamed "math/bits.deBruijn32tab" = some 0 := by kernel_rfl
theorem tTab : (Tryz.prog.globals[0]?).map (·.type) = some 183 := by kernel_rfl
theorem cellsF : Tryz.prog.cellsOf 23 = 2 := by kernel_rfl
def laid1 : List (String × DataW Unit) := [("math/bits.deBruijn32tab", Rows.laid_math_bits_deBruijn32tab)]
theorem tab_of_laid {W : World} (h : laidMetH Tryz.prog laid1 W) : Tab W := by
 rw [MakeChecks.laidMetH_plain _ _ _ (by kernel_rfl)] at h
 have hT : Lib.TabIs Tryz.prog W "math/bits.deBruijn32tab" .u8 (Lib.deBruijn32tab.map (fun (k : Nat) => (k : Int))) := Lib.tabIs_of_head gTab tTab Tryz.underlying183 Tryz.underlying5 cells8 cellsT h
 intro j hj
 have hc := hT.cell gTab j (by simpa [Lib.deBruijn32tab] using hj)
 rw [hc]
 congr 2
 rw [List.getD_eq_getElem?_getD, List.getD_eq_getElem?_getD, List.getElem?_map]
 have hl : j < Lib.deBruijn32tab.length := by simpa [Lib.deBruijn32tab] using hj
 rw [List.getElem?_eq_getElem hl]
 rfl
theorem door_met (os : Os) (args : Array Value) : laidMetH Tryz.prog laid1 ((World.doorLaid Tryz.prog 14 os).forCall (fun _ _ => 0) ⟨#[], args, []⟩).memory :=
 laidMetH_of_parts3 (fuel := 8) (laidMet_of_run' 8 (by kernel_rfl) (by kernel_rfl)) (by kernel_rfl) (by kernel_rfl)
theorem open_nat {H : Type} {enc : TypeId × Value → H} {w : World} {m : Nat} {v : Value} {y : DataW H × List MemPlace} (h : DataW.trod enc Tryz.prog w 0 (fun _ => true) true m 27 [v] = some y)
 : ∃ (ao : Option Addr) (len cap : Nat) (xs : List Nat) (el sp : List (DataW H)), v = .slice ao len cap ∧ Sl w ao len cap xs ∧ (y.1 = .agg [.nil] ∧ cap = 0 ∨ y.1 = .agg [.slice el sp] ∧ el.length + sp.length = cap) := by
 obtain ⟨y0, k, hy, _, h0⟩ := trod_struct1 Tryz.underlying27 h
 have h1 : DataW.trod enc Tryz.prog w 0 (fun _ => true) true k 25 [v] = some y0 := by simpa [cellsS] using h0
 rcases open_ints Tryz.underlying25 Tryz.underlying40 cells1 h1 with ⟨hcs, hx⟩ | ⟨a, len, cap, zs, hcs, _, hl, hm, hz, hx, hcell, hwz⟩
 · simp only [List.cons.injEq, and_true] at hcs
   subst hcs
   exact ⟨none, 0, 0, [], [], [], rfl, sl_nil w, .inl ⟨by rw [hy, hx], rfl⟩⟩
 · simp only [List.cons.injEq, and_true] at hcs
   subst hcs
   simp only [if_true] at hz
   exact ⟨some a, len, cap, _, lits .u32 (zs.take len), lits .u32 (zs.drop len), rfl, sl_of_ints hl hm hz hcell hwz, .inr ⟨by rw [hy, hx], by simp [lits]; omega⟩⟩
theorem nat_small {H : Type} {d : DataW H} {n c : Nat} {el sp : List (DataW H)} (hn : n ≤ c) (hd : d = .agg [.nil] ∧ c = 0 ∨ d = .agg [.slice el sp] ∧ el.length + sp.length = c)
 (h : (DataW.weights Tryz.prog 27 d).all (fun x => decide (x ≤ reachBytes)) = true) : n + 43 ≤ 35184372088832 := by
 rcases hd with ⟨hd, hc0⟩ | ⟨hd, hc0⟩
 · omega
 · rw [hd] at h
   simp [DataW.weights, DataW.weightsEach, Tryz.underlying27, Tryz.underlying25, bytes4, hc0, reachBytes] at h
   have h2 := of_decide_eq_true h.1
   omega
end Go.Proofs.YtpmncmglmobjoaaGreatDoor
