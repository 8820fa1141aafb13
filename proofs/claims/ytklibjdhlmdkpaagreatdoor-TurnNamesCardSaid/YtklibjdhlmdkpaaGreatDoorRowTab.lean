/-
  What the rows over the laid table share: the table's cells out of the row's condition, a number opened, closed facts on the types.
-/
import Derived.Test.YtklibjdhlmdkpaaGreatDoorMakes
import Derived.Test.YtklibjdhlmdkpaaGreatDoorPost
import Derived.Lib.LaidTab
import Derived.LaidMore
import Derived.OpenShut
namespace Go.Proofs.YtklibjdhlmdkpaaGreatDoor
open Go.RowKit Go.Lb Go.ChangeShapes Go.WideShapes Go.ChangeAt Go.Joins

theorem own : ownKnob Tryz.prog.godebug = none := by kernel_rfl
theorem cells1 : Tryz.prog.cellsOf 38 = 1 := by kernel_rfl
theorem cellsD : Tryz.prog.cellsOf 113 = 3 := by kernel_rfl
theorem cellsN : Tryz.prog.cellsOf 111 = 1 := by kernel_rfl
theorem cellsS : Tryz.prog.cellsOf 109 = 1 := by kernel_rfl
theorem cells8 : Tryz.prog.cellsOf 5 = 1 := by kernel_rfl
theorem cellsT : Tryz.prog.cellsOf 327 = 32 := by kernel_rfl
theorem bytes4 : Tryz.prog.bytesOf 38 = 4 := by kernel_rfl
theorem laidOut : laidOutB Tryz.prog = true := by kernel_rfl
theorem gTab : Tryz.prog.globalNamed "math/bits.deBruijn32tab" = some 1 := by kernel_rfl
theorem tTab : (Tryz.prog.globals[1]?).map (·.type) = some 327 := by kernel_rfl

theorem cellsF : Tryz.prog.cellsOf 24 = 2 := by kernel_rfl

def laid1 : List (String × DataW Unit) := [("math/bits.deBruijn32tab", Rows.laid_math_bits_deBruijn32tab)]

theorem tab_of_laid {W : World} (h : laidMetH Tryz.prog laid1 W) : Tab W := by
  rw [MakeChecks.laidMetH_plain _ _ _ (by kernel_rfl)] at h
  have hT : Lib.TabIs Tryz.prog W "math/bits.deBruijn32tab" .u8 (Lib.deBruijn32tab.map (fun (k : Nat) => (k : Int))) := Lib.tabIs_of_head gTab tTab Tryz.underlying327 Tryz.underlying5 cells8 cellsT h
  intro j hj
  have hc := hT.cell gTab j (by simpa [Lib.deBruijn32tab] using hj)
  rw [hc]
  congr 2
  rw [List.getD_eq_getElem?_getD, List.getD_eq_getElem?_getD, List.getElem?_map]
  have hl : j < Lib.deBruijn32tab.length := by simpa [Lib.deBruijn32tab] using hj
  rw [List.getElem?_eq_getElem hl]
  rfl

/-- The door's own heap meets the condition. -/
theorem door_met (os : Os) (args : Array Value) : laidMetH Tryz.prog laid1 ((World.doorLaid Tryz.prog 14 os).forCall (fun _ _ => 0) ⟨#[], args, []⟩).memory :=
  laidMetH_of_parts3 (fuel := 8) (laidMet_of_run' 8 (by kernel_rfl) (by kernel_rfl)) (by kernel_rfl) (by kernel_rfl)

/-- A number by value, opened: it reads as limbs. -/
theorem open_nat {H : Type} {enc : TypeId × Value → H} {w : World} {m : Nat} {v : Value} {y : DataW H × List MemPlace} (h : DataW.trod enc Tryz.prog w 0 (fun _ => true) true m 111 [v] = some y)
    : ∃ (ao : Option Addr) (len cap : Nat) (xs : List Nat) (el sp : List (DataW H)), v = .slice ao len cap ∧ Sl w ao len cap xs ∧ (y.1 = .agg [.nil] ∧ cap = 0 ∨ y.1 = .agg [.slice el sp] ∧ el.length + sp.length = cap) := by
  obtain ⟨y0, k, hy, _, h0⟩ := trod_struct1 Tryz.underlying111 h
  have h1 : DataW.trod enc Tryz.prog w 0 (fun _ => true) true k 109 [v] = some y0 := by simpa [cellsS] using h0
  rcases open_ints Tryz.underlying109 Tryz.underlying38 cells1 h1 with ⟨hcs, hx⟩ | ⟨a, len, cap, zs, hcs, _, hl, hm, hz, hx, hcell, hwz⟩
  · simp only [List.cons.injEq, and_true] at hcs
    subst hcs
    exact ⟨none, 0, 0, [], [], [], rfl, sl_nil w, .inl ⟨by rw [hy, hx], rfl⟩⟩
  · simp only [List.cons.injEq, and_true] at hcs
    subst hcs
    simp only [if_true] at hz
    exact ⟨some a, len, cap, _, lits .u32 (zs.take len), lits .u32 (zs.drop len), rfl, sl_of_ints hl hm hz hcell hwz, .inr ⟨by rw [hy, hx], by simp [lits]; omega⟩⟩

set_option maxRecDepth 100000 in
theorem open_natA {H : Type} {enc : TypeId × Value → H} {w : World} {r : Reach} {b0 : Nat} {v : Value} {d : DataW H} {p : List MemPlace} (hv : Value.okWide Tryz.prog w r b0 111 v) (h : DataW.Trod enc Tryz.prog w 0 (fun _ => true) true 111 v d p)
    : ∃ (ao : Option Addr) (len cap : Nat) (xs : List Nat) (el sp : List (DataW H)), v = .agg #[.slice ao len cap] ∧ Sl w ao len cap xs ∧ (d = .agg [.nil] ∧ cap = 0 ∨ d = .agg [.slice el sp] ∧ el.length + sp.length = cap) := by
  obtain ⟨cs, rfl, hsz⟩ := okWide_struct Tryz.underlying111 hv
  rw [cellsN] at hsz
  obtain ⟨l⟩ := cs
  match l, hsz with
  | [v0], _ =>
    obtain ⟨fuel, hf⟩ := h
    obtain ⟨ao, len, cap, xs, el, sp, rfl, h1, h2⟩ := open_nat (v := v0) hf
    exact ⟨ao, len, cap, xs, el, sp, rfl, h1, h2⟩

/-- How long a number that is handed in may be. -/
theorem nat_small {H : Type} {d : DataW H} {n c : Nat} {el sp : List (DataW H)} (hn : n ≤ c) (hd : d = .agg [.nil] ∧ c = 0 ∨ d = .agg [.slice el sp] ∧ el.length + sp.length = c)
    (h : (DataW.weights Tryz.prog 111 d).all (fun x => decide (x ≤ reachBytes)) = true) : n + 43 ≤ 35184372088832 := by
  rcases hd with ⟨hd, hc0⟩ | ⟨hd, hc0⟩
  · omega
  · rw [hd] at h
    simp [DataW.weights, DataW.weightsEach, Tryz.underlying111, Tryz.underlying109, bytes4, hc0, reachBytes] at h
    have h2 := of_decide_eq_true h.1
    omega

end Go.Proofs.YtklibjdhlmdkpaaGreatDoor
