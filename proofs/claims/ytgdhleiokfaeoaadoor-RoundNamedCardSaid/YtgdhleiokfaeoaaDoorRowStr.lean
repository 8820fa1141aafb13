/-
  A text by value, opened.
-/
import Derived.Test.YtgdhleiokfaeoaaDoorRowTab
import Derived.ChangeMaps5
namespace Go.Proofs.YtgdhleiokfaeoaaDoor
open Go.RowKit Go.Lb Go.ChangeShapes Go.WideShapes Go.ChangeAt Go.Joins

theorem readsS : Tryd.prog.readableRec 9 = true := by kernel_rfl
theorem rowS : 9 < Tryd.prog.types.size := of_decide_eq_true (by kernel_rfl)

set_option maxRecDepth 100000 in
/-- A text, opened. -/
theorem open_str {H : Type} {enc : TypeId × Value → H} {w : World} {r : Reach} {b0 : Nat} {v : Value} {d : DataW H} {p : List MemPlace} (hv : Value.okWide Tryd.prog w r b0 9 v) (h : DataW.Trod enc Tryd.prog w 0 (fun _ => true) true 9 v d p)
    : ∃ s : ByteArray, v = .string s := by
  obtain ⟨s, rfl, _, _, _⟩ := ChangeMaps.open_string Tryd.underlying9 hv h
  exact ⟨s, rfl⟩

end Go.Proofs.YtgdhleiokfaeoaaDoor
