/-
  Arguments of rows, opened: a dyadic, a form, a number of 64 bits.
-/
import Derived.Test.YtoiifhmepniniaaGreatDoorQCRowTab
set_option maxRecDepth 100000
namespace Go.Proofs.YtoiifhmepniniaaGreatDoor
open Go.RowKit Go.Lb Go.ChangeShapes Go.WideShapes Go.ChangeAt Go.Joins
theorem readsU : Tryz.prog.readableRec 22 = true := by kernel_rfl
theorem rowU : 22 < Tryz.prog.types.size := of_decide_eq_true (by kernel_rfl)
theorem open_u64 {H : Type} {enc : TypeId × Value → H} {w : World} {r : Reach} {b0 : Nat} {v : Value} {d : DataW H} {p : List MemPlace} (hv : Value.okWide Tryz.prog w r b0 22 v) (h : DataW.Trod enc Tryz.prog w 0 (fun _ => true) true 22 v d p)
 : ∃ b : Nat, v = .int .u64 (b : Int) ∧ b < 18446744073709551616 := by
 obtain ⟨x, rfl, rfl, rfl, hwf⟩ := open_int Tryz.underlying22 hv h
 have hx : 0 ≤ x ∧ x ≤ 18446744073709551615 := by simpa [Lit.wf, IntKind.min, IntKind.max, IntKind.signed, IntKind.bits] using hwf
 obtain ⟨b, rfl⟩ := Int.eq_ofNat_of_zero_le hx.1
 exact ⟨b, rfl, by omega⟩
theorem rowBn : 4 < Tryz.prog.types.size := of_decide_eq_true (by kernel_rfl)
theorem rowIn : 3 < Tryz.prog.types.size := of_decide_eq_true (by kernel_rfl)
theorem readsW : Tryz.prog.readableRec 23 = true := by kernel_rfl
theorem rowWn : 23 < Tryz.prog.types.size := of_decide_eq_true (by kernel_rfl)
theorem open_u32 {H : Type} {enc : TypeId × Value → H} {w : World} {r : Reach} {b0 : Nat} {v : Value} {d : DataW H} {p : List MemPlace} (hv : Value.okWide Tryz.prog w r b0 23 v) (h : DataW.Trod enc Tryz.prog w 0 (fun _ => true) true 23 v d p)
 : ∃ b : Nat, v = .int .u32 (b : Int) ∧ b < 4294967296 := by
 obtain ⟨x, rfl, rfl, rfl, hwf⟩ := open_int Tryz.underlying23 hv h
 have hx : 0 ≤ x ∧ x ≤ 4294967295 := by simpa [Lit.wf, IntKind.min, IntKind.max, IntKind.signed, IntKind.bits] using hwf
 obtain ⟨b, rfl⟩ := Int.eq_ofNat_of_zero_le hx.1
 exact ⟨b, rfl, by omega⟩
end Go.Proofs.YtoiifhmepniniaaGreatDoor
