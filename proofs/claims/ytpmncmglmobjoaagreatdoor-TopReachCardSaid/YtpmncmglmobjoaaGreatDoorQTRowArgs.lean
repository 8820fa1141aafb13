/-
  Arguments of rows, opened: a dyadic, a form, a number of 64 bits.
-/
import Derived.Test.YtpmncmglmobjoaaGreatDoorQTRowTab
set_option maxRecDepth 100000
namespace Go.Proofs.YtpmncmglmobjoaaGreatDoor
open Go.RowKit Go.Lb Go.ChangeShapes Go.WideShapes Go.ChangeAt Go.Joins
theorem readsU : Tryz.prog.readableRec 24 = true := by kernel_rfl
theorem rowU : 24 < Tryz.prog.types.size := of_decide_eq_true (by kernel_rfl)
theorem readsF : Tryz.prog.readableRec 23 = true := by kernel_rfl
theorem rowF : 23 < Tryz.prog.types.size := of_decide_eq_true (by kernel_rfl)
theorem open_form {H : Type} {enc : TypeId × Value → H} {w : World} {r : Reach} {b0 : Nat} {v : Value} {d : DataW H} {p : List MemPlace} (hv : Value.okWide Tryz.prog w r b0 23 v) (h : DataW.Trod enc Tryz.prog w 0 (fun _ => true) true 23 v d p)
 : ∃ e f : Int, v = .agg #[.int .i64 e, .int .i64 f] := by
 obtain ⟨a0, a1, y0, y1, m, rfl, rfl, rfl, hy0, hy1⟩ := open_agg2 Tryz.underlying23 (by kernel_rfl) cellsF hv h
 obtain ⟨e, he, hye, _⟩ := DataW.trod_int Tryz.underlying3 hy0
 obtain ⟨f, hf, hyf, _⟩ := DataW.trod_int Tryz.underlying3 hy1
 simp only [List.cons.injEq, and_true] at he hf
 exact ⟨e, f, by rw [he, hf]⟩
theorem open_u64 {H : Type} {enc : TypeId × Value → H} {w : World} {r : Reach} {b0 : Nat} {v : Value} {d : DataW H} {p : List MemPlace} (hv : Value.okWide Tryz.prog w r b0 24 v) (h : DataW.Trod enc Tryz.prog w 0 (fun _ => true) true 24 v d p)
 : ∃ b : Nat, v = .int .u64 (b : Int) ∧ b < 18446744073709551616 := by
 obtain ⟨x, rfl, rfl, rfl, hwf⟩ := open_int Tryz.underlying24 hv h
 have hx : 0 ≤ x ∧ x ≤ 18446744073709551615 := by simpa [Lit.wf, IntKind.min, IntKind.max, IntKind.signed, IntKind.bits] using hwf
 obtain ⟨b, rfl⟩ := Int.eq_ofNat_of_zero_le hx.1
 exact ⟨b, rfl, by omega⟩
theorem readsR : Tryz.prog.readableRec 29 = true := by kernel_rfl
theorem rowR : 29 < Tryz.prog.types.size := of_decide_eq_true (by kernel_rfl)
theorem cellsR : Tryz.prog.cellsOf 29 = 3 := by kernel_rfl
theorem open_ratio {H : Type} {enc : TypeId × Value → H} {w : World} {r : Reach} {b0 : Nat} {v : Value} {d : DataW H} {p : List MemPlace} (hv : Value.okWide Tryz.prog w r b0 29 v) (h : DataW.Trod enc Tryz.prog w 0 (fun _ => true) true 29 v d p)
 : ∃ (neg : Bool) (ao bo : Option Addr) (n m c e : Nat) (xs ys : List Nat), v = .agg #[.bool neg, .slice ao n c, .slice bo m e] ∧ Sl w ao n c xs ∧ Sl w bo m e ys ∧ ((DataW.weights Tryz.prog 29 d).all (fun x => decide (x ≤ reachBytes)) = true → n + 43 ≤ 35184372088832 ∧ m + 43 ≤ 35184372088832) := by
 obtain ⟨b0, b1, b2, z0, z1, z2, m2, rfl, rfl, rfl, hz0, hz1, hz2⟩ := open_agg3 Tryz.underlying29 (by kernel_rfl) cellsR hv h
 obtain ⟨neg, hneg, hzn⟩ := DataW.trod_bool Tryz.underlying4 hz0
 obtain ⟨ao, n, c, xs, el, sl, rfl, hS, hd⟩ := open_nat hz1
 obtain ⟨bo, m, e, ys, em, sm, rfl, hZ, hd2⟩ := open_nat hz2
 simp only [List.cons.injEq, and_true] at hneg
 subst hneg
 refine ⟨neg, ao, bo, n, m, c, e, xs, ys, rfl, hS, hZ, fun h1 => ?_⟩
 unfold DataW.weights at h1
 rw [Tryz.underlying29] at h1
 simp only [List.map, DataW.weightsEach, List.all_append, Bool.and_eq_true] at h1
 exact ⟨nat_small hS.le hd h1.2.1, nat_small hZ.le hd2 h1.2.2.1⟩
theorem reads8 : Tryz.prog.readableRec 5 = true := by kernel_rfl
theorem row8 : 5 < Tryz.prog.types.size := of_decide_eq_true (by kernel_rfl)
theorem open_u8 {H : Type} {enc : TypeId × Value → H} {w : World} {r : Reach} {b0 : Nat} {v : Value} {d : DataW H} {p : List MemPlace} (hv : Value.okWide Tryz.prog w r b0 5 v) (h : DataW.Trod enc Tryz.prog w 0 (fun _ => true) true 5 v d p)
 : ∃ b : Nat, v = .int .u8 (b : Int) ∧ b < 256 := by
 obtain ⟨x, rfl, rfl, rfl, hwf⟩ := open_int Tryz.underlying5 hv h
 have hx : 0 ≤ x ∧ x ≤ 255 := by simpa [Lit.wf, IntKind.min, IntKind.max, IntKind.signed, IntKind.bits] using hwf
 obtain ⟨b, rfl⟩ := Int.eq_ofNat_of_zero_le hx.1
 exact ⟨b, rfl, by omega⟩
end Go.Proofs.YtpmncmglmobjoaaGreatDoor
