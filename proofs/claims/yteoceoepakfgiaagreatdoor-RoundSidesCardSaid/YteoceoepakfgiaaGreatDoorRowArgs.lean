/-
  Arguments of rows, opened: a dyadic, a form, a number of 64 bits.
-/
import Derived.Test.YteoceoepakfgiaaGreatDoorRowTab
namespace Go.Proofs.YteoceoepakfgiaaGreatDoor
open Go.RowKit Go.Lb Go.ChangeShapes Go.WideShapes Go.ChangeAt Go.Joins

theorem readsD : Tryz.prog.readableRec 99 = true := by kernel_rfl
theorem rowD : 99 < Tryz.prog.types.size := of_decide_eq_true (by kernel_rfl)
theorem readsU : Tryz.prog.readableRec 44 = true := by kernel_rfl
theorem rowU : 44 < Tryz.prog.types.size := of_decide_eq_true (by kernel_rfl)

theorem readsF : Tryz.prog.readableRec 30 = true := by kernel_rfl
theorem rowF : 30 < Tryz.prog.types.size := of_decide_eq_true (by kernel_rfl)

set_option maxRecDepth 100000 in
/-- A dyadic by value, opened. -/
theorem open_dyadic {H : Type} {enc : TypeId × Value → H} {w : World} {r : Reach} {b0 : Nat} {v : Value} {d : DataW H} {p : List MemPlace} (hv : Value.okWide Tryz.prog w r b0 99 v) (h : DataW.Trod enc Tryz.prog w 0 (fun _ => true) true 99 v d p)
    : ∃ (neg : Bool) (ao : Option Addr) (n c : Nat) (x : Int) (xs : List Nat), v = .agg #[.bool neg, .slice ao n c, .int .i64 x] ∧ Sl w ao n c xs ∧ ((DataW.weights Tryz.prog 99 d).all (fun x => decide (x ≤ reachBytes)) = true → n + 43 ≤ 35184372088832) := by
  obtain ⟨b0, b1, b2, z0, z1, z2, m2, rfl, rfl, rfl, hz0, hz1, hz2⟩ := open_agg3 Tryz.underlying99 (by kernel_rfl) cellsD hv h
  obtain ⟨neg, hneg, hzn⟩ := DataW.trod_bool Tryz.underlying4 hz0
  obtain ⟨x, hx, hzx, _⟩ := DataW.trod_int Tryz.underlying3 hz2
  obtain ⟨ao, n, c, xs, el, sl, rfl, hS, hd⟩ := open_nat hz1
  simp only [List.cons.injEq, and_true] at hneg hx
  subst hneg; subst hx
  refine ⟨neg, ao, n, c, x, xs, rfl, hS, fun h1 => ?_⟩
  have := hS.le
  rcases hd with ⟨hd, hc0⟩ | ⟨hd, hc0⟩
  · omega
  · rw [hzn, hd, hzx] at h1
    simp [DataW.weightsEach, DataW.weights, Tryz.underlying99, Tryz.underlying24, Tryz.underlying22, bytes4, hc0, reachBytes] at h1
    have h2 := of_decide_eq_true h1.1
    omega

set_option maxRecDepth 100000 in
/-- A form by value, opened. -/
theorem open_form {H : Type} {enc : TypeId × Value → H} {w : World} {r : Reach} {b0 : Nat} {v : Value} {d : DataW H} {p : List MemPlace} (hv : Value.okWide Tryz.prog w r b0 30 v) (h : DataW.Trod enc Tryz.prog w 0 (fun _ => true) true 30 v d p)
    : ∃ e f : Int, v = .agg #[.int .i64 e, .int .i64 f] := by
  obtain ⟨a0, a1, y0, y1, m, rfl, rfl, rfl, hy0, hy1⟩ := open_agg2 Tryz.underlying30 (by kernel_rfl) cellsF hv h
  obtain ⟨e, he, hye, _⟩ := DataW.trod_int Tryz.underlying3 hy0
  obtain ⟨f, hf, hyf, _⟩ := DataW.trod_int Tryz.underlying3 hy1
  simp only [List.cons.injEq, and_true] at he hf
  exact ⟨e, f, by rw [he, hf]⟩

set_option maxRecDepth 100000 in
/-- A number of 64 bits, opened. -/
theorem open_u64 {H : Type} {enc : TypeId × Value → H} {w : World} {r : Reach} {b0 : Nat} {v : Value} {d : DataW H} {p : List MemPlace} (hv : Value.okWide Tryz.prog w r b0 44 v) (h : DataW.Trod enc Tryz.prog w 0 (fun _ => true) true 44 v d p)
    : ∃ b : Nat, v = .int .u64 (b : Int) ∧ b < 18446744073709551616 := by
  obtain ⟨x, rfl, rfl, rfl, hwf⟩ := open_int Tryz.underlying44 hv h
  have hx : 0 ≤ x ∧ x ≤ 18446744073709551615 := by simpa [Lit.wf, IntKind.min, IntKind.max, IntKind.signed, IntKind.bits] using hwf
  obtain ⟨b, rfl⟩ := Int.eq_ofNat_of_zero_le hx.1
  exact ⟨b, rfl, by omega⟩

theorem readsR : Tryz.prog.readableRec 26 = true := by kernel_rfl
theorem rowR : 26 < Tryz.prog.types.size := of_decide_eq_true (by kernel_rfl)
theorem cellsR : Tryz.prog.cellsOf 26 = 3 := by kernel_rfl

set_option maxRecDepth 100000 in
/-- A fraction by value, opened. -/
theorem open_ratio {H : Type} {enc : TypeId × Value → H} {w : World} {r : Reach} {b0 : Nat} {v : Value} {d : DataW H} {p : List MemPlace} (hv : Value.okWide Tryz.prog w r b0 26 v) (h : DataW.Trod enc Tryz.prog w 0 (fun _ => true) true 26 v d p)
    : ∃ (neg : Bool) (ao bo : Option Addr) (n m c e : Nat) (xs ys : List Nat), v = .agg #[.bool neg, .slice ao n c, .slice bo m e] ∧ Sl w ao n c xs ∧ Sl w bo m e ys ∧ ((DataW.weights Tryz.prog 26 d).all (fun x => decide (x ≤ reachBytes)) = true → n + 43 ≤ 35184372088832 ∧ m + 43 ≤ 35184372088832) := by
  obtain ⟨b0, b1, b2, z0, z1, z2, m2, rfl, rfl, rfl, hz0, hz1, hz2⟩ := open_agg3 Tryz.underlying26 (by kernel_rfl) cellsR hv h
  obtain ⟨neg, hneg, hzn⟩ := DataW.trod_bool Tryz.underlying4 hz0
  obtain ⟨ao, n, c, xs, el, sl, rfl, hS, hd⟩ := open_nat hz1
  obtain ⟨bo, m, e, ys, em, sm, rfl, hZ, hd2⟩ := open_nat hz2
  simp only [List.cons.injEq, and_true] at hneg
  subst hneg
  refine ⟨neg, ao, bo, n, m, c, e, xs, ys, rfl, hS, hZ, fun h1 => ?_⟩
  unfold DataW.weights at h1
  rw [Tryz.underlying26] at h1
  simp only [List.map, DataW.weightsEach, List.all_append, Bool.and_eq_true] at h1
  exact ⟨nat_small hS.le hd h1.2.1, nat_small hZ.le hd2 h1.2.2.1⟩

theorem readsB : Tryz.prog.readableRec 4 = true := by kernel_rfl
theorem rowB : 4 < Tryz.prog.types.size := of_decide_eq_true (by kernel_rfl)

theorem reads8 : Tryz.prog.readableRec 5 = true := by kernel_rfl
theorem row8 : 5 < Tryz.prog.types.size := of_decide_eq_true (by kernel_rfl)

theorem readsI : Tryz.prog.readableRec 3 = true := by kernel_rfl
theorem rowI : 3 < Tryz.prog.types.size := of_decide_eq_true (by kernel_rfl)

set_option maxRecDepth 100000 in
/-- A truth value, opened. -/
theorem open_flag {H : Type} {enc : TypeId × Value → H} {w : World} {r : Reach} {b0 : Nat} {v : Value} {d : DataW H} {p : List MemPlace} (hv : Value.okWide Tryz.prog w r b0 4 v) (h : DataW.Trod enc Tryz.prog w 0 (fun _ => true) true 4 v d p)
    : ∃ b : Bool, v = .bool b := by
  obtain ⟨b, rfl, _, _⟩ := open_bool Tryz.underlying4 hv h
  exact ⟨b, rfl⟩

set_option maxRecDepth 100000 in
/-- A number of 8 bits, opened. -/
theorem open_u8 {H : Type} {enc : TypeId × Value → H} {w : World} {r : Reach} {b0 : Nat} {v : Value} {d : DataW H} {p : List MemPlace} (hv : Value.okWide Tryz.prog w r b0 5 v) (h : DataW.Trod enc Tryz.prog w 0 (fun _ => true) true 5 v d p)
    : ∃ b : Nat, v = .int .u8 (b : Int) ∧ b < 256 := by
  obtain ⟨x, rfl, rfl, rfl, hwf⟩ := open_int Tryz.underlying5 hv h
  have hx : 0 ≤ x ∧ x ≤ 255 := by simpa [Lit.wf, IntKind.min, IntKind.max, IntKind.signed, IntKind.bits] using hwf
  obtain ⟨b, rfl⟩ := Int.eq_ofNat_of_zero_le hx.1
  exact ⟨b, rfl, by omega⟩

set_option maxRecDepth 100000 in
/-- An int, opened. -/
theorem open_i64 {H : Type} {enc : TypeId × Value → H} {w : World} {r : Reach} {b0 : Nat} {v : Value} {d : DataW H} {p : List MemPlace} (hv : Value.okWide Tryz.prog w r b0 3 v) (h : DataW.Trod enc Tryz.prog w 0 (fun _ => true) true 3 v d p)
    : ∃ n : Int, v = .int .i64 n ∧ -9223372036854775808 ≤ n ∧ n ≤ 9223372036854775807 := by
  obtain ⟨x, rfl, rfl, rfl, hwf⟩ := open_int Tryz.underlying3 hv h
  have hx : -9223372036854775808 ≤ x ∧ x ≤ 9223372036854775807 := by simpa [Lit.wf, IntKind.min, IntKind.max, IntKind.signed, IntKind.bits] using hwf
  exact ⟨x, rfl, hx.1, hx.2⟩

end Go.Proofs.YteoceoepakfgiaaGreatDoor
