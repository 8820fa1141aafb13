/-
  Arguments of rows, opened: a dyadic, a form, a number of 64 bits.
-/
import Derived.Test.YtmiheaoojmgalaaDoorRowTab
namespace Go.Proofs.YtmiheaoojmgalaaDoor
open Go.RowKit Go.Lb Go.ChangeShapes Go.WideShapes Go.ChangeAt Go.Joins

theorem readsD : Tryd.prog.readableRec 37 = true := by kernel_rfl
theorem rowD : 37 < Tryd.prog.types.size := of_decide_eq_true (by kernel_rfl)
theorem readsU : Tryd.prog.readableRec 24 = true := by kernel_rfl
theorem rowU : 24 < Tryd.prog.types.size := of_decide_eq_true (by kernel_rfl)

theorem readsF : Tryd.prog.readableRec 23 = true := by kernel_rfl
theorem rowF : 23 < Tryd.prog.types.size := of_decide_eq_true (by kernel_rfl)

set_option maxRecDepth 100000 in
/-- A dyadic by value, opened. -/
theorem open_dyadic {H : Type} {enc : TypeId × Value → H} {w : World} {r : Reach} {b0 : Nat} {v : Value} {d : DataW H} {p : List MemPlace} (hv : Value.okWide Tryd.prog w r b0 37 v) (h : DataW.Trod enc Tryd.prog w 0 (fun _ => true) true 37 v d p)
    : ∃ (neg : Bool) (ao : Option Addr) (n c : Nat) (x : Int) (xs : List Nat), v = .agg #[.bool neg, .slice ao n c, .int .i64 x] ∧ Sl w ao n c xs ∧ ((DataW.weights Tryd.prog 37 d).all (fun x => decide (x ≤ reachBytes)) = true → n + 43 ≤ 35184372088832) := by
  obtain ⟨b0, b1, b2, z0, z1, z2, m2, rfl, rfl, rfl, hz0, hz1, hz2⟩ := open_agg3 Tryd.underlying37 (by kernel_rfl) cellsD hv h
  obtain ⟨neg, hneg, hzn⟩ := DataW.trod_bool Tryd.underlying4 hz0
  obtain ⟨x, hx, hzx, _⟩ := DataW.trod_int Tryd.underlying3 hz2
  obtain ⟨ao, n, c, xs, el, sl, rfl, hS, hd⟩ := open_nat hz1
  simp only [List.cons.injEq, and_true] at hneg hx
  subst hneg; subst hx
  refine ⟨neg, ao, n, c, x, xs, rfl, hS, fun h1 => ?_⟩
  have := hS.le
  rcases hd with ⟨hd, hc0⟩ | ⟨hd, hc0⟩
  · omega
  · rw [hzn, hd, hzx] at h1
    simp [DataW.weightsEach, DataW.weights, Tryd.underlying37, Tryd.underlying35, Tryd.underlying33, bytes4, hc0, reachBytes] at h1
    have h2 := of_decide_eq_true h1.1
    omega

set_option maxRecDepth 100000 in
/-- A form by value, opened. -/
theorem open_form {H : Type} {enc : TypeId × Value → H} {w : World} {r : Reach} {b0 : Nat} {v : Value} {d : DataW H} {p : List MemPlace} (hv : Value.okWide Tryd.prog w r b0 23 v) (h : DataW.Trod enc Tryd.prog w 0 (fun _ => true) true 23 v d p)
    : ∃ e f : Int, v = .agg #[.int .i64 e, .int .i64 f] := by
  obtain ⟨a0, a1, y0, y1, m, rfl, rfl, rfl, hy0, hy1⟩ := open_agg2 Tryd.underlying23 (by kernel_rfl) cellsF hv h
  obtain ⟨e, he, hye, _⟩ := DataW.trod_int Tryd.underlying3 hy0
  obtain ⟨f, hf, hyf, _⟩ := DataW.trod_int Tryd.underlying3 hy1
  simp only [List.cons.injEq, and_true] at he hf
  exact ⟨e, f, by rw [he, hf]⟩

set_option maxRecDepth 100000 in
/-- A number of 64 bits, opened. -/
theorem open_u64 {H : Type} {enc : TypeId × Value → H} {w : World} {r : Reach} {b0 : Nat} {v : Value} {d : DataW H} {p : List MemPlace} (hv : Value.okWide Tryd.prog w r b0 24 v) (h : DataW.Trod enc Tryd.prog w 0 (fun _ => true) true 24 v d p)
    : ∃ b : Nat, v = .int .u64 (b : Int) ∧ b < 18446744073709551616 := by
  obtain ⟨x, rfl, rfl, rfl, hwf⟩ := open_int Tryd.underlying24 hv h
  have hx : 0 ≤ x ∧ x ≤ 18446744073709551615 := by simpa [Lit.wf, IntKind.min, IntKind.max, IntKind.signed, IntKind.bits] using hwf
  obtain ⟨b, rfl⟩ := Int.eq_ofNat_of_zero_le hx.1
  exact ⟨b, rfl, by omega⟩

end Go.Proofs.YtmiheaoojmgalaaDoor
