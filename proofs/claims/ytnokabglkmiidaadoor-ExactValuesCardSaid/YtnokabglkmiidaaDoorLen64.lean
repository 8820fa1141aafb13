/-
  The walk of math/bits.Len64, over the library's own text.
-/
import Derived.Test.YtnokabglkmiidaaDoorBitsA
import Derived.Lib.ItoaNum
namespace Go.Proofs.YtnokabglkmiidaaDoor
open Go.RowKit Go.Lb

set_option maxHeartbeats 4000000 in
set_option maxRecDepth 100000 in
theorem len64_any (x : Int) (w : World) (h0 : 0 ≤ x) (h1 : x ≤ 18446744073709551615) :
    Calls Tryd.prog 102 #[.int .u64 x] w fun e w' => e = .returned (.int .i64 (Lib.bitLen x.toNat)) ∧ w = w' := by
  have hs : Lib.len8tab.size = 256 := by decide +kernel
  go_enter Tryd.func102, Tryd.ntmps102
  go_wp2
  all_goals (go_ret; refine ⟨congrArg Ending.returned (congrArg (Value.int IntKind.i64) ?_), rfl⟩)
  · have e : (x / 4294967296 / 65536 / 256).toNat = x.toNat / 72057594037927936 := by omega
    have l := Lib.bitLen_le8' (x / 4294967296 / 65536 / 256) (by omega) (by omega)
    have s := Lib.bitLen_shift56 x.toNat (by omega) (by omega)
    rw [len8at _ (by omega)]
    rw [e] at l ⊢
    rw [wrap64_nat (Lib.bitLen _) (by omega)]
    first | rw [wrap64_nat (Lib.bitLen _) (by omega)] | (rw [IntWalk.wrap64_in _ ⟨by omega, by omega⟩]; omega)
  · have e : (x / 4294967296 / 65536).toNat = x.toNat / 281474976710656 := by omega
    have l := Lib.bitLen_le8' (x / 4294967296 / 65536) (by omega) (by omega)
    have s := Lib.bitLen_shift48 x.toNat (by omega) (by omega)
    rw [len8at _ (by omega)]
    rw [e] at l ⊢
    rw [wrap64_nat (Lib.bitLen _) (by omega)]
    first | rw [wrap64_nat (Lib.bitLen _) (by omega)] | (rw [IntWalk.wrap64_in _ ⟨by omega, by omega⟩]; omega)
  · have e : (x / 4294967296 / 256).toNat = x.toNat / 1099511627776 := by omega
    have l := Lib.bitLen_le8' (x / 4294967296 / 256) (by omega) (by omega)
    have s := Lib.bitLen_shift40 x.toNat (by omega) (by omega)
    rw [len8at _ (by omega)]
    rw [e] at l ⊢
    rw [wrap64_nat (Lib.bitLen _) (by omega)]
    first | rw [wrap64_nat (Lib.bitLen _) (by omega)] | (rw [IntWalk.wrap64_in _ ⟨by omega, by omega⟩]; omega)
  · have e : (x / 4294967296).toNat = x.toNat / 4294967296 := by omega
    have l := Lib.bitLen_le8' (x / 4294967296) (by omega) (by omega)
    have s := Lib.bitLen_shift32 x.toNat (by omega) (by omega)
    rw [len8at _ (by omega)]
    rw [e] at l ⊢
    rw [wrap64_nat (Lib.bitLen _) (by omega)]
    first | rw [wrap64_nat (Lib.bitLen _) (by omega)] | (rw [IntWalk.wrap64_in _ ⟨by omega, by omega⟩]; omega)
  · have e : (x / 65536 / 256).toNat = x.toNat / 16777216 := by omega
    have l := Lib.bitLen_le8' (x / 65536 / 256) (by omega) (by omega)
    have s := Lib.bitLen_shift24 x.toNat (by omega) (by omega)
    rw [len8at _ (by omega)]
    rw [e] at l ⊢
    rw [wrap64_nat (Lib.bitLen _) (by omega)]
    first | rw [wrap64_nat (Lib.bitLen _) (by omega)] | (rw [IntWalk.wrap64_in _ ⟨by omega, by omega⟩]; omega)
  · have e : (x / 65536).toNat = x.toNat / 65536 := by omega
    have l := Lib.bitLen_le8' (x / 65536) (by omega) (by omega)
    have s := Lib.bitLen_shift16 x.toNat (by omega) (by omega)
    rw [len8at _ (by omega)]
    rw [e] at l ⊢
    rw [wrap64_nat (Lib.bitLen _) (by omega)]
    first | rw [wrap64_nat (Lib.bitLen _) (by omega)] | (rw [IntWalk.wrap64_in _ ⟨by omega, by omega⟩]; omega)
  · have e : (x / 256).toNat = x.toNat / 256 := by omega
    have l := Lib.bitLen_le8' (x / 256) (by omega) (by omega)
    have s := Lib.bitLen_shift8 x.toNat (by omega) (by omega)
    rw [len8at _ (by omega)]
    rw [e] at l ⊢
    rw [wrap64_nat (Lib.bitLen _) (by omega)]
    first | rw [wrap64_nat (Lib.bitLen _) (by omega)] | (rw [IntWalk.wrap64_in _ ⟨by omega, by omega⟩]; omega)
  · have l := Lib.bitLen_le8' x (by omega) (by omega)
    rw [len8at _ (by omega)]
    rw [wrap64_nat (Lib.bitLen _) (by omega)]
    first | rw [wrap64_nat (Lib.bitLen _) (by omega)] | (rw [IntWalk.wrap64_in _ ⟨by omega, by omega⟩]; omega)

/-- A number has more than k bits just if it is not below 2^k. -/
theorem bitLen_gt {b k : Nat} (hb : b < 18446744073709551616) (hk : k ≤ 64) : k < Lib.bitLen b ↔ 2 ^ k ≤ b := by
  constructor
  · intro h
    apply Nat.le_of_not_lt
    intro hlt
    have := Lib.bitLen_le b k hk hlt
    omega
  · intro h
    apply Nat.lt_of_not_le
    intro hle
    have h0 : b ≠ 0 := by have := Nat.two_pow_pos k; omega
    have h1 := Lib.bitLenAux_bounds 64 b hb h0
    have h2 : b < 2 ^ Lib.bitLen b := h1.2.2
    have h3 : 2 ^ Lib.bitLen b ≤ 2 ^ k := Nat.pow_le_pow_right (by decide) hle
    omega
end Go.Proofs.YtnokabglkmiidaaDoor
