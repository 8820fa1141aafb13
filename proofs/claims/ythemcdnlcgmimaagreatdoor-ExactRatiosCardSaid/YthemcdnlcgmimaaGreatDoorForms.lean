/-
  The walks of the small functions of forms. The walks of forms.layout, join, Join and of the reference's May. The walk of math/bits.Len64, over the library's own text. The walks of forms.Fits and of the reference's May: may bits be a float of a form?
-/
import Derived.Test.YthemcdnlcgmimaaGreatDoorNats
import Derived.Test.YthemcdnlcgmimaaGreatDoorBase
import Derived.Deep.RegionHeld3
import Derived.Lib.ItoaNum
namespace Go.Proofs.YthemcdnlcgmimaaGreatDoor
open Go.RowKit Go.Lb

/-- May a form be? -/
def formB (e f : Int) : Bool := decide (2 ≤ e ∧ e ≤ 11 ∧ 1 ≤ f ∧ f ≤ 52)
def formE (e f : Int) : Int := if formB e f = true then 0 else 5

theorem formE_ok {e f : Int} (h : formE e f = 0) : 2 ≤ e ∧ e ≤ 11 ∧ 1 ≤ f ∧ f ≤ 52 := by
  unfold formE at h
  split at h
  · rename_i hb; simpa [formB] using hb
  · cases h

theorem formE_yes {e f : Int} (h : 2 ≤ e ∧ e ≤ 11 ∧ 1 ≤ f ∧ f ≤ 52) : formE e f = 0 := by
  unfold formE formB; rw [if_pos (by simpa using h)]
theorem formE_no {e f : Int} (h : ¬(2 ≤ e ∧ e ≤ 11 ∧ 1 ≤ f ∧ f ≤ 52)) : formE e f = 5 := by
  unfold formE formB; rw [if_neg (by simpa using h)]

theorem bias_fin : ∀ e : Fin 12, wrap64 (wrap64 (2 ^ (e.val - 1)) - 1) = ((2 ^ (e.val - 1) - 1 : Nat) : Int) := by decide +kernel
theorem bias_wrap {e : Nat} (h : e ≤ 11) : wrap64 (wrap64 (2 ^ (e - 1)) - 1) = (biasN e : Int) := by unfold biasN; exact bias_fin ⟨e, by omega⟩

/-- A field put in. (No simp rule looks into it.) -/
def putN (b fld fr : Nat) : Nat := b + fld * pw fr

end Go.Proofs.YthemcdnlcgmimaaGreatDoor

namespace Go.Proofs.YthemcdnlcgmimaaGreatDoor
open Go.RowKit Go.Lb

/-- Fields put together. -/
def joinN (e f : Nat) (neg : Bool) (exp frac : Nat) : Nat := if neg = true then putN (putN frac exp f) 1 (e + f) else putN frac exp f

end Go.Proofs.YthemcdnlcgmimaaGreatDoor

namespace Go.Proofs.YthemcdnlcgmimaaGreatDoor
open Go.RowKit Go.Lb

/-- A number has more than k bits just if it is not below 2^k. -/
theorem bitLen_gt {b k : Nat} (hb : b < 18446744073709551616) (hk : k ≤ 64) : k < Lib.bitLen b ↔ 2 ^ k ≤ b := by
  constructor
  · intro h
    apply Nat.le_of_not_lt
    intro hlt
    have := Lib.bitLen_le b k hk hlt
    omega
  · intro h
    apply Nat.lt_of_not_le
    intro hle
    have h0 : b ≠ 0 := by have := Nat.two_pow_pos k; omega
    have h1 := Lib.bitLenAux_bounds 64 b hb h0
    have h2 : b < 2 ^ Lib.bitLen b := h1.2.2
    have h3 : 2 ^ Lib.bitLen b ≤ 2 ^ k := Nat.pow_le_pow_right (by decide) hle
    omega
end Go.Proofs.YthemcdnlcgmimaaGreatDoor

namespace Go.Proofs.YthemcdnlcgmimaaGreatDoor
open Go.RowKit Go.Lb

/-- The error of bits in a form. -/
def fitsE (e f : Int) (b : Nat) : Int := if formE e f ≠ 0 then formE e f else if b < pw (1 + e.toNat + f.toNat) then 0 else 6

theorem fitsE_form {e f : Int} {b : Nat} (h : formE e f ≠ 0) : fitsE e f b = formE e f := by unfold fitsE; rw [if_pos h]
theorem fitsE_bits {e f b : Nat} (h : formE e f = 0) (hb : ¬ b < pw (1 + e + f)) : fitsE e f b = 6 := by
  unfold fitsE; rw [if_neg (by simp [h])]; simp only [Int.toNat_natCast]; rw [if_neg hb]
theorem fitsE_ok {e f b : Nat} (h : formE e f = 0) (hb : b < pw (1 + e + f)) : fitsE e f b = 0 := by
  unfold fitsE; rw [if_neg (by simp [h])]; simp only [Int.toNat_natCast]; rw [if_pos hb]

theorem int_div_pow (b k : Nat) : (b : Int) / 2 ^ k = ((b / 2 ^ k : Nat) : Int) := by
  rw [Int.natCast_ediv, Int.natCast_pow]
  rfl

end Go.Proofs.YthemcdnlcgmimaaGreatDoor
