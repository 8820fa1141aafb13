/-
  Plain laws: what both texts of Bits compute: the float that is worth a number, if there is one.
-/
import Derived.Test.YtaanaacgkioagaaNatD
import Derived.Test.YtaanaacgkioagaaFormB
import Derived.Lib.ItoaNum
namespace Go.Proofs.Ytaanaacgkioagaa
open Go.RowKit Go.Lb

theorem bitLen_bounds {x : Nat} (hx : x < 4294967296) (h0 : x ≠ 0) : 1 ≤ Lib.bitLen x ∧ pw (Lib.bitLen x - 1) ≤ x ∧ x < pw (Lib.bitLen x) := by
  unfold pw
  exact Lib.bitLenAux_bounds 64 x (by omega) h0

/-- A number of few bits: its two lowest limbs are all of it, and its highest bit is the one that its size tells. -/
theorem low_size {xs : List Nat} (hok : Ok xs) (hc : chk xs = 0) (hn : xs.length ≠ 0) (hs : szN xs ≤ 64) : 1 ≤ szN xs ∧ pw (szN xs - 1) ≤ lowN xs ∧ lowN xs < pw (szN xs) := by
  have htop : nth xs (xs.length - 1) ≠ 0 := by
    intro h
    unfold chk at hc
    split at hc
    · cases hc
    · rw [if_pos ⟨by omega, h⟩] at hc; cases hc
  obtain ⟨b1, b2, b3⟩ := bitLen_bounds (nth_lt hok _) htop
  have hsz := szN_pos hn
  have hl : xs.length ≤ 2 := by omega
  have hB : lowB xs = true := by unfold lowB; simp [hc, hl]
  have hm : lowN xs = nth xs 0 + 4294967296 * nth xs 1 := by unfold lowN; rw [if_pos hB]
  rcases (by omega : xs.length = 1 ∨ xs.length = 2) with h1 | h2
  · rw [h1] at hsz b1 b2 b3
    have h0 : nth xs 1 = 0 := nth_out (by omega)
    simp only [Nat.sub_self, Nat.mul_zero, Nat.zero_add] at hsz b1 b2 b3
    rw [hm, h0, hsz]
    exact ⟨b1, by omega, by omega⟩
  · rw [h2] at hsz b1 b2 b3
    simp only [show 2 - 1 = 1 from rfl, Nat.mul_one] at hsz b1 b2 b3
    have l0 := nth_lt hok 0
    rw [hm, hsz, show 32 + Lib.bitLen (nth xs 1) - 1 = 32 + (Lib.bitLen (nth xs 1) - 1) by omega, pw_add, pw_add, pw32]
    refine ⟨by omega, ?_, ?_⟩
    · have := Nat.mul_le_mul_left 4294967296 b2; omega
    · have : 4294967296 * (nth xs 1 + 1) ≤ 4294967296 * pw (Lib.bitLen (nth xs 1)) := Nat.mul_le_mul_left _ b3
      omega

/-- The bits of a number that is not nought, of s bits, the two lowest limbs m, the exponent x; whether there are any. -/
def bitsP (e f : Nat) (neg : Bool) (s m : Nat) (x : Int) : Nat × Bool :=
  if f + 1 < s then (0, false)
  else if 1 ≤ x + s - 1 + biasN e then
    (if 2 * (biasN e : Int) < x + s - 1 + biasN e then (0, false) else (joinN e f neg (x + s - 1 + biasN e).toNat (m * pw (f + 1 - s) - pw f), true))
  else if x < 1 - (biasN e : Int) - f then (0, false) else (joinN e f neg 0 (m * pw (x - (1 - (biasN e : Int) - f)).toNat), true)

/-- The whole answer. -/
def bitsV (e f : Int) (neg : Bool) (xs : List Nat) (x : Int) : Nat :=
  if formE e f ≠ 0 ∨ dchk neg xs x ≠ 0 ∨ xs.length = 0 then 0 else (bitsP e.toNat f.toNat neg (szN xs) (lowN xs) x).1
def bitsIs (e f : Int) (neg : Bool) (xs : List Nat) (x : Int) : Bool :=
  if formE e f ≠ 0 ∨ dchk neg xs x ≠ 0 then false else if xs.length = 0 then true else (bitsP e.toNat f.toNat neg (szN xs) (lowN xs) x).2
def bitsE (e f : Int) (neg : Bool) (xs : List Nat) (x : Int) : Int := if formE e f ≠ 0 then formE e f else dchk neg xs x

theorem shift_top {s m k f : Nat} (h1 : 1 ≤ s) (hlo : pw (s - 1) ≤ m) (hhi : m < pw s) (hk : k + s = f + 1) : pw f ≤ m * pw k ∧ m * pw k < pw (f + 1) := by
  have e1 : pw f = pw (s - 1) * pw k := by rw [← pw_add]; congr 1; omega
  have e2 : pw (f + 1) = pw s * pw k := by rw [← pw_add]; congr 1; omega
  rw [e1, e2]
  exact ⟨Nat.mul_le_mul_right _ hlo, Nat.mul_lt_mul_of_pos_right hhi (pw_pos k)⟩

theorem shift_low {s m k f : Nat} (hhi : m < pw s) (hk : k + s ≤ f) : m * pw k < pw f := by
  have : m * pw k < pw s * pw k := Nat.mul_lt_mul_of_pos_right hhi (pw_pos k)
  rw [← pw_add] at this
  exact Nat.lt_of_lt_of_le this (pw_le (by omega))

end Go.Proofs.Ytaanaacgkioagaa
