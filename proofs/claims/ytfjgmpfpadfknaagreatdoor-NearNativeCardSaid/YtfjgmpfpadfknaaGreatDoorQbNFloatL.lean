/-
  Plain: what a float is worth, and the float of that: one and the same, but for noughts with a sign.
-/
import Derived.Test.YtfjgmpfpadfknaaGreatDoorQbNWorth
import Derived.Test.YtfjgmpfpadfknaaGreatDoorQbNVals
namespace Go.Proofs.YtfjgmpfpadfknaaGreatDoor
open Go.RowKit Go.Lb
def valD (e f : Int) (b : Nat) : Ds := ⟨valS e f b, valN e f b, valX e f b, valE e f b⟩
theorem valD_mk {e f b : Nat} (h : fitsE (e : Int) (f : Int) b = 0) (hx : exN e f b ≠ maskN e) : valD (e : Int) (f : Int) b = mkA (sgB e f b) (vN e f b) (vX e f b) := by
 obtain ⟨h1, h2, h3, h4⟩ := val_yes h hx
 unfold valD mkA
 rw [h1, h2, h3, h4]
theorem mask_bias {e : Nat} (h : 2 ≤ e) : maskN e = 2 * biasN e + 1 := by
 unfold maskN biasN
 have h1 : 2 ^ e = 2 * 2 ^ (e - 1) := by
  rw [show 2 * 2 ^ (e - 1) = 2 ^ (e - 1) * 2 by omega, ← Nat.pow_succ]
  congr 1
  omega
 have := Nat.two_pow_pos (e - 1)
 omega
theorem bias_small {e : Nat} (h : e ≤ 11) : biasN e ≤ 1023 := by
 unfold biasN
 have : 2 ^ (e - 1) ≤ 2 ^ 10 := Nat.pow_le_pow_right (by decide) (by omega)
 omega
def baseI (e f : Nat) : Int := 1 - (biasN e : Int) - f
theorem frN_eq (f b : Nat) : frN f b = b % pw f := by
 unfold frN takeN
 rw [pw_zero, Nat.div_one]
theorem frN_lt' (f b : Nat) : frN f b < pw f := by
 rw [frN_eq]
 exact Nat.mod_lt _ (pw_pos f)
theorem vN_top (e f b : Nat) : vN e f b < pw (f + 1) := by
 have := frN_lt' f b
 unfold vN
 rw [pw_succ]
 split <;> omega
theorem vX_low (e f b : Nat) : baseI e f ≤ vX e f b := by
 unfold vX baseI
 split <;> omega
theorem vX_high {e f b : Nat} (he : e ≤ 11) : vX e f b ≤ baseI e f + 2048 := by
 have h1 := exN_lt e f b
 have h2 := pw_le he
 have h3 : pw 11 = 2048 := by unfold pw; rfl
 unfold vX baseI
 split <;> omega
def gN (e f b : Nat) : Nat := upW (vN e f b) (vX e f b) (baseI e f)
theorem gN_lt {e f b d : Nat} (he : e ≤ 11) (hd : d = 2048) : gN e f b < 2 ^ (f + 1 + d) := by
 have h1 := vN_top e f b
 have h2 := vX_high (f := f) (b := b) he
 unfold gN upW
 unfold pw at h1
 rw [Nat.pow_add]
 exact Nat.mul_lt_mul_of_lt_of_le h1 (Nat.pow_le_pow_right (by decide) (by omega)) (Nat.two_pow_pos _)
theorem valD_ok {e f b : Nat} (h : fitsE (e : Int) (f : Int) b = 0) (hx : exN e f b ≠ maskN e) (he : e ≤ 11) (hf : f ≤ 52) :
 (valD (e : Int) (f : Int) b).e = 0 ∧ Wo (valD (e : Int) (f : Int) b) (baseI e f) (sgI (sgB e f b) (gN e f b)) := by
 rw [valD_mk h hx]
 have hb := bias_small he
 have h1 : -1073741824 ≤ baseI e f := by unfold baseI; omega
 have h2 : baseI e f ≤ 1 := by unfold baseI; omega
 obtain ⟨d, hd⟩ : ∃ d, d = 2048 := ⟨_, rfl⟩
 have hg := gN_lt (f := f) (b := b) he hd
 obtain ⟨K, hK⟩ : ∃ K, K = f + 1 + d := ⟨_, rfl⟩
 rw [← hK] at hg
 obtain ⟨g1, g2⟩ := mkA_ok (s := sgB e f b) (vX_low e f b) hg (by omega) h1 (by omega)
 exact ⟨g2, mkA_worth g1 (fun _ => vX_low e f b) g2⟩
end Go.Proofs.YtfjgmpfpadfknaaGreatDoor
