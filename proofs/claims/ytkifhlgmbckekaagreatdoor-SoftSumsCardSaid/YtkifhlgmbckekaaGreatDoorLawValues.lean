/-
  The walk of the law ExactValues: it answers true, whatever it is asked; nothing that was there has turned.
-/
import Derived.Test.YtkifhlgmbckekaaGreatDoorBooks
import Derived.Test.YtkifhlgmbckekaaGreatDoorVals
namespace Go.Proofs.YtkifhlgmbckekaaGreatDoor
open Go.RowKit Go.Lb

theorem refValue_any (e f : Int) (b : Nat) (w : World) (hb : b < 18446744073709551616) :
    Calls Tryz.prog 164 #[.agg #[.int .i64 e, .int .i64 f], .int .u64 b] w (Valued e f b w) := by
  by_cases hF : fitsE e f b = 0
  · have h : formE e f = 0 := by
      apply Classical.byContradiction
      intro hn
      rw [fitsE_form hn] at hF
      exact hn hF
    obtain ⟨h1, h2, h3, h4⟩ := formE_ok h
    obtain ⟨e, rfl⟩ := Int.eq_ofNat_of_zero_le (by omega : 0 ≤ e)
    obtain ⟨f, rfl⟩ := Int.eq_ofNat_of_zero_le (by omega : 0 ≤ f)
    have hp : b < pw (1 + e + f) := by
      apply Classical.byContradiction
      intro hn
      rw [fitsE_bits h hn] at hF
      cases hF
    by_cases hxm : exN e f b = maskN e
    · exact refValue_endless e f b w h hb hp hxm
    · by_cases hx0 : exN e f b = 0
      · exact refValue_sub e f b w h hb hp hx0 hxm
      · exact refValue_normal e f b w h hb hp hx0 hxm
  · exact refValue_no e f b w hF hb

theorem valN_small (e f : Int) (b : Nat) : (limbs (valN e f b)).length ≤ 2 := by
  refine limbs_length_le ?_
  show valN e f b < 18446744073709551616
  unfold valN
  by_cases ho : valOk e f b = true
  · rw [if_pos ho]
    have hF : fitsE e f b = 0 := (of_decide_eq_true ho).1
    have h : formE e f = 0 := by
      apply Classical.byContradiction
      intro hn
      rw [fitsE_form hn] at hF
      exact hn hF
    obtain ⟨h1, h2, h3, h4⟩ := formE_ok h
    have hv := vN_lt (e := e.toNat) (f := f.toNat) (b := b) (by omega)
    unfold mkN
    split
    · rw [val_limbs']
      have := Nat.div_le_self (vN e.toNat f.toNat b) (2 ^ tz (vN e.toNat f.toNat b))
      omega
    · omega
  · rw [if_neg ho]
    decide

end Go.Proofs.YtkifhlgmbckekaaGreatDoor
