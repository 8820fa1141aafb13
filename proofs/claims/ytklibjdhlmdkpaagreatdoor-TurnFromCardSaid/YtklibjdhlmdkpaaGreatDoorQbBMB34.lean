/-
  The walks of soft's top, Neg, Abs and of the reference's sign, Neg, Abs. Where a float stands (rank), by numbers and by bits; the walk of soft.rank. The walks of forms.Class of bits that don't fit, forms.NaN, forms.Payload, kit.nan, and of the reference's Inf, NaN.
-/
import Derived.Test.YtklibjdhlmdkpaaGreatDoorQbBSplits
import Derived.Test.YtklibjdhlmdkpaaGreatDoorQbBMB1
import Derived.Deep.RegionHeld3
import Derived.Test.YtklibjdhlmdkpaaGreatDoorQbBMB33
import Derived.Test.YtklibjdhlmdkpaaGreatDoorQbBMB32
namespace Go.Proofs.YtklibjdhlmdkpaaGreatDoor

open Go.RowKit Go.Lb

theorem fitsE_parts {e f : Int} {b : Nat} (h : fitsE e f b = 0) : formE e f = 0 ∧ b < pw (1 + e.toNat + f.toNat) := by
  unfold fitsE at h
  by_cases h0 : formE e f = 0
  · rw [if_neg (by simp [h0])] at h
    split at h
    · exact ⟨h0, by assumption⟩
    · cases h
  · rw [if_pos h0] at h
    exact absurd h h0

theorem pw_top {k : Nat} (h : k ≤ 63) : IntKind.u64.wrap (2 ^ k) = ((pw k : Nat) : Int) := by
  have hp : pw k ≤ 9223372036854775808 := by have := pw_le h; rw [show pw 63 = 9223372036854775808 by unfold pw; rfl] at this; exact this
  rw [show (2 : Int) ^ k = ((pw k : Nat) : Int) by unfold pw; rw [Int.natCast_pow]; rfl]
  exact IntWalk.u64_in _ (by omega)

end Go.Proofs.YtklibjdhlmdkpaaGreatDoor

namespace Go.Proofs.YtklibjdhlmdkpaaGreatDoor

open Go.RowKit Go.Lb

end Go.Proofs.YtklibjdhlmdkpaaGreatDoor

namespace Go.Proofs.YtklibjdhlmdkpaaGreatDoor

open Go.RowKit Go.Lb

/-- The NaN. -/
def nanN (e f : Nat) : Nat := joinN e f false (maskN e) (pw (f - 1))

theorem nanN_eq (e f : Nat) : nanN e f = maskN e * pw f + pw (f - 1) := by
  unfold nanN joinN
  rw [if_neg (by decide)]
  unfold putN
  omega

theorem or_zero (a : Nat) (ha : a < 18446744073709551616) : bits .or .u64 (a : Int) 0 = (a : Int) := by
  have h1 : (BitVec.ofInt 64 (a : Int)).toNat = a := by
    rw [BitVec.ofInt_natCast, BitVec.toNat_ofNat]; exact Nat.mod_eq_of_lt (by omega)
  show IntKind.u64.wrap ((BitVec.ofInt 64 (a : Int) ||| BitVec.ofInt 64 0).toNat : Int) = _
  rw [BitVec.toNat_or, h1, show (BitVec.ofInt 64 0).toNat = 0 from rfl, Nat.or_zero, IntKind.wrap_u64]
  omega

set_option maxRecDepth 100000 in
theorem formsNaN_zero (e f : Nat) (w : World) (h : formE (e : Int) (f : Int) = 0) :
    Calls Tryz.prog 85 #[.agg #[.int .i64 e, .int .i64 f], .bool false, .int .u64 0] w fun en w' => en = .returned (.tuple #[.int .u64 (nanN e f), .int .i64 0]) ∧ Below w.heap.size w w' := by
  obtain ⟨q1, q2, q3, q4⟩ := formE_ok h
  have hw := pw_top (k := f - 1) (by omega)
  have ht : ((f : Int) - 1).toNat = f - 1 := by omega
  have hn : ¬ ((f : Int) - 1 < 0) := by omega
  have hp := pw_lt (show f - 1 < 64 by omega)
  rw [show pw 64 = 18446744073709551616 by unfold pw; rfl] at hp
  have ho := or_zero (pw (f - 1)) hp
  have hlt : pw (f - 1) < pw f := pw_lt (by omega)
  have hp0 := pw_pos (f - 1)
  have hge : ¬ ((pw (f - 1) : Nat) : Int) ≤ 0 := by omega
  have hm : maskN e < pw e := by rw [maskN_eq]; have := pw_pos e; omega
  have hj := fun W => join_any e f false (maskN e) (pw (f - 1)) W (by omega) (by omega) (by omega) hm hlt
  change ∀ W, Calls Tryz.prog 181 #[.agg #[.int .i64 e, .int .i64 f], .bool false, .int .u64 (maskN e), .int .u64 (pw (f - 1))] W fun en w' => en = .returned (.int .u64 (nanN e f : Int)) ∧ Below W.heap.size W w' at hj
  generalize nanN e f = NN at hj ⊢
  generalize hP : pw (f - 1) = P at hw hp ho hp0 hge hj
  go_enter Tryz.func85, Tryz.ntmps85
  go_wp2_with (first
    | (go_at_call 77; refine (formCheck_any e f _).mono ?_; rintro en w1 ⟨rfl, hb1⟩; rw [h]; have A := (box2_new w _ _ _).stay hb1; have ⟨a0, a1⟩ := A; have hW := next (more (Below.refl _ _) _) hb1)
    )
  go_region_held3 (fun w' => w'.cell? ⟨w.heap.size, 0, none⟩ = some (.int .i64 e) ∧ w'.cell? ⟨w.heap.size, 1, none⟩ = some (.int .i64 f) ∧ Below w.heap.size w w')
    ((go_split_ands; refine ⟨?_, ?_, ?_⟩ <;> (first | assumption | exact Below.drew (by assumption) | exact cellStay (by assumption) hbB | exact next (by assumption) hbB | (go_keep; done))))
    (first | (go_at_call 170; (with_reducible refine (mask_any e _ (by omega)).mono ?_); rintro en wB ⟨rfl, rfl⟩) | (go_at_call 181; (with_reducible refine (hj _).mono ?_); rintro en wB ⟨rfl, hbB⟩))
  go_split_ands
  go_wp2
  go_ret2
  exact ⟨rfl, by assumption⟩

end Go.Proofs.YtklibjdhlmdkpaaGreatDoor

/-
  Plain: a float's worth as a fraction, in what Ratio and Dyadic answer. No program in sight.
-/
namespace Go.Proofs.YtklibjdhlmdkpaaGreatDoor

open Go.RowKit Go.Lb

theorem ra_up (n : Nat) (X : Int) : raN (limbs n) X = upN n X ∧ raD X = upD X := by
  unfold raN raD upN upD
  rw [val_limbs', show (max 0 X).toNat = X.toNat by omega, show (max 0 (-X)).toNat = (-X).toNat by omega]
  exact ⟨rfl, rfl⟩

theorem ratA_up {n : Nat} {X : Int} {s : Bool} (hd : dchk s (limbs n) X = 0) (l1 : ln (upN n X) ≤ 34) (l2 : ln (upD X) ≤ 34) (w : World) : RatA s (limbs n) X w = Rtn s (upN n X) (upD X) 0 w := by
  obtain ⟨e1, e2⟩ := ra_up n X
  unfold ln at l1 l2
  have hB : raB s (limbs n) X = true := by
    unfold raB
    rw [e1, e2]
    exact decide_eq_true ⟨hd, (bigE_ok (by omega)).1, (bigE_ok (by omega)).1⟩
  unfold RatA raE
  rw [hB, if_pos rfl, if_pos rfl, if_pos rfl, e1, e2, if_neg (by simp [hd])]
  rfl

theorem dy_up {E F n m : Nat} {X : Int} {s : Bool} (hf : formE (E : Int) (F : Int) = 0) (hd : dchk s (limbs n) X = 0) (hm : m < 5) (h1 : -1074 ≤ X) (h2 : X ≤ 1023) (neg : Bool) :
    dyErr (E : Int) (F : Int) s (limbs n) X m = 0 ∧ dyBits (E : Int) (F : Int) s (limbs n) X neg m = sgBits E F (upN n X) (upD X) s neg m ∧ dyFlags (E : Int) (F : Int) s (limbs n) X m = sgFlags E F (upN n X) (upD X) s m := by
  have hE : dyErr (E : Int) (F : Int) s (limbs n) X m = 0 := by
    unfold dyErr twoB
    rw [if_neg (by simp [hf]), if_neg (by simp [hd]), if_neg (by omega)]
  unfold dyBits dyFlags
  rw [if_pos hE, if_pos hE, Int.toNat_natCast, Int.toNat_natCast, val_limbs']
  unfold dyN dyD
  rw [near_in h1 h2, Nat.one_mul]
  exact ⟨hE, rfl, rfl⟩

theorem ratB_low {s : Bool} {N D : Nat} (l1 : ln N ≤ 16384) (l2 : ln D ≤ 16384) (hD : D ≠ 0) (hG : Nat.gcd N D = 1) (hs : s = true → N ≠ 0) : ratB s (limbs N) (limbs D) = true := by
  have hz : ∀ N, ln N ≤ 16384 → chk (limbs N) = 0 := fun N h => by
    unfold chk
    rw [if_neg (by unfold ln at h; omega), if_neg]
    rintro ⟨h1, h2⟩
    exact fine_top (fine_limbs N) (by omega) h2
  refine decide_eq_true ⟨hz _ l1, hz _ l2, fun h => ?_, ?_, fun h => ?_⟩
  · have := val_limbs' D
    rw [List.eq_nil_of_length_eq_zero h] at this
    exact hD this.symm
  · rw [val_limbs', val_limbs']
    exact hG
  · rw [val_limbs']
    exact hs h

end Go.Proofs.YtklibjdhlmdkpaaGreatDoor

