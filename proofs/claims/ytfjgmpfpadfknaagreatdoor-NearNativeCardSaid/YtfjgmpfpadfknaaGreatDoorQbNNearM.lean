/-
  Plain: the neighbours of a float by its place. No program in sight.
-/
import Derived.Test.YtfjgmpfpadfknaaGreatDoorQbNMN28
import Derived.Test.YtfjgmpfpadfknaaGreatDoorQbNTop03
namespace Go.Proofs.YtfjgmpfpadfknaaGreatDoor
open Go.RowKit Go.Lb
theorem top63' {e f : Nat} (h : formE (e : Int) (f : Int) = 0) : e + f ≤ 63 ∧ pw (e + f) ≤ 9223372036854775808 := by
 obtain ⟨q1, q2, q3, q4⟩ := formE_ok h
 have h1 : e + f ≤ 63 := by omega
 exact ⟨h1, pw_sixty h1⟩
theorem mg_parts (e f b : Nat) : mgN e f b = exN e f b * pw f + frN f b := by
 have hf := frN_eq f b
 have hx : exN e f b = b / pw f % pw e := rfl
 unfold mgN
 rw [show e + f = f + e by omega, pw_add, Nat.mod_mul, hf, hx, Nat.mul_comm]
 omega
def ifN (e f : Nat) : Nat := maskN e * pw f
theorem if_lt {e f : Nat} (h : formE (e : Int) (f : Int) = 0) : 0 < ifN e f ∧ ifN e f < pw (e + f) := by
 obtain ⟨q1, q2, q3, q4⟩ := formE_ok h
 have hp := pw_pos f
 have hm := maskN_eq e
 have h2 : pw 2 ≤ pw e := pw_le (by omega)
 rw [show pw 2 = 4 by unfold pw; rfl] at h2
 unfold ifN
 rw [pw_add]
 refine ⟨Nat.mul_pos (by omega) hp, Nat.mul_lt_mul_of_pos_right (by omega) hp⟩
theorem ex_mask (e f b : Nat) : exN e f b ≤ maskN e := by
 have h1 := exN_lt e f b
 have hm := maskN_eq e
 omega
theorem inf_iff {e f b : Nat} : infB e f b = decide (mgN e f b = ifN e f) := by
 have hp := pw_pos f
 have hl : frN f b < pw f := by rw [frN_eq]; exact Nat.mod_lt _ hp
 have hx := ex_mask e f b
 unfold infB ifN
 rw [mg_parts]
 refine decide_eq_decide.2 ⟨fun ⟨h1, h2⟩ => by rw [h1, h2]; omega, fun h => ?_⟩
 have h1 : ¬ exN e f b < maskN e := fun hlt => by
  have : (exN e f b + 1) * pw f ≤ maskN e * pw f := Nat.mul_le_mul_right _ hlt
  rw [Nat.add_mul] at this
  omega
 have h2 : exN e f b = maskN e := by omega
 rw [h2] at h
 exact ⟨h2, by omega⟩
theorem nan_iff {e f b : Nat} : nanB e f b = decide (ifN e f < mgN e f b) := by
 have hp := pw_pos f
 have hl : frN f b < pw f := by rw [frN_eq]; exact Nat.mod_lt _ hp
 have hx := ex_mask e f b
 unfold nanB ifN
 rw [mg_parts]
 refine decide_eq_decide.2 ⟨fun ⟨h1, h2⟩ => by rw [h1]; omega, fun h => ?_⟩
 have h1 : ¬ exN e f b < maskN e := fun hlt => by
  have : (exN e f b + 1) * pw f ≤ maskN e * pw f := Nat.mul_le_mul_right _ hlt
  rw [Nat.add_mul] at this
  omega
 have h2 : exN e f b = maskN e := by omega
 rw [h2] at h
 exact ⟨h2, by omega⟩
theorem fin_iff {e f b : Nat} : exN e f b ≠ maskN e ↔ mgN e f b < ifN e f := by
 have h1 := @inf_iff e f b
 have h2 := @nan_iff e f b
 unfold infB at h1
 unfold nanB at h2
 have h1' := decide_eq_decide.1 h1
 have h2' := decide_eq_decide.1 h2
 constructor
 · intro hx
   by_cases h3 : mgN e f b < ifN e f
   · exact h3
   · exfalso
     rcases (by omega : mgN e f b = ifN e f ∨ ifN e f < mgN e f b) with h | h
     · exact hx (h1'.2 h).1
     · exact hx (h2'.2 h).1
 · intro hlt hx
   by_cases h0 : frN f b = 0
   · have := h1'.1 ⟨hx, h0⟩; omega
   · have := h2'.1 ⟨hx, h0⟩; omega
theorem jn_inf (e f : Nat) (s : Bool) : joinN e f s (maskN e) 0 = ifN e f + if s = true then pw (e + f) else 0 := by
 unfold joinN putN ifN
 cases s <;> simp
theorem sg_mk {e f M : Nat} (hM : M < pw (e + f)) (s : Bool) : (M + if s = true then pw (e + f) else 0) < pw (1 + e + f) ∧ sgB e f (M + if s = true then pw (e + f) else 0) = s ∧ mgN e f (M + if s = true then pw (e + f) else 0) = M := by
 have h1 : (M + if s = true then pw (e + f) else 0) < pw (1 + e + f) := by
  rw [pw_one_more]
  cases s
  · simp; omega
  · simp; omega
 refine ⟨h1, ?_, ?_⟩
 · rw [sg_iff h1]
   cases s
   · simp; omega
   · simp
 · unfold mgN
   cases s
   · simp; exact Nat.mod_eq_of_lt hM
   · simp; exact Nat.mod_eq_of_lt hM
theorem pl_mk {e f M : Nat} (hM : M < pw (e + f)) (s : Bool) : plN e f (M + if s = true then pw (e + f) else 0) = if s = true then (18446744073709551616 - M) % 18446744073709551616 else M := by
 obtain ⟨h1, h2, h3⟩ := sg_mk hM s
 unfold plN
 rw [h2, h3]
 cases s <;> simp
theorem up_end {e f b : Nat} (hf : formE (e : Int) (f : Int) = 0) (hb : b < pw (1 + e + f)) (hn : nanB e f b = false) : decide (plN e f b = plN e f (joinN e f false (maskN e) 0)) = (!sgB e f b && infB e f b) := by
 obtain ⟨i1, i2⟩ := if_lt hf
 obtain ⟨_, hp⟩ := top63' hf
 rw [jn_inf, pl_mk i2, inf_iff]
 rw [nan_iff] at hn
 have hn' := of_decide_eq_false hn
 have heq := mg_eq hb
 cases hs : sgB e f b
 · rw [pl_pos hs]
   rw [hs, if_neg (by decide)] at heq
   simp
   omega
 · rw [pl_neg hs]
   simp
   omega
theorem dn_end {e f b : Nat} (hf : formE (e : Int) (f : Int) = 0) (hb : b < pw (1 + e + f)) (hn : nanB e f b = false) : decide (plN e f b = plN e f (joinN e f true (maskN e) 0)) = (sgB e f b && infB e f b) := by
 obtain ⟨i1, i2⟩ := if_lt hf
 obtain ⟨_, hp⟩ := top63' hf
 rw [jn_inf, pl_mk i2, inf_iff]
 rw [nan_iff] at hn
 have hn' := of_decide_eq_false hn
 have heq := mg_eq hb
 cases hs : sgB e f b
 · rw [pl_pos hs]
   rw [hs, if_neg (by decide)] at heq
   simp
   omega
 · rw [pl_neg hs]
   simp
   omega
theorem up_at {e f b : Nat} (hf : formE (e : Int) (f : Int) = 0) (hb : b < pw (1 + e + f)) (hn : nanB e f b = false) (he : (!sgB e f b && infB e f b) = false) :
 atN e f ((plN e f b + 1) % 18446744073709551616) true = hiN e f b ∧ (9223372036854775808 ≤ (plN e f b + 1) % 18446744073709551616 → 18446744073709551616 - (plN e f b + 1) % 18446744073709551616 < pw (e + f)) := by
 obtain ⟨i1, i2⟩ := if_lt hf
 obtain ⟨_, hp⟩ := top63' hf
 rw [nan_iff] at hn
 have hn' := of_decide_eq_false hn
 have heq := mg_eq hb
 rw [inf_iff] at he
 obtain ⟨p, hpp⟩ : ∃ p, p = (plN e f b + 1) % 18446744073709551616 := ⟨_, rfl⟩
 rw [← hpp]
 unfold atN hiN
 clear hn hf hb
 cases hs : sgB e f b
 · rw [pl_pos hs] at hpp
   rw [hs, if_neg (by decide)] at heq
   rw [hs] at he
   have he' : ¬ mgN e f b = ifN e f := by simpa using he
   clear he hs
   generalize mgN e f b = M at *
   generalize pw (e + f) = H at *
   generalize ifN e f = I at *
   have hv : p = M + 1 := by omega
   rw [if_neg (by omega), if_neg (by omega), if_neg (by simp)]
   omega
 · rw [pl_neg hs] at hpp
   clear he heq hs
   generalize mgN e f b = M at *
   generalize pw (e + f) = H at *
   generalize ifN e f = I at *
   rcases (by omega : M = 0 ∨ M = 1 ∨ 2 ≤ M) with h0 | h0 | h0
   · have hv : p = 1 := by omega
     rw [if_neg (by omega), if_neg (by omega), if_neg (by omega)]
     omega
   · have hv : p = 0 := by omega
     rw [if_neg (by omega), if_pos ⟨hv, rfl⟩, if_pos ⟨rfl, by omega⟩]
     omega
   · have hv : p = 18446744073709551616 - M + 1 := by omega
     rw [if_pos (by omega), if_pos ⟨rfl, by omega⟩]
     omega
theorem fits_of {e f b : Nat} (hf : formE (e : Int) (f : Int) = 0) (hb : b < pw (1 + e + f)) : fitsE (e : Int) (f : Int) b = 0 := by
 unfold fitsE
 exact (if_neg (by simp [hf])).trans (if_pos hb)
theorem fl_mk {e f b : Nat} (hb : b < pw (1 + e + f)) : flN e f b = mgN e f b + if (!sgB e f b) = true then pw (e + f) else 0 := by
 have heq := mg_eq hb
 have hs := sg_iff hb
 rw [pw_one_more] at hb
 unfold flN
 cases h : sgB e f b
 · rw [h] at heq hs
   have h1 : ¬ pw (e + f) ≤ b := of_decide_eq_false hs.symm
   rw [if_neg h1]
   simp at heq ⊢
   omega
 · rw [h] at heq hs
   have h1 : pw (e + f) ≤ b := of_decide_eq_true hs.symm
   rw [if_pos h1]
   simp at heq ⊢
   omega
theorem fl_bits {e f b : Nat} (hb : b < pw (1 + e + f)) : flN e f b < pw (1 + e + f) ∧ sgB e f (flN e f b) = !sgB e f b ∧ mgN e f (flN e f b) = mgN e f b ∧ nanB e f (flN e f b) = nanB e f b ∧ infB e f (flN e f b) = infB e f b := by
 obtain ⟨h1, h2, h3⟩ := sg_mk (mg_lt e f b) (!sgB e f b)
 rw [← fl_mk hb] at h1 h2 h3
 refine ⟨h1, h2, h3, ?_, ?_⟩
 · rw [nan_iff, nan_iff, h3]
 · rw [inf_iff, inf_iff, h3]
theorem dn_at {e f b : Nat} (hf : formE (e : Int) (f : Int) = 0) (hb : b < pw (1 + e + f)) (hn : nanB e f b = false) (he : (sgB e f b && infB e f b) = false) :
 atN e f ((plN e f b + 18446744073709551615) % 18446744073709551616) false = flN e f (hiN e f (flN e f b)) ∧ (9223372036854775808 ≤ (plN e f b + 18446744073709551615) % 18446744073709551616 → 18446744073709551616 - (plN e f b + 18446744073709551615) % 18446744073709551616 < pw (e + f)) := by
 obtain ⟨i1, i2⟩ := if_lt hf
 obtain ⟨_, hp⟩ := top63' hf
 obtain ⟨g1, g2, g3, _, _⟩ := fl_bits hb
 rw [nan_iff] at hn
 have hn' := of_decide_eq_false hn
 have heq := mg_eq hb
 rw [inf_iff] at he
 have hH : hiN e f (flN e f b) = if (!sgB e f b) = true ∧ mgN e f b ≠ 0 then pw (e + f) + mgN e f b - 1 else mgN e f b + 1 := by unfold hiN; rw [g2, g3]
 rw [hH]
 obtain ⟨p, hpp⟩ : ∃ p, p = (plN e f b + 18446744073709551615) % 18446744073709551616 := ⟨_, rfl⟩
 rw [← hpp]
 unfold atN flN
 clear hn hf hb g1 g2 g3 hH
 cases hs : sgB e f b
 · rw [pl_pos hs] at hpp
   rw [hs, if_neg (by decide)] at heq
   clear he hs
   generalize mgN e f b = M at *
   generalize pw (e + f) = H at *
   generalize ifN e f = I at *
   by_cases h0 : M = 0
   · have hv : p = 18446744073709551615 := by omega
     have hc : ¬ ((!false) = true ∧ M ≠ 0) := fun hh => hh.2 h0
     rw [if_neg hc, if_pos (by omega), if_neg (by omega)]
     omega
   · have hv : p = M - 1 := by omega
     have hc : (!false) = true ∧ M ≠ 0 := ⟨rfl, h0⟩
     rw [if_pos hc, if_neg (by omega), if_neg (by simp), if_pos (by omega)]
     omega
 · rw [pl_neg hs] at hpp
   rw [hs] at he
   have he' : ¬ mgN e f b = ifN e f := by simpa using he
   clear he heq hs
   generalize mgN e f b = M at *
   generalize pw (e + f) = H at *
   generalize ifN e f = I at *
   have hv : p = 18446744073709551615 - M := by omega
   have hc : ¬ ((!true) = true ∧ M ≠ 0) := fun hh => by cases hh.1
   rw [if_neg hc, if_pos (by omega), if_neg (by omega)]
   omega
end Go.Proofs.YtfjgmpfpadfknaaGreatDoor
