/-
  Plain lemmas on words of 64 bits: masks, fields put in and taken out. No program in sight.
-/
import Derived.Test.YtnokabglkmiidaaDoorMem
import Derived.Laws.BitsAllLaws
namespace Go.Lb
open Go.RowKit

/-- So many bits, all set; a power of two; a form's bias. (No simp rule looks into them.) -/
def maskN (k : Nat) : Nat := 2 ^ k - 1
def pw (k : Nat) : Nat := 2 ^ k
def biasN (e : Nat) : Nat := 2 ^ (e - 1) - 1

theorem pw_pos (k : Nat) : 0 < pw k := Nat.two_pow_pos k
theorem pw_le {j k : Nat} (h : j ≤ k) : pw j ≤ pw k := Nat.pow_le_pow_right (by decide) h
theorem pw_lt {j k : Nat} (h : j < k) : pw j < pw k := Nat.pow_lt_pow_right (by decide) h
theorem pw_succ (k : Nat) : pw (k + 1) = 2 * pw k := by unfold pw; rw [Nat.pow_succ]; omega
theorem pw_add (j k : Nat) : pw (j + k) = pw j * pw k := Nat.pow_add 2 j k
theorem maskN_eq (k : Nat) : maskN k = pw k - 1 := rfl
theorem biasN_eq (e : Nat) : biasN e = pw (e - 1) - 1 := rfl
theorem biasN_le {e : Nat} (h : e ≤ 11) : biasN e ≤ 1023 := by
  have := pw_le (j := e - 1) (k := 10) (by omega)
  have e10 : pw 10 = 1024 := rfl
  rw [biasN_eq]; omega
theorem biasN_pos {e : Nat} (h : 2 ≤ e) : 1 ≤ biasN e := by
  have := pw_le (j := 1) (k := e - 1) (by omega)
  have e10 : pw 1 = 2 := rfl
  rw [biasN_eq]; omega
theorem biasN_two {e : Nat} (h : 2 ≤ e) : 2 * biasN e + 2 = pw e := by
  rw [biasN_eq]
  have h1 := pw_succ (e - 1)
  rw [show e - 1 + 1 = e by omega] at h1
  have := pw_pos (e - 1)
  omega

theorem mask_fin : ∀ k : Fin 65, bits BinOp.andNot IntKind.u64 18446744073709551615 (IntKind.u64.wrap (18446744073709551615 * 2 ^ k.val)) = ((2 ^ k.val - 1 : Nat) : Int) := by decide +kernel
theorem mask_bits {k : Nat} (h : k ≤ 64) : bits BinOp.andNot IntKind.u64 18446744073709551615 (IntKind.u64.wrap (18446744073709551615 * 2 ^ k)) = (maskN k : Int) := mask_fin ⟨k, by omega⟩

theorem and_not_field {b M fr : Nat} (hb : b < 2 ^ fr) (hM : M < 18446744073709551616) (hm : M % 2 ^ fr = 0) (hfr : fr ≤ 64) : b &&& (18446744073709551615 - M) = b := by
  apply Nat.eq_of_testBit_eq
  intro i
  rw [Nat.testBit_and, show 18446744073709551615 - M = 2 ^ 64 - (M + 1) by omega, Nat.testBit_two_pow_sub_succ (by omega)]
  by_cases hi : i < fr
  · have : M.testBit i = false := by
      rw [← Nat.div_add_mod M (2 ^ fr), hm, Nat.add_zero, Nat.testBit_two_pow_mul]
      simp; omega
    simp [this]; omega
  · rw [Nat.testBit_lt_two_pow (Nat.lt_of_lt_of_le hb (Nat.pow_le_pow_right (by decide) (by omega)))]; rfl

/-- A field put in above all bits that there are. -/
theorem put_bits {b fr sz fld : Nat} (hb : b < pw fr) (hs : fr + sz ≤ 64) (hf : fld < pw sz) :
    bits BinOp.andNot IntKind.u64 (b : Int) (IntKind.u64.wrap ((maskN sz : Int) * 2 ^ fr)) = (b : Int) ∧ bits BinOp.or IntKind.u64 (b : Int) (IntKind.u64.wrap ((fld : Int) * 2 ^ fr)) = ((b + fld * pw fr : Nat) : Int) ∧ b + fld * pw fr < pw (fr + sz) := by
  have h64 : pw 64 = 18446744073709551616 := rfl
  have hp : pw fr * pw sz ≤ 18446744073709551616 := by rw [← pw_add, ← h64]; exact pw_le hs
  have hfr : pw fr ≤ 18446744073709551616 := by rw [← h64]; exact pw_le (by omega)
  have hM : maskN sz * pw fr + pw fr ≤ 18446744073709551616 := by
    have : maskN sz * pw fr + pw fr = pw fr * pw sz := by
      rw [maskN_eq, Nat.sub_mul, Nat.one_mul, Nat.mul_comm]
      have := Nat.le_mul_of_pos_right (pw fr) (pw_pos sz)
      omega
    omega
  have hF : fld * pw fr + pw fr ≤ pw fr * pw sz := by
    have : (fld + 1) * pw fr ≤ pw sz * pw fr := Nat.mul_le_mul_right _ hf
    rw [Nat.mul_comm (pw fr)]
    rw [Nat.add_mul] at this
    omega
  have hpos := pw_pos fr
  have c1 : (maskN sz : Int) * 2 ^ fr = ((maskN sz * pw fr : Nat) : Int) := by unfold pw; simp
  have c2 : (fld : Int) * 2 ^ fr = ((fld * pw fr : Nat) : Int) := by unfold pw; simp
  rw [c1, c2, IntKind.wrap_u64, IntKind.wrap_u64, Int.emod_eq_of_lt (by omega) (by omega), Int.emod_eq_of_lt (by omega) (by omega)]
  refine ⟨?_, ?_, ?_⟩
  · rw [u64_andNot_nat _ _ (by omega) (by omega), and_not_field (fr := fr) hb (by omega) (by show _ % pw fr = 0; exact Nat.mul_mod_left _ _) (by omega)]
  · rw [u64_or_nat _ _ (by omega) (by omega), Nat.or_comm, nat_join fr _ _ (by show _ % pw fr = 0; exact Nat.mul_mod_left _ _) hb, Nat.add_comm]
  · rw [pw_add]; omega

theorem clear_top {q f : Nat} (hq : q < 2 ^ (f + 1)) (hf : f < 64) : q &&& (18446744073709551615 - 2 ^ f) = q % 2 ^ f := by
  have h64 : (2 : Nat) ^ f < 2 ^ 64 := Nat.pow_lt_pow_right (by decide) hf
  apply Nat.eq_of_testBit_eq
  intro i
  rw [Nat.testBit_and, show 18446744073709551615 - 2 ^ f = 2 ^ 64 - (2 ^ f + 1) by omega, Nat.testBit_two_pow_sub_succ h64, Nat.testBit_mod_two_pow, Nat.testBit_two_pow]
  by_cases hi : i < f
  · have : ¬ f = i := by omega
    have h2 : i < 64 := by omega
    simp [hi, this, h2]
  · by_cases he : f = i
    · subst he; simp
    · rw [Nat.testBit_lt_two_pow (Nat.lt_of_lt_of_le hq (Nat.pow_le_pow_right (by decide) (by omega)))]; simp

/-- A number shifted up, its highest bit struck. -/
theorem shl_clear {m k f : Nat} (hq : m * pw k < pw (f + 1)) (hf : f < 63) : bits BinOp.andNot IntKind.u64 (IntKind.u64.wrap ((m : Int) * 2 ^ k)) (IntKind.u64.wrap (2 ^ f)) = ((m * pw k % pw f : Nat) : Int) := by
  have h64 : pw (f + 1) ≤ 18446744073709551616 := by have : pw 64 = 18446744073709551616 := rfl; rw [← this]; exact pw_le (by omega)
  have hlt : pw f < pw (f + 1) := pw_lt (by omega)
  have c1 : (m : Int) * 2 ^ k = ((m * pw k : Nat) : Int) := by unfold pw; simp
  have c2 : (2 : Int) ^ f = ((pw f : Nat) : Int) := by unfold pw; simp
  rw [c1, c2, IntKind.wrap_u64, IntKind.wrap_u64, Int.emod_eq_of_lt (by omega) (by omega), Int.emod_eq_of_lt (by omega) (by omega), u64_andNot_nat _ _ (by omega) (by omega)]
  congr 1
  exact clear_top hq (by omega)

theorem pw_zero : pw 0 = 1 := rfl
theorem pw32 : pw 32 = 4294967296 := rfl

attribute [irreducible] pw maskN biasN

end Go.Lb
