/-
  Plain lemmas on lists of limbs that are shifted down.
-/
import Derived.Test.YtnokabglkmiidaaDoorMem
namespace Go.Lb

/-- A list over 2 to the power of s, s below 32. -/
def lowL (s : Nat) : List Nat → List Nat
  | [] => []
  | y :: t => (nth t 0 * 4294967296 + y) / 2 ^ s % 4294967296 :: lowL s t

theorem lowL_length (s : Nat) (ys : List Nat) : (lowL s ys).length = ys.length := by
  induction ys with
  | nil => rfl
  | cons y t ih => simp [lowL, ih]

theorem ok_lowL (s : Nat) (ys : List Nat) : Ok (lowL s ys) := by
  induction ys with
  | nil => exact ok_nil
  | cons y t ih => exact ok_cons (by omega) ih

theorem low_step (y t0 r : Nat) {s : Nat} (hs : s < 32) (hy : y < 4294967296) : (t0 * 4294967296 + y) / 2 ^ s % 4294967296 + 4294967296 * ((t0 + 4294967296 * r) / 2 ^ s) = (y + 4294967296 * (t0 + 4294967296 * r)) / 2 ^ s := by
  obtain ⟨D, hD⟩ : ∃ D, (4294967296 : Nat) = D * 2 ^ s := ⟨2 ^ (32 - s), by rw [← Nat.pow_add]; rw [show 32 - s + s = 32 by omega]⟩
  have hp : 0 < 2 ^ s := Nat.two_pow_pos s
  have e1 : (t0 + 4294967296 * r) / 2 ^ s = t0 / 2 ^ s + D * r := by
    rw [show t0 + 4294967296 * r = t0 + (D * r) * 2 ^ s by rw [Nat.mul_right_comm, ← hD], Nat.add_mul_div_right _ _ hp]
  have e2 : (y + 4294967296 * (t0 + 4294967296 * r)) / 2 ^ s = (t0 * 4294967296 + y) / 2 ^ s + 4294967296 * (D * r) := by
    rw [show y + 4294967296 * (t0 + 4294967296 * r) = (t0 * 4294967296 + y) + (4294967296 * (D * r)) * 2 ^ s by
      rw [Nat.mul_assoc, Nat.mul_right_comm D r, ← hD, Nat.mul_add, Nat.mul_comm t0]; omega, Nat.add_mul_div_right _ _ hp]
  have e3 : (t0 * 4294967296 + y) / 2 ^ s / 4294967296 = t0 / 2 ^ s := by
    rw [Nat.div_div_eq_div_mul, Nat.mul_comm (2 ^ s), ← Nat.div_div_eq_div_mul]
    congr 1
    omega
  rw [e1, e2]
  have := Nat.div_add_mod ((t0 * 4294967296 + y) / 2 ^ s) 4294967296
  rw [e3] at this
  rw [Nat.mul_add]
  omega

theorem val_nth0 (t : List Nat) : ∃ r, val t = nth t 0 + 4294967296 * r := by
  cases t with
  | nil => exact ⟨0, rfl⟩
  | cons x t => exact ⟨val t, rfl⟩

theorem val_lowL {s : Nat} (hs : s < 32) {ys : List Nat} (h : Ok ys) : val (lowL s ys) = val ys / 2 ^ s := by
  induction ys with
  | nil => simp [lowL, val]
  | cons y t ih =>
    have hy : y < 4294967296 := h y (by simp)
    rw [lowL, val, ih (fun x hx => h x (List.mem_cons_of_mem _ hx)), val]
    obtain ⟨r, hr⟩ := val_nth0 t
    rw [hr]
    exact low_step y (nth t 0) r hs hy

theorem nth_cons_zero (y : Nat) (t : List Nat) : nth (y :: t) 0 = y := rfl
theorem nth_cons_succ (y : Nat) (t : List Nat) (j : Nat) : nth (y :: t) (j + 1) = nth t j := rfl

theorem nth_lowL (s : Nat) (ys : List Nat) {j : Nat} (h : j < ys.length) : nth (lowL s ys) j = (nth ys (j + 1) * 4294967296 + nth ys j) / 2 ^ s % 4294967296 := by
  induction ys generalizing j with
  | nil => cases h
  | cons y t ih =>
    cases j with
    | zero => rw [lowL, nth_cons_zero, nth_cons_succ, nth_cons_zero]
    | succ j => rw [lowL, nth_cons_succ, ih (by simpa using h), nth_cons_succ, nth_cons_succ]

end Go.Lb
