/-
  Plain: the model's doubles stand as their places do; the neighbours' words. No program in sight.
-/
import Derived.Test.YtfjgmpfpadfknaaGreatDoorQNbBase
import Derived.Test.YtfjgmpfpadfknaaGreatDoorQVRchL
namespace Go.Proofs.YtfjgmpfpadfknaaGreatDoor

open Go.RowKit Go.Lb

theorem if_double : ifN 11 52 = 9218868437227405312 := by unfold ifN maskN pw; rfl

theorem pw_double : pw (11 + 52) = 9223372036854775808 := by unfold pw; rfl

theorem pw_all : pw (1 + 11 + 52) = 18446744073709551616 := by unfold pw; rfl

theorem read_top {x : Nat} (h : mgN 11 52 x = ifN 11 52) : Ieee.double.read x = .infinity (sgB 11 52 x) := by
  have hs := sg_word x
  have hm : x % 2 ^ 63 = 9218868437227405312 := by
    have : mgN 11 52 x = x % pw (11 + 52) := rfl
    rw [pw_double, h, if_double] at this
    omega
  change (let neg := x / 2 ^ 63 % 2 == 1
    let rung := x % 2 ^ 63
    if rung < 2 ^ 52 then Ieee.Datum.number neg rung (-1074)
    else if rung < 2047 * 2 ^ 52 then .number neg (2 ^ 52 + rung % 2 ^ 52) (-1074 + (rung / 2 ^ 52 - 1 : Nat))
    else if rung = 2047 * 2 ^ 52 then .infinity neg
    else .nan neg (rung - 2047 * 2 ^ 52)) = _
  simp only
  rw [hs, hm]
  rfl

theorem read_none {x : Nat} (h : ifN 11 52 < mgN 11 52 x) : (Ieee.double.read x).isNaN = true := by
  have hm : 2047 * 2 ^ 52 < x % 2 ^ 63 := by
    have : mgN 11 52 x = x % pw (11 + 52) := rfl
    rw [pw_double] at this
    rw [if_double, this] at h
    omega
  change (Ieee.Datum.isNaN (let neg := x / 2 ^ 63 % 2 == 1
    let rung := x % 2 ^ 63
    if rung < 2 ^ 52 then Ieee.Datum.number neg rung (-1074)
    else if rung < 2047 * 2 ^ 52 then .number neg (2 ^ 52 + rung % 2 ^ 52) (-1074 + (rung / 2 ^ 52 - 1 : Nat))
    else if rung = 2047 * 2 ^ 52 then .infinity neg
    else .nan neg (rung - 2047 * 2 ^ 52))) = true
  simp only
  rw [if_neg (by omega), if_neg (by omega), if_neg (by omega)]
  rfl

theorem gN_mg (e f x : Nat) : gN e f x = gN e f (mgN e f x) := by
  obtain ⟨h1, h2⟩ := ex_of_mg (mg_mg e f x)
  unfold gN vN vX
  rw [h1, h2]

/-- Of numbers the order is that of the places. -/
def cmI (x y : Int) : Ordering := if x < y then .lt else if x = y then .eq else .gt

theorem order_place {x y : Nat} (hx : mgN 11 52 x ≤ ifN 11 52) (hy : mgN 11 52 y ≤ ifN 11 52) : Ieee.double.order x y = some (cmI (plI 11 52 x) (plI 11 52 y)) := by
  have hi := (if_lt (e := 11) (f := 52) (by decide)).2
  have hz : gN 11 52 0 = 0 := by decide +kernel
  have fin : ∀ {x}, mgN 11 52 x ≤ ifN 11 52 → mgN 11 52 x ≠ ifN 11 52 → exN 11 52 x ≠ maskN 11 := fun h1 h2 => fin_iff.2 (by omega)
  have num : ∀ {x}, mgN 11 52 x < ifN 11 52 → ∃ s m i, Ieee.double.read x = .number s m i := fun h => ⟨_, _, _, read_num (fin_iff.2 h)⟩
  by_cases h1 : mgN 11 52 x = ifN 11 52
  · have r1 := read_top h1
    by_cases h2 : mgN 11 52 y = ifN 11 52
    · have r2 := read_top h2
      unfold Ieee.Format.order
      rw [r1, r2]
      unfold plI
      rw [h1, h2, if_double]
      cases sgB 11 52 x <;> cases sgB 11 52 y <;> rfl
    · obtain ⟨s, m, i, r2⟩ := num (x := y) (by omega)
      unfold Ieee.Format.order
      rw [r1, r2]
      unfold plI Ieee.Datum.order cmI
      rw [h1]
      cases sgB 11 52 x <;> cases sgB 11 52 y
      · simp only [Bool.false_eq_true, if_false]; rw [if_neg (by omega), if_neg (by omega)]
      · simp only [Bool.false_eq_true, if_false, if_true]; rw [if_neg (by omega), if_neg (by omega)]
      · simp only [Bool.false_eq_true, if_false, if_true]; rw [if_pos (by omega)]
      · simp only [if_true]; rw [if_pos (by omega)]
  · by_cases h2 : mgN 11 52 y = ifN 11 52
    · have r2 := read_top h2
      obtain ⟨s, m, i, r1⟩ := num (x := x) (by omega)
      unfold Ieee.Format.order
      rw [r1, r2]
      unfold plI Ieee.Datum.order cmI
      rw [h2]
      cases sgB 11 52 x <;> cases sgB 11 52 y
      · simp only [Bool.false_eq_true, if_false]; rw [if_pos (by omega)]
      · simp only [Bool.false_eq_true, if_false, if_true]; rw [if_neg (by omega), if_neg (by omega)]
      · simp only [Bool.false_eq_true, if_false, if_true]; rw [if_pos (by omega)]
      · simp only [if_true]; rw [if_neg (by omega), if_neg (by omega)]
    · have st : ∀ a b, a < b → b < ifN 11 52 → gN 11 52 a < gN 11 52 b := fun a b hab hb => Nat.lt_of_lt_of_le (gN_step (by omega)) (gN_mono (show a + 1 ≤ b by omega) (by omega))
      have pos : ∀ a, 0 < a → a < ifN 11 52 → 0 < gN 11 52 a := fun a h0 ha => by have := st 0 a h0 ha; omega
      have l1 : mgN 11 52 x < ifN 11 52 := by omega
      have l2 : mgN 11 52 y < ifN 11 52 := by omega
      have key : ∃ c, Tri c (sgI (sgB 11 52 x) (gN 11 52 x)) (sgI (sgB 11 52 y) (gN 11 52 y)) ∧ ordC c = cmI (plI 11 52 x) (plI 11 52 y) := by
        rw [gN_mg 11 52 x, gN_mg 11 52 y]
        unfold Tri plI sgI cmI
        generalize mgN 11 52 x = a at *
        generalize mgN 11 52 y = b at *
        have pa := pos a
        have pb := pos b
        have z : a = 0 → gN 11 52 a = 0 := fun h => by rw [h]; exact hz
        have z' : b = 0 → gN 11 52 b = 0 := fun h => by rw [h]; exact hz
        have ab := st a b
        have ba := st b a
        have ee : a = b → gN 11 52 a = gN 11 52 b := fun h => by rw [h]
        generalize gN 11 52 a = u at *
        generalize gN 11 52 b = v at *
        cases sgB 11 52 x <;> cases sgB 11 52 y <;> simp only [Bool.false_eq_true, if_false, if_true]
        · rcases Nat.lt_trichotomy a b with h | h | h
          · exact ⟨-1, by have := ab h l2; omega, by rw [if_pos (by omega)]; rfl⟩
          · exact ⟨0, by have := ee h; omega, by rw [if_neg (by omega), if_pos (by omega)]; rfl⟩
          · exact ⟨1, by have := ba h l1; omega, by rw [if_neg (by omega), if_neg (by omega)]; rfl⟩
        · by_cases h : a = 0 ∧ b = 0
          · exact ⟨0, by have := z h.1; have := z' h.2; omega, by rw [if_neg (by omega), if_pos (by omega)]; rfl⟩
          · refine ⟨1, ?_, by rw [if_neg (by omega), if_neg (by omega)]; rfl⟩
            by_cases h0 : a = 0
            · have := z h0; have := pb (by omega) l2; omega
            · have := pa (by omega) l1; omega
        · by_cases h : a = 0 ∧ b = 0
          · exact ⟨0, by have := z h.1; have := z' h.2; omega, by rw [if_neg (by omega), if_pos (by omega)]; rfl⟩
          · refine ⟨-1, ?_, by rw [if_pos (by omega)]; rfl⟩
            by_cases h0 : a = 0
            · have := z h0; have := pb (by omega) l2; omega
            · have := pa (by omega) l1; omega
        · rcases Nat.lt_trichotomy a b with h | h | h
          · exact ⟨1, by have := ab h l2; omega, by rw [if_neg (by omega), if_neg (by omega)]; rfl⟩
          · exact ⟨0, by have := ee h; omega, by rw [if_neg (by omega), if_pos (by omega)]; rfl⟩
          · exact ⟨-1, by have := ba h l1; omega, by rw [if_pos (by omega)]; rfl⟩
      obtain ⟨c, k1, k2⟩ := key
      rw [order_fin (fin hx h1) (fin hy h2) k1, k2]

theorem order_none {x y : Nat} (h : ifN 11 52 < mgN 11 52 x ∨ ifN 11 52 < mgN 11 52 y) : Ieee.double.order x y = none := by
  unfold Ieee.Format.order
  rcases h with h | h
  · have := read_none h
    generalize Ieee.double.read x = d at this
    cases d <;> first | rfl | cases this
  · have := read_none h
    generalize Ieee.double.read y = d at this
    generalize Ieee.double.read x = c
    cases d <;> first | (cases c <;> rfl) | cases this

end Go.Proofs.YtfjgmpfpadfknaaGreatDoor

