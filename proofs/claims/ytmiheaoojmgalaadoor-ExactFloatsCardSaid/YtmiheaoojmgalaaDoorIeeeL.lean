/-
  Plain: the model's doubles: what a word reads as, its order, a number less itself.
-/
import Derived.Test.YtmiheaoojmgalaaDoorFloatL
import Derived.Laws.FloatArith
namespace Go.Proofs.YtmiheaoojmgalaaDoor
open Go.RowKit Go.Lb

theorem sg_word (x : Nat) : (x / 2 ^ 63 % 2 == 1) = sgB 11 52 x := by
  unfold sgB takeN
  rw [show pw 1 = 2 by unfold pw; rfl, show pw (52 + 11) = 2 ^ 63 by unfold pw; rfl, Bool.eq_iff_iff]
  simp

theorem rung_parts (x : Nat) : x % 2 ^ 63 / 2 ^ 52 = exN 11 52 x ∧ x % 2 ^ 63 % 2 ^ 52 = frN 52 x := by
  unfold exN frN takeN
  rw [show pw 0 = 1 by unfold pw; rfl, show pw 11 = 2 ^ 11 by unfold pw; rfl, show pw 52 = 2 ^ 52 by unfold pw; rfl]
  omega

theorem read_num {x : Nat} (h : exN 11 52 x ≠ maskN 11) : Ieee.double.read x = .number (sgB 11 52 x) (vN 11 52 x) (vX 11 52 x) := by
  have hm : maskN 11 = 2047 := by unfold maskN; rfl
  have hb : biasN 11 = 1023 := by unfold biasN; rfl
  have hl := exN_lt 11 52 x
  rw [show pw 11 = 2048 by unfold pw; rfl] at hl
  have hp : pw 52 = 2 ^ 52 := by unfold pw; rfl
  obtain ⟨e1, e2⟩ := rung_parts x
  have hs := sg_word x
  rw [hm] at h
  unfold vN vX
  rw [hb, hp]
  change (let neg := x / 2 ^ 63 % 2 == 1
    let rung := x % 2 ^ 63
    if rung < 2 ^ 52 then Ieee.Datum.number neg rung (-1074)
    else if rung < 2047 * 2 ^ 52 then .number neg (2 ^ 52 + rung % 2 ^ 52) (-1074 + (rung / 2 ^ 52 - 1 : Nat))
    else if rung = 2047 * 2 ^ 52 then .infinity neg
    else .nan neg (rung - 2047 * 2 ^ 52)) = _
  simp only
  rw [hs, e1, e2]
  generalize exN 11 52 x = ex at *
  generalize frN 52 x = fr at *
  by_cases h0 : ex = 0
  · rw [if_pos (by omega), if_pos h0, if_pos h0]
    congr 1
    omega
  · rw [if_neg (by omega), if_pos (by omega), if_neg h0, if_neg h0]
    congr 1
    omega

theorem read_beyond {x : Nat} (h : exN 11 52 x = maskN 11) : (Ieee.double.read x).isNaN = true ∨ ∃ s, Ieee.double.read x = .infinity s := by
  have hm : maskN 11 = 2047 := by unfold maskN; rfl
  obtain ⟨e1, e2⟩ := rung_parts x
  rw [hm] at h
  change (Ieee.Datum.isNaN (let neg := x / 2 ^ 63 % 2 == 1
    let rung := x % 2 ^ 63
    if rung < 2 ^ 52 then Ieee.Datum.number neg rung (-1074)
    else if rung < 2047 * 2 ^ 52 then .number neg (2 ^ 52 + rung % 2 ^ 52) (-1074 + (rung / 2 ^ 52 - 1 : Nat))
    else if rung = 2047 * 2 ^ 52 then .infinity neg
    else .nan neg (rung - 2047 * 2 ^ 52))) = true ∨ ∃ s, (let neg := x / 2 ^ 63 % 2 == 1
    let rung := x % 2 ^ 63
    if rung < 2 ^ 52 then Ieee.Datum.number neg rung (-1074)
    else if rung < 2047 * 2 ^ 52 then .number neg (2 ^ 52 + rung % 2 ^ 52) (-1074 + (rung / 2 ^ 52 - 1 : Nat))
    else if rung = 2047 * 2 ^ 52 then .infinity neg
    else .nan neg (rung - 2047 * 2 ^ 52)) = .infinity s
  simp only
  rw [if_neg (by omega), if_neg (by omega)]
  by_cases hi : x % 2 ^ 63 = 2047 * 2 ^ 52
  · rw [if_pos hi]
    exact .inr ⟨_, rfl⟩
  · rw [if_neg hi]
    exact .inl rfl

theorem signed_wI (s : Bool) (m : Nat) (x b : Int) : Ieee.signed s m (x - b).toNat = wI s m x b := by
  unfold Ieee.signed wI sgI upW
  rw [Nat.shiftLeft_eq]

theorem wI_down {s : Bool} {m : Nat} {x n b : Int} (h : n ≤ x) (hb : b ≤ n) : wI s m x b = wI s m x n * (2 ^ (n - b).toNat : Nat) := by
  unfold wI
  rw [upW_down h hb, sgI_scale]

theorem tri_scale {c A B : Int} {k : Nat} (hk : 0 < k) (h : Tri c (A * k) (B * k)) : Tri c A B := by
  have hk' : (0 : Int) < k := by omega
  rcases h with ⟨h1, h2⟩ | ⟨h1, h2⟩ | ⟨h1, h2⟩
  · exact .inl ⟨h1, Int.lt_of_mul_lt_mul_right h2 (Int.le_of_lt hk')⟩
  · exact .inr (.inl ⟨h1, Int.eq_of_mul_eq_mul_right (by omega) h2⟩)
  · exact .inr (.inr ⟨h1, Int.lt_of_mul_lt_mul_right h2 (Int.le_of_lt hk')⟩)

def ordC (c : Int) : Ordering := if c = -1 then .lt else if c = 0 then .eq else .gt

theorem order_fin {x y : Nat} (hx : exN 11 52 x ≠ maskN 11) (hy : exN 11 52 y ≠ maskN 11) {c : Int} (h : Tri c (sgI (sgB 11 52 x) (gN 11 52 x)) (sgI (sgB 11 52 y) (gN 11 52 y))) :
    Ieee.double.order x y = some (ordC c) := by
  unfold Ieee.Format.order
  rw [read_num hx, read_num hy]
  unfold Ieee.Datum.order
  simp only
  rw [signed_wI, signed_wI]
  have l1 := vX_low 11 52 x
  have l2 := vX_low 11 52 y
  change Tri c (wI (sgB 11 52 x) (vN 11 52 x) (vX 11 52 x) (baseI 11 52)) (wI (sgB 11 52 y) (vN 11 52 y) (vX 11 52 y) (baseI 11 52)) at h
  rw [wI_down (n := min (vX 11 52 x) (vX 11 52 y)) (by omega) (by omega), wI_down (s := sgB 11 52 y) (n := min (vX 11 52 x) (vX 11 52 y)) (by omega) (by omega)] at h
  have h' := tri_scale (Nat.two_pow_pos _) h
  generalize wI (sgB 11 52 x) _ _ _ = A at h' ⊢
  generalize wI (sgB 11 52 y) _ _ _ = B at h' ⊢
  congr 1
  unfold ordC
  rcases h' with ⟨h1, h2⟩ | ⟨h1, h2⟩ | ⟨h1, h2⟩
  · rw [h1, if_pos rfl]
    exact Int.compare_eq_lt.2 h2
  · rw [h1, if_neg (by decide), if_pos rfl]
    exact Int.compare_eq_eq.2 h2
  · rw [h1, if_neg (by decide), if_neg (by decide)]
    exact Int.compare_eq_gt.2 h2

theorem sub_fin {x : Nat} (hx : exN 11 52 x ≠ maskN 11) : Ieee.double.sub x x = some 0 := by
  unfold Ieee.Format.sub
  rw [read_num hx]
  unfold Ieee.Datum.opposite Ieee.Datum.sum
  simp only
  have : ∀ (s : Bool) (m k : Nat), Ieee.signed s m k + Ieee.signed (!s) m k = 0 := by
    intro s m k
    unfold Ieee.signed
    cases s <;> simp <;> omega
  rw [this]
  cases sgB 11 52 x <;> rfl

theorem sub_inf {x : Nat} (hx : exN 11 52 x = maskN 11) : Ieee.double.sub x x = none := by
  unfold Ieee.Format.sub
  rcases read_beyond hx with h | ⟨s, h⟩
  · generalize Ieee.double.read x = d at h
    cases d <;> first | rfl | cases h
  · rw [h]
    cases s <;> rfl

theorem order_zero : Ieee.double.order 0 0 = some .eq := by decide +kernel

theorem order_nan (t : Nat) : Ieee.double.order ((t % 2) * 2 ^ 63 + 0x7ff0000000000000 + 1 + (t / 2) % (2 ^ 52 - 1)) 0 = none := by
  obtain ⟨r, hr⟩ : ∃ r, r = (t % 2) * 2 ^ 63 + 0x7ff0000000000000 + 1 + (t / 2) % (2 ^ 52 - 1) := ⟨_, rfl⟩
  rw [← hr]
  have hu : (t / 2) % (2 ^ 52 - 1) < 2 ^ 52 - 1 := Nat.mod_lt _ (by decide)
  generalize (t / 2) % (2 ^ 52 - 1) = u at hr hu
  have hs : t % 2 = 0 ∨ t % 2 = 1 := by omega
  have h63 : 2047 * 2 ^ 52 < r % 2 ^ 63 := by
    rcases hs with h | h
    · rw [h] at hr
      omega
    · rw [h] at hr
      omega
  clear hr hs hu
  have hn : (Ieee.double.read r).isNaN = true := by
    change (Ieee.Datum.isNaN (let neg := r / 2 ^ 63 % 2 == 1
      let rung := r % 2 ^ 63
      if rung < 2 ^ 52 then Ieee.Datum.number neg rung (-1074)
      else if rung < 2047 * 2 ^ 52 then .number neg (2 ^ 52 + rung % 2 ^ 52) (-1074 + (rung / 2 ^ 52 - 1 : Nat))
      else if rung = 2047 * 2 ^ 52 then .infinity neg
      else .nan neg (rung - 2047 * 2 ^ 52))) = true
    simp only
    rw [if_neg (by omega), if_neg (by omega), if_neg (by omega)]
    rfl
  unfold Ieee.Format.order
  generalize Ieee.double.read r = d at hn
  cases d <;> first | rfl | cases hn

end Go.Proofs.YtmiheaoojmgalaaDoor
