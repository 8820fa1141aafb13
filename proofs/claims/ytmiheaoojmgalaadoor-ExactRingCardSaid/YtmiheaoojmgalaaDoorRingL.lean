/-
  Plain: sums and products in any order, a number and its opposite, the order as the sign of the difference.
-/
import Derived.Test.YtmiheaoojmgalaaDoorWorth
namespace Go.Proofs.YtmiheaoojmgalaaDoor
open Go.RowKit Go.Lb

theorem ring_add {s t : Bool} {N M : Nat} {x y : Int} (h1 : Dy s N x) (h2 : Dy t M y) : addA s (limbs N) x t (limbs M) y = addA t (limbs M) y s (limbs N) x := by
  rw [addA_dy h1 h2, addA_dy h2 h1]
  by_cases hN : N = 0
  · rw [if_pos hN]
    by_cases hM : M = 0
    · rw [if_pos hM]
      obtain ⟨rfl, rfl⟩ := h1.zero hN
      obtain ⟨rfl, rfl⟩ := h2.zero hM
      rw [hN, hM]
    · rw [if_neg hM, if_pos hN]
  · rw [if_neg hN]
    by_cases hM : M = 0
    · rw [if_pos hM, if_pos hM]
    · rw [if_neg hM, if_neg hM, if_neg hN]
      by_cases hb : bigE (lvN N x y) ≠ 0 ∨ bigE (lvN M y x) ≠ 0
      · rw [if_pos hb, if_pos hb.symm]
      · have hb' : ¬ (bigE (lvN M y x) ≠ 0 ∨ bigE (lvN N x y) ≠ 0) := fun h => hb h.symm
        rw [if_neg hb, if_neg hb', Int.min_comm]
        by_cases hst : s = t
        · rw [if_pos hst, if_pos hst.symm, Nat.add_comm, hst]
        · have hst' : ¬ t = s := fun h => hst h.symm
          rw [if_neg hst, if_neg hst']
          rcases Nat.lt_trichotomy (lvN N x y) (lvN M y x) with hl | hl | hl
          · rw [if_neg (by omega), if_pos (by omega)]
          · rw [if_pos (by omega), if_pos (by omega), hl, Nat.sub_self, mkA_zero, mkA_zero]
          · rw [if_pos (by omega), if_neg (by omega)]

theorem ring_mul {s t : Bool} {N M : Nat} {x y : Int} (h1 : Dy s N x) (h2 : Dy t M y) : mulA s (limbs N) x t (limbs M) y = mulA t (limbs M) y s (limbs N) x := by
  rw [mulA_dy h1 h2, mulA_dy h2 h1, Nat.mul_comm, Int.add_comm]
  have : (s != t) = (t != s) := by cases s <;> cases t <;> rfl
  rw [this]
  by_cases h : N = 0 ∨ M = 0
  · rw [if_pos h, if_pos h.symm]
  · have h' : ¬ (M = 0 ∨ N = 0) := fun g => h g.symm
    rw [if_neg h, if_neg h']

theorem negA_dy' {s : Bool} {N : Nat} {x : Int} (h : Dy s N x) : Dy (negA s (limbs N) x).s (negA s (limbs N) x).N (negA s (limbs N) x).x ∧ (negA s (limbs N) x).e = 0 := by
  obtain ⟨h1, h2⟩ := negA_worth (b := x) h (fun _ => Int.le_refl _)
  exact ⟨h2.dy, h1⟩

theorem ring_zero {s : Bool} {N : Nat} {x : Int} (h : Dy s N x) : addA s (limbs N) x (negA s (limbs N) x).s (limbs (negA s (limbs N) x).N) (negA s (limbs N) x).x = noA 0 := by
  rw [addA_dy h (negA_dy' h).1, negA_dy h]
  by_cases h0 : N = 0
  · rw [if_pos h0, if_pos h0]
    rfl
  · rw [if_neg h0, if_neg h0]
    have hl : lvN N x x = N := by
      unfold lvN
      rw [show (x - min x x).toNat = 0 by omega, Nat.pow_zero, Nat.mul_one]
    simp only
    rw [if_neg h0, hl, if_neg (by simp [(bigE_ok h.len).1]), if_neg (by cases s <;> decide), if_pos (Nat.le_refl _), Nat.sub_self, mkA_zero]

/-- The sign of an answer. -/
def sgD (d : Ds) : Int := if d.N = 0 then 0 else if d.s = true then -1 else 1

theorem ring_sub {s t : Bool} {N M : Nat} {x y : Int} (h1 : Dy s N x) (h2 : Dy t M y) (F : Ds) (hF : F = addA s (limbs N) x (negA t (limbs M) y).s (limbs (negA t (limbs M) y).N) (negA t (limbs M) y).x) :
    (F.e = 0 ∨ F.e = 4) ∧ (F.e = 0 → cmpA s (limbs N) x t (limbs M) y = sgD F) ∧ cmpF s (limbs N) x t (limbs M) y = 0 := by
  obtain ⟨g1, g2⟩ := negA_worth (b := min x y) h2 (fun _ => by omega)
  obtain ⟨c1, c2⟩ := cmpA_worth (b := min x y) h1 h2 (fun _ => by omega) (fun _ => by omega)
  refine ⟨by rw [hF]; exact addA_err h1 g2.dy, fun he => ?_, c1⟩
  have hw := addA_worth (b := min x y) h1 g2.dy (fun _ => by omega) g2.low (by rw [← hF]; exact he)
  rw [← hF, g2.wo] at hw
  have hz := hw.wo
  unfold wI at hz
  unfold sgD
  by_cases h0 : F.N = 0
  · rw [if_pos h0]
    rw [h0, upW_zero] at hz
    have : sgI F.s 0 = 0 := sgI_zero.2 rfl
    rw [this] at hz
    change (0 : Int) = wI s N x (min x y) + -wI t M y (min x y) at hz
    rcases c2 with ⟨_, h⟩ | ⟨h, _⟩ | ⟨_, h⟩ <;> omega
  · rw [if_neg h0]
    have hp := upW_pos (x := F.x) (b := min x y) h0
    generalize upW F.N F.x (min x y) = u at hz hp
    change sgI F.s u = wI s N x (min x y) + -wI t M y (min x y) at hz
    unfold sgI at hz
    split at hz
    · rename_i hs
      rw [if_pos hs]
      rcases c2 with ⟨h, _⟩ | ⟨_, h⟩ | ⟨_, h⟩ <;> omega
    · rename_i hs
      rw [if_neg hs]
      rcases c2 with ⟨_, h⟩ | ⟨_, h⟩ | ⟨h, _⟩ <;> omega

end Go.Proofs.YtmiheaoojmgalaaDoor
