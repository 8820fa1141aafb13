/-
  What numeral/turn.Int answers; its refusals. (Printed by wip/gen/turint.py.)
-/
import Derived.Test.YtklibjdhlmdkpaaGreatDoorQTurBase
import Derived.Test.YtklibjdhlmdkpaaGreatDoorQRTurB
import Derived.Test.YtklibjdhlmdkpaaGreatDoorQRHelpC
namespace Go.Proofs.YtklibjdhlmdkpaaGreatDoor
open Go.RowKit Go.Lb
set_option maxRecDepth 100000
set_option maxHeartbeats 4000000
attribute [local go_sem] Go.World.cell?_alloc_some
def inEnd (k : Nat) (sg : Bool) : Int := if sg = true then -((2 ^ k : Nat) : Int) else ((2 ^ k : Nat) : Int) - 1
def inR (E F b m : Nat) : Nat := rdN (wrQ E F b).num.natAbs (wrQ E F b).den (decide ((wrQ E F b).num < 0)) m
def inOk (k : Nat) (s : Bool) (R : Nat) : Bool := decide (R < 2 ^ k ∨ R = 2 ^ k ∧ s = true)
def inV (E F b k m : Nat) : Int := if naB E F b = true then 0 else if enB E F b = true then inEnd k (sgB E F b) else if inOk k (decide ((wrQ E F b).num < 0)) (inR E F b m) = true then sgZ (decide ((wrQ E F b).num < 0)) (inR E F b m) else inEnd k (sgB E F b)
def inG (E F b k m : Nat) : Nat := if naB E F b = true then 16 else if enB E F b = true then 16 else if inOk k (decide ((wrQ E F b).num < 0)) (inR E F b m) = true then (if exB (wrQ E F b).num.natAbs (wrQ E F b).den = true then 0 else 1) else 16
theorem low_of (R : Nat) : (R < 18446744073709551616 → lowB (limbs R) = true ∧ lowN (limbs R) = R) ∧ (¬ R < 18446744073709551616 → lowB (limbs R) = false ∧ lowN (limbs R) = 0) := by
 constructor
 ·intro h
  have hl : (limbs R).length ≤ 2 := ln_small2 h
  have hc : chk (limbs R) = 0 := chk_small (Nat.lt_of_lt_of_le h (by decide +kernel))
  have hB : lowB (limbs R) = true := decide_eq_true ⟨hc, hl⟩
  refine ⟨hB, ?_⟩
  unfold lowN
  rw [if_pos hB]
  have hv := val_limbs' R
  rcases hx : limbs R with _ | ⟨x, _ | ⟨y, _ | ⟨z, t⟩⟩⟩
  ·rw [hx] at hv; simp [val, nth] at hv ⊢; omega
  ·rw [hx] at hv; simp [val, nth] at hv ⊢; omega
  ·rw [hx] at hv; simp [val, nth] at hv ⊢; omega
  ·rw [hx] at hl; simp at hl
 ·intro h
  have hB : lowB (limbs R) = false := decide_eq_false fun hh => h (by
   have h1 := val_lt (ok_limbs R)
   rw [val_limbs'] at h1
   have h2 : (4294967296 : Nat) ^ (limbs R).length ≤ 4294967296 ^ 2 := Nat.pow_le_pow_right (by decide) hh.2
   have h3 : (4294967296 : Nat) ^ 2 = 18446744073709551616 := rfl
   omega)
  refine ⟨hB, ?_⟩
  unfold lowN
  rw [if_neg (by rw [hB]; decide)]
end Go.Proofs.YtklibjdhlmdkpaaGreatDoor
