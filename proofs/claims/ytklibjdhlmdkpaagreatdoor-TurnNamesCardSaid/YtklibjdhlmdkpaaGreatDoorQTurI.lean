/-
  What numeral/turn.Int answers; its refusals. (Printed by wip/gen/turint.py.)
-/
import Derived.Test.YtklibjdhlmdkpaaGreatDoorQBigL
import Derived.Test.YtklibjdhlmdkpaaGreatDoorQIntL
import Derived.Deep.RegionWith
import Derived.Deep.CutBlock
import Derived.Deep.Cut
import Derived.Deep.RegionHeld3
import Derived.Deep.CutRange
import Derived.StillTailTactics
import Derived.Deep.DrawnRows
import Derived.Test.YtklibjdhlmdkpaaGreatDoorQMN18
import Derived.Test.YtklibjdhlmdkpaaGreatDoorBase
import Derived.Test.YtklibjdhlmdkpaaGreatDoorQTurL
import Derived.Test.YtklibjdhlmdkpaaGreatDoorQRdG
import Derived.BigQuiet
import Derived.Deep.QuietTactic
import Derived.Test.YtklibjdhlmdkpaaGreatDoorQTurA
import Derived.Test.YtklibjdhlmdkpaaGreatDoorQHelpC
namespace Go.Proofs.YtklibjdhlmdkpaaGreatDoor

open Go.RowKit Go.Lb

attribute [local go_sem] Go.World.cell?_alloc_some

/-- The end of a kind of whole numbers of k + 1 bits, below nought and above. -/
def inEnd (k : Nat) (sg : Bool) : Int := if sg = true then -((2 ^ k : Nat) : Int) else ((2 ^ k : Nat) : Int) - 1

/-- A finite float's worth, rounded to a whole number, without its sign; does it fit? -/
def inR (E F b m : Nat) : Nat := rdN (wrQ E F b).num.natAbs (wrQ E F b).den (decide ((wrQ E F b).num < 0)) m

def inOk (k : Nat) (s : Bool) (R : Nat) : Bool := decide (R < 2 ^ k ∨ R = 2 ^ k ∧ s = true)

def inV (E F b k m : Nat) : Int := if naB E F b = true then 0 else if enB E F b = true then inEnd k (sgB E F b) else if inOk k (decide ((wrQ E F b).num < 0)) (inR E F b m) = true then sgZ (decide ((wrQ E F b).num < 0)) (inR E F b m) else inEnd k (sgB E F b)

def inG (E F b k m : Nat) : Nat := if naB E F b = true then 16 else if enB E F b = true then 16 else if inOk k (decide ((wrQ E F b).num < 0)) (inR E F b m) = true then (if exB (wrQ E F b).num.natAbs (wrQ E F b).den = true then 0 else 1) else 16

theorem low_of (R : Nat) : (R < 18446744073709551616 → lowB (limbs R) = true ∧ lowN (limbs R) = R) ∧ (¬ R < 18446744073709551616 → lowB (limbs R) = false ∧ lowN (limbs R) = 0) := by
  constructor
  · intro h
    have hl : (limbs R).length ≤ 2 := ln_small2 h
    have hc : chk (limbs R) = 0 := chk_small (Nat.lt_of_lt_of_le h (by decide +kernel))
    have hB : lowB (limbs R) = true := decide_eq_true ⟨hc, hl⟩
    refine ⟨hB, ?_⟩
    unfold lowN
    rw [if_pos hB]
    have hv := val_limbs' R
    rcases hx : limbs R with _ | ⟨x, _ | ⟨y, _ | ⟨z, t⟩⟩⟩
    · rw [hx] at hv; simp [val, nth] at hv ⊢; omega
    · rw [hx] at hv; simp [val, nth] at hv ⊢; omega
    · rw [hx] at hv; simp [val, nth] at hv ⊢; omega
    · rw [hx] at hl; simp at hl
  · intro h
    have hB : lowB (limbs R) = false := decide_eq_false fun hh => h (by
      have h1 := val_lt (ok_limbs R)
      rw [val_limbs'] at h1
      have h2 : (4294967296 : Nat) ^ (limbs R).length ≤ 4294967296 ^ 2 := Nat.pow_le_pow_right (by decide) hh.2
      have h3 : (4294967296 : Nat) ^ 2 = 18446744073709551616 := rfl
      omega)
    refine ⟨hB, ?_⟩
    unfold lowN
    rw [if_neg (by rw [hB]; decide)]

set_option maxRecDepth 100000 in
set_option maxHeartbeats 4000000 in
theorem turnInt_bits (e f wd : Int) (b m : Nat) (w : World) (hb : b < 18446744073709551616) (hx : fitsE e f b ≠ 0) :
    Calls Tryz.prog 16 #[.agg #[.int .i64 e, .int .i64 f], .int .u64 (b : Int), .int .i64 wd, .int .u8 (m : Int)] w fun en w' => en = .returned (.tuple #[.int .i64 0, .int .u8 0, .int .i64 (fitsE e f b)]) ∧ Below w.heap.size w w' := by
  have A := box2_new w (.int .i64 e) (.int .i64 f) 24
  have hW := more (Below.refl w.heap.size w) (.cells #[.int .i64 e, .int .i64 f] 24)
  have ⟨a0, a1⟩ := A
  have cA := fun W => turnAsked_any e f b W hb
  have hx1 : (fitsE e f b != 0) = true := bne_iff_ne.2 hx
  generalize fitsE e f b = r at *
  go_enter Tryz.func16, Tryz.ntmps16
  go_wp2_with (go_at_call 83; (with_reducible refine (cA _).mono ?_); rintro en w1 ⟨rfl, hb1⟩; replace hW := next hW hb1; replace A := A.stay hb1; have ⟨a0, a1⟩ := A)
  go_ret3
  exact ⟨rfl, hW⟩

set_option maxRecDepth 100000 in
set_option maxHeartbeats 4000000 in
theorem turnInt_width (e f wd : Int) (b m : Nat) (w : World) (hb : b < 18446744073709551616) (hx : fitsE e f b = 0) (h1 : wd ≠ 8) (h2 : wd ≠ 16) (h3 : wd ≠ 32) (h4 : wd ≠ 64) :
    Calls Tryz.prog 16 #[.agg #[.int .i64 e, .int .i64 f], .int .u64 (b : Int), .int .i64 wd, .int .u8 (m : Int)] w fun en w' => en = .returned (.tuple #[.int .i64 0, .int .u8 0, .int .i64 80]) ∧ Below w.heap.size w w' := by
  have A := box2_new w (.int .i64 e) (.int .i64 f) 24
  have hW := more (Below.refl w.heap.size w) (.cells #[.int .i64 e, .int .i64 f] 24)
  have ⟨a0, a1⟩ := A
  have cA := fun W => turnAsked_any e f b W hb
  rw [hx] at cA
  have d1 : (wd == 8) = false := by simp [h1]
  have d2 : (wd == 16) = false := by simp [h2]
  have d3 : (wd == 32) = false := by simp [h3]
  have d4 : (wd == 64) = false := by simp [h4]
  go_enter Tryz.func16, Tryz.ntmps16
  go_wp2_with (go_at_call 83; (with_reducible refine (cA _).mono ?_); rintro en w1 ⟨rfl, hb1⟩; replace hW := next hW hb1; replace A := A.stay hb1; have ⟨a0, a1⟩ := A)
  go_ret3
  exact ⟨rfl, hW⟩

set_option maxRecDepth 100000 in
set_option maxHeartbeats 4000000 in
theorem turnInt_mode (e f wd : Int) (b m : Nat) (w : World) (hb : b < 18446744073709551616) (hx : fitsE e f b = 0) (hw : wd = 8 ∨ wd = 16 ∨ wd = 32 ∨ wd = 64) (hm : 4 < m) :
    Calls Tryz.prog 16 #[.agg #[.int .i64 e, .int .i64 f], .int .u64 (b : Int), .int .i64 wd, .int .u8 (m : Int)] w fun en w' => en = .returned (.tuple #[.int .i64 0, .int .u8 0, .int .i64 7]) ∧ Below w.heap.size w w' := by
  have A := box2_new w (.int .i64 e) (.int .i64 f) 24
  have hW := more (Below.refl w.heap.size w) (.cells #[.int .i64 e, .int .i64 f] 24)
  have ⟨a0, a1⟩ := A
  have cA := fun W => turnAsked_any e f b W hb
  rw [hx] at cA
  have hm4 : (m : Int) > 4 := by omega
  rcases hw with rfl | rfl | rfl | rfl
  all_goals
    go_enter Tryz.func16, Tryz.ntmps16
    go_wp2_with (go_at_call 83; (with_reducible refine (cA _).mono ?_); rintro en w1 ⟨rfl, hb1⟩; replace hW := next hW hb1; replace A := A.stay hb1; have ⟨a0, a1⟩ := A)
    go_ret3
    exact ⟨rfl, hW⟩

end Go.Proofs.YtklibjdhlmdkpaaGreatDoor

