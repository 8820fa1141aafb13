/-
  The walks of numeral/turn.Near of each kind that the law TurnNears asks, of numeralref08.Near, of the law's signed and plain. (Printed by wip/gen/turnear.py.)
-/
import Derived.Test.YtaddnoneoflimaaGreatDoorQTwBase
namespace Go.Proofs.YtaddnoneoflimaaGreatDoor

open Go.RowKit Go.Lb

attribute [local go_sem] Go.World.cell?_alloc_some

/-- The float nearest to a whole number. -/
def nrB (E F : Nat) (n : Int) : Nat := sgBits E F n.natAbs 1 (decide (n < 0)) false 0

theorem nrB_low (n : Int) : nrB 11 52 n < 18446744073709551616 ∧ toldN 11 52 (nrB 11 52 n) = nrB 11 52 n ∧ nrB 8 23 n < 4294967296 ∧ toldN 8 23 (nrB 8 23 n) = nrB 8 23 n := by
  have h1 := sgBits_low (G := 11) (H := 52) (N := n.natAbs) (D := 1) (s := decide (n < 0)) (neg := false) (m := 0) (by decide)
  have h2 := sgBits_low (G := 8) (H := 23) (N := n.natAbs) (D := 1) (s := decide (n < 0)) (neg := false) (m := 0) (by decide)
  have p1 : pw (1 + 11 + 52) = 18446744073709551616 := by unfold pw; rfl
  have p2 : pw (1 + 8 + 23) = 4294967296 := by unfold pw; rfl
  rw [p1] at h1
  rw [p2] at h2
  exact ⟨h1.1, told_of_low h1.2, h2.1, told_of_low h2.2⟩

set_option maxRecDepth 100000 in
set_option maxHeartbeats 2000000 in
theorem near_F64_int64 (n : Int) (w : World) (h1 : -9223372036854775808 ≤ n) (h2 : n ≤ 9223372036854775807) (hT : Tab w) :
    Calls Tryz.prog 20 #[.int .i64 n] w fun e w' => e = .returned (.float .f64 (nrB 11 52 n)) ∧ Below w.heap.size w w' := by
  unfold nrB
  by_cases h0 : n < 0
  · have cW : ∀ W, Below w.heap.size w W → Calls Tryz.prog 118 #[.agg #[.int .i64 11, .int .i64 52], .bool true, .int .u64 (n.natAbs : Int), .int .u8 0] W fun en w' => en = .returned (.tuple #[.int .u64 (sgBits 11 52 n.natAbs 1 true false 0 : Int), .int .u8 (sgFlags 11 52 n.natAbs 1 true 0 : Int), .int .i64 0]) ∧ Below W.heap.size W w' := fun W hW => turnWholes_any 11 52 n.natAbs 0 true W (by decide) (by omega) (by decide) (hT.below hW)
    have hw : IntKind.u64.wrap (-(IntKind.u64.wrap n)) = (n.natAbs : Int) := by rw [IntKind.wrap_u64, IntKind.wrap_u64]; omega
    have hw1 : IntKind.u64.wrap (-n) = (n.natAbs : Int) := by rw [IntKind.wrap_u64]; omega
    rw [decide_eq_true h0]
    generalize sgBits 11 52 n.natAbs 1 true false 0 = oB at *
    generalize sgFlags 11 52 n.natAbs 1 true 0 = oG at *
    generalize n.natAbs = N at *
    go_enter Tryz.func20, Tryz.ntmps20
    go_wp2_with fail
    refine (turForm_F64 _ _).mono ?_
    rintro en w1 ⟨rfl, hb1⟩
    go_wp2_with fail
    (with_reducible refine (cW _ hb1).mono ?_)
    rintro en w2 ⟨rfl, hb2⟩
    go_wp2_with fail
    refine (turNative_F64 oB _).mono ?_
    rintro en w3 ⟨rfl, rfl⟩
    go_wp2
    go_ret
    exact ⟨rfl, next hb1 hb2⟩
  · have cW : ∀ W, Below w.heap.size w W → Calls Tryz.prog 118 #[.agg #[.int .i64 11, .int .i64 52], .bool false, .int .u64 (n.natAbs : Int), .int .u8 0] W fun en w' => en = .returned (.tuple #[.int .u64 (sgBits 11 52 n.natAbs 1 false false 0 : Int), .int .u8 (sgFlags 11 52 n.natAbs 1 false 0 : Int), .int .i64 0]) ∧ Below W.heap.size W w' := fun W hW => turnWholes_any 11 52 n.natAbs 0 false W (by decide) (by omega) (by decide) (hT.below hW)
    have hw : IntKind.u64.wrap n = (n.natAbs : Int) := by rw [IntKind.wrap_u64]; omega
    have hdc : decide (n < 0) = false := decide_eq_false h0
    rw [decide_eq_false h0]
    generalize sgBits 11 52 n.natAbs 1 false false 0 = oB at *
    generalize sgFlags 11 52 n.natAbs 1 false 0 = oG at *
    generalize n.natAbs = N at *
    go_enter Tryz.func20, Tryz.ntmps20
    go_wp2_with fail
    refine (turForm_F64 _ _).mono ?_
    rintro en w1 ⟨rfl, hb1⟩
    go_wp2_with fail
    (with_reducible refine (cW _ hb1).mono ?_)
    rintro en w2 ⟨rfl, hb2⟩
    go_wp2_with fail
    refine (turNative_F64 oB _).mono ?_
    rintro en w3 ⟨rfl, rfl⟩
    go_wp2
    go_ret
    exact ⟨rfl, next hb1 hb2⟩

set_option maxRecDepth 100000 in
set_option maxHeartbeats 2000000 in
theorem near_F32_int64 (n : Int) (w : World) (h1 : -9223372036854775808 ≤ n) (h2 : n ≤ 9223372036854775807) (hT : Tab w) :
    Calls Tryz.prog 22 #[.int .i64 n] w fun e w' => e = .returned (.float .f32 (nrB 8 23 n)) ∧ Below w.heap.size w w' := by
  unfold nrB
  by_cases h0 : n < 0
  · have cW : ∀ W, Below w.heap.size w W → Calls Tryz.prog 118 #[.agg #[.int .i64 8, .int .i64 23], .bool true, .int .u64 (n.natAbs : Int), .int .u8 0] W fun en w' => en = .returned (.tuple #[.int .u64 (sgBits 8 23 n.natAbs 1 true false 0 : Int), .int .u8 (sgFlags 8 23 n.natAbs 1 true 0 : Int), .int .i64 0]) ∧ Below W.heap.size W w' := fun W hW => turnWholes_any 8 23 n.natAbs 0 true W (by decide) (by omega) (by decide) (hT.below hW)
    have hw : IntKind.u64.wrap (-(IntKind.u64.wrap n)) = (n.natAbs : Int) := by rw [IntKind.wrap_u64, IntKind.wrap_u64]; omega
    have hw1 : IntKind.u64.wrap (-n) = (n.natAbs : Int) := by rw [IntKind.wrap_u64]; omega
    rw [decide_eq_true h0]
    have hlow := (nrB_low n).2.2.1
    unfold nrB at hlow
    rw [decide_eq_true h0] at hlow
    generalize sgBits 8 23 n.natAbs 1 true false 0 = oB at *
    generalize sgFlags 8 23 n.natAbs 1 true 0 = oG at *
    generalize n.natAbs = N at *
    go_enter Tryz.func22, Tryz.ntmps22
    go_wp2_with fail
    refine (turForm_F32 _ _).mono ?_
    rintro en w1 ⟨rfl, hb1⟩
    go_wp2_with fail
    (with_reducible refine (cW _ hb1).mono ?_)
    rintro en w2 ⟨rfl, hb2⟩
    go_wp2_with fail
    refine (turNative_F32 oB _ hlow).mono ?_
    rintro en w3 ⟨rfl, rfl⟩
    go_wp2
    go_ret
    exact ⟨rfl, next hb1 hb2⟩
  · have cW : ∀ W, Below w.heap.size w W → Calls Tryz.prog 118 #[.agg #[.int .i64 8, .int .i64 23], .bool false, .int .u64 (n.natAbs : Int), .int .u8 0] W fun en w' => en = .returned (.tuple #[.int .u64 (sgBits 8 23 n.natAbs 1 false false 0 : Int), .int .u8 (sgFlags 8 23 n.natAbs 1 false 0 : Int), .int .i64 0]) ∧ Below W.heap.size W w' := fun W hW => turnWholes_any 8 23 n.natAbs 0 false W (by decide) (by omega) (by decide) (hT.below hW)
    have hw : IntKind.u64.wrap n = (n.natAbs : Int) := by rw [IntKind.wrap_u64]; omega
    have hdc : decide (n < 0) = false := decide_eq_false h0
    rw [decide_eq_false h0]
    have hlow := (nrB_low n).2.2.1
    unfold nrB at hlow
    rw [decide_eq_false h0] at hlow
    generalize sgBits 8 23 n.natAbs 1 false false 0 = oB at *
    generalize sgFlags 8 23 n.natAbs 1 false 0 = oG at *
    generalize n.natAbs = N at *
    go_enter Tryz.func22, Tryz.ntmps22
    go_wp2_with fail
    refine (turForm_F32 _ _).mono ?_
    rintro en w1 ⟨rfl, hb1⟩
    go_wp2_with fail
    (with_reducible refine (cW _ hb1).mono ?_)
    rintro en w2 ⟨rfl, hb2⟩
    go_wp2_with fail
    refine (turNative_F32 oB _ hlow).mono ?_
    rintro en w3 ⟨rfl, rfl⟩
    go_wp2
    go_ret
    exact ⟨rfl, next hb1 hb2⟩

end Go.Proofs.YtaddnoneoflimaaGreatDoor

