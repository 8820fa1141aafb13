/-
  The walks of numeral/turn.Near of each kind that the law TurnNears asks, of numeralref08.Near, of the law's signed and plain. (Printed by wip/gen/turnear.py.)
-/
import Derived.Test.YtaddnoneoflimaaGreatDoorQNsBase
namespace Go.Proofs.YtaddnoneoflimaaGreatDoor

open Go.RowKit Go.Lb

attribute [local go_sem] Go.World.cell?_alloc_some

/-- The float nearest to a whole number. -/
def nrB (E F : Nat) (n : Int) : Nat := sgBits E F n.natAbs 1 (decide (n < 0)) false 0

theorem nrB_low (n : Int) : nrB 11 52 n < 18446744073709551616 ∧ toldN 11 52 (nrB 11 52 n) = nrB 11 52 n ∧ nrB 8 23 n < 4294967296 ∧ toldN 8 23 (nrB 8 23 n) = nrB 8 23 n := by
  have h1 := sgBits_low (G := 11) (H := 52) (N := n.natAbs) (D := 1) (s := decide (n < 0)) (neg := false) (m := 0) (by decide)
  have h2 := sgBits_low (G := 8) (H := 23) (N := n.natAbs) (D := 1) (s := decide (n < 0)) (neg := false) (m := 0) (by decide)
  have p1 : pw (1 + 11 + 52) = 18446744073709551616 := by unfold pw; rfl
  have p2 : pw (1 + 8 + 23) = 4294967296 := by unfold pw; rfl
  rw [p1] at h1
  rw [p2] at h2
  exact ⟨h1.1, told_of_low h1.2, h2.1, told_of_low h2.2⟩

set_option maxRecDepth 100000 in
set_option maxHeartbeats 2000000 in
theorem near_F64_int64 (n : Int) (w : World) (h1 : -9223372036854775808 ≤ n) (h2 : n ≤ 9223372036854775807) (hT : Tab w) :
    Calls Tryz.prog 20 #[.int .i64 n] w fun e w' => e = .returned (.float .f64 (nrB 11 52 n)) ∧ Below w.heap.size w w' := by
  unfold nrB
  by_cases h0 : n < 0
  · have cW : ∀ W, Below w.heap.size w W → Calls Tryz.prog 118 #[.agg #[.int .i64 11, .int .i64 52], .bool true, .int .u64 (n.natAbs : Int), .int .u8 0] W fun en w' => en = .returned (.tuple #[.int .u64 (sgBits 11 52 n.natAbs 1 true false 0 : Int), .int .u8 (sgFlags 11 52 n.natAbs 1 true 0 : Int), .int .i64 0]) ∧ Below W.heap.size W w' := fun W hW => turnWholes_any 11 52 n.natAbs 0 true W (by decide) (by omega) (by decide) (hT.below hW)
    have hw : IntKind.u64.wrap (-(IntKind.u64.wrap n)) = (n.natAbs : Int) := by rw [IntKind.wrap_u64, IntKind.wrap_u64]; omega
    have hw1 : IntKind.u64.wrap (-n) = (n.natAbs : Int) := by rw [IntKind.wrap_u64]; omega
    rw [decide_eq_true h0]
    generalize sgBits 11 52 n.natAbs 1 true false 0 = oB at *
    generalize sgFlags 11 52 n.natAbs 1 true 0 = oG at *
    generalize n.natAbs = N at *
    go_enter Tryz.func20, Tryz.ntmps20
    go_wp2_with fail
    refine (turForm_F64 _ _).mono ?_
    rintro en w1 ⟨rfl, hb1⟩
    go_wp2_with fail
    (with_reducible refine (cW _ hb1).mono ?_)
    rintro en w2 ⟨rfl, hb2⟩
    go_wp2_with fail
    refine (turNative_F64 oB _).mono ?_
    rintro en w3 ⟨rfl, rfl⟩
    go_wp2
    go_ret
    exact ⟨rfl, next hb1 hb2⟩
  · have cW : ∀ W, Below w.heap.size w W → Calls Tryz.prog 118 #[.agg #[.int .i64 11, .int .i64 52], .bool false, .int .u64 (n.natAbs : Int), .int .u8 0] W fun en w' => en = .returned (.tuple #[.int .u64 (sgBits 11 52 n.natAbs 1 false false 0 : Int), .int .u8 (sgFlags 11 52 n.natAbs 1 false 0 : Int), .int .i64 0]) ∧ Below W.heap.size W w' := fun W hW => turnWholes_any 11 52 n.natAbs 0 false W (by decide) (by omega) (by decide) (hT.below hW)
    have hw : IntKind.u64.wrap n = (n.natAbs : Int) := by rw [IntKind.wrap_u64]; omega
    have hdc : decide (n < 0) = false := decide_eq_false h0
    rw [decide_eq_false h0]
    generalize sgBits 11 52 n.natAbs 1 false false 0 = oB at *
    generalize sgFlags 11 52 n.natAbs 1 false 0 = oG at *
    generalize n.natAbs = N at *
    go_enter Tryz.func20, Tryz.ntmps20
    go_wp2_with fail
    refine (turForm_F64 _ _).mono ?_
    rintro en w1 ⟨rfl, hb1⟩
    go_wp2_with fail
    (with_reducible refine (cW _ hb1).mono ?_)
    rintro en w2 ⟨rfl, hb2⟩
    go_wp2_with fail
    refine (turNative_F64 oB _).mono ?_
    rintro en w3 ⟨rfl, rfl⟩
    go_wp2
    go_ret
    exact ⟨rfl, next hb1 hb2⟩

set_option maxRecDepth 100000 in
set_option maxHeartbeats 2000000 in
theorem near_F32_int64 (n : Int) (w : World) (h1 : -9223372036854775808 ≤ n) (h2 : n ≤ 9223372036854775807) (hT : Tab w) :
    Calls Tryz.prog 22 #[.int .i64 n] w fun e w' => e = .returned (.float .f32 (nrB 8 23 n)) ∧ Below w.heap.size w w' := by
  unfold nrB
  by_cases h0 : n < 0
  · have cW : ∀ W, Below w.heap.size w W → Calls Tryz.prog 118 #[.agg #[.int .i64 8, .int .i64 23], .bool true, .int .u64 (n.natAbs : Int), .int .u8 0] W fun en w' => en = .returned (.tuple #[.int .u64 (sgBits 8 23 n.natAbs 1 true false 0 : Int), .int .u8 (sgFlags 8 23 n.natAbs 1 true 0 : Int), .int .i64 0]) ∧ Below W.heap.size W w' := fun W hW => turnWholes_any 8 23 n.natAbs 0 true W (by decide) (by omega) (by decide) (hT.below hW)
    have hw : IntKind.u64.wrap (-(IntKind.u64.wrap n)) = (n.natAbs : Int) := by rw [IntKind.wrap_u64, IntKind.wrap_u64]; omega
    have hw1 : IntKind.u64.wrap (-n) = (n.natAbs : Int) := by rw [IntKind.wrap_u64]; omega
    rw [decide_eq_true h0]
    have hlow := (nrB_low n).2.2.1
    unfold nrB at hlow
    rw [decide_eq_true h0] at hlow
    generalize sgBits 8 23 n.natAbs 1 true false 0 = oB at *
    generalize sgFlags 8 23 n.natAbs 1 true 0 = oG at *
    generalize n.natAbs = N at *
    go_enter Tryz.func22, Tryz.ntmps22
    go_wp2_with fail
    refine (turForm_F32 _ _).mono ?_
    rintro en w1 ⟨rfl, hb1⟩
    go_wp2_with fail
    (with_reducible refine (cW _ hb1).mono ?_)
    rintro en w2 ⟨rfl, hb2⟩
    go_wp2_with fail
    refine (turNative_F32 oB _ hlow).mono ?_
    rintro en w3 ⟨rfl, rfl⟩
    go_wp2
    go_ret
    exact ⟨rfl, next hb1 hb2⟩
  · have cW : ∀ W, Below w.heap.size w W → Calls Tryz.prog 118 #[.agg #[.int .i64 8, .int .i64 23], .bool false, .int .u64 (n.natAbs : Int), .int .u8 0] W fun en w' => en = .returned (.tuple #[.int .u64 (sgBits 8 23 n.natAbs 1 false false 0 : Int), .int .u8 (sgFlags 8 23 n.natAbs 1 false 0 : Int), .int .i64 0]) ∧ Below W.heap.size W w' := fun W hW => turnWholes_any 8 23 n.natAbs 0 false W (by decide) (by omega) (by decide) (hT.below hW)
    have hw : IntKind.u64.wrap n = (n.natAbs : Int) := by rw [IntKind.wrap_u64]; omega
    have hdc : decide (n < 0) = false := decide_eq_false h0
    rw [decide_eq_false h0]
    have hlow := (nrB_low n).2.2.1
    unfold nrB at hlow
    rw [decide_eq_false h0] at hlow
    generalize sgBits 8 23 n.natAbs 1 false false 0 = oB at *
    generalize sgFlags 8 23 n.natAbs 1 false 0 = oG at *
    generalize n.natAbs = N at *
    go_enter Tryz.func22, Tryz.ntmps22
    go_wp2_with fail
    refine (turForm_F32 _ _).mono ?_
    rintro en w1 ⟨rfl, hb1⟩
    go_wp2_with fail
    (with_reducible refine (cW _ hb1).mono ?_)
    rintro en w2 ⟨rfl, hb2⟩
    go_wp2_with fail
    refine (turNative_F32 oB _ hlow).mono ?_
    rintro en w3 ⟨rfl, rfl⟩
    go_wp2
    go_ret
    exact ⟨rfl, next hb1 hb2⟩

set_option maxRecDepth 100000 in
set_option maxHeartbeats 2000000 in
theorem near_F64_int (n : Int) (w : World) (h1 : -9223372036854775808 ≤ n) (h2 : n ≤ 9223372036854775807) (hT : Tab w) :
    Calls Tryz.prog 27 #[.int .i64 n] w fun e w' => e = .returned (.float .f64 (nrB 11 52 n)) ∧ Below w.heap.size w w' := by
  unfold nrB
  by_cases h0 : n < 0
  · have cW : ∀ W, Below w.heap.size w W → Calls Tryz.prog 118 #[.agg #[.int .i64 11, .int .i64 52], .bool true, .int .u64 (n.natAbs : Int), .int .u8 0] W fun en w' => en = .returned (.tuple #[.int .u64 (sgBits 11 52 n.natAbs 1 true false 0 : Int), .int .u8 (sgFlags 11 52 n.natAbs 1 true 0 : Int), .int .i64 0]) ∧ Below W.heap.size W w' := fun W hW => turnWholes_any 11 52 n.natAbs 0 true W (by decide) (by omega) (by decide) (hT.below hW)
    have hw : IntKind.u64.wrap (-(IntKind.u64.wrap n)) = (n.natAbs : Int) := by rw [IntKind.wrap_u64, IntKind.wrap_u64]; omega
    have hw1 : IntKind.u64.wrap (-n) = (n.natAbs : Int) := by rw [IntKind.wrap_u64]; omega
    rw [decide_eq_true h0]
    generalize sgBits 11 52 n.natAbs 1 true false 0 = oB at *
    generalize sgFlags 11 52 n.natAbs 1 true 0 = oG at *
    generalize n.natAbs = N at *
    go_enter Tryz.func27, Tryz.ntmps27
    go_wp2_with fail
    refine (turForm_F64 _ _).mono ?_
    rintro en w1 ⟨rfl, hb1⟩
    go_wp2_with fail
    (with_reducible refine (cW _ hb1).mono ?_)
    rintro en w2 ⟨rfl, hb2⟩
    go_wp2_with fail
    refine (turNative_F64 oB _).mono ?_
    rintro en w3 ⟨rfl, rfl⟩
    go_wp2
    go_ret
    exact ⟨rfl, next hb1 hb2⟩
  · have cW : ∀ W, Below w.heap.size w W → Calls Tryz.prog 118 #[.agg #[.int .i64 11, .int .i64 52], .bool false, .int .u64 (n.natAbs : Int), .int .u8 0] W fun en w' => en = .returned (.tuple #[.int .u64 (sgBits 11 52 n.natAbs 1 false false 0 : Int), .int .u8 (sgFlags 11 52 n.natAbs 1 false 0 : Int), .int .i64 0]) ∧ Below W.heap.size W w' := fun W hW => turnWholes_any 11 52 n.natAbs 0 false W (by decide) (by omega) (by decide) (hT.below hW)
    have hw : IntKind.u64.wrap n = (n.natAbs : Int) := by rw [IntKind.wrap_u64]; omega
    have hdc : decide (n < 0) = false := decide_eq_false h0
    rw [decide_eq_false h0]
    generalize sgBits 11 52 n.natAbs 1 false false 0 = oB at *
    generalize sgFlags 11 52 n.natAbs 1 false 0 = oG at *
    generalize n.natAbs = N at *
    go_enter Tryz.func27, Tryz.ntmps27
    go_wp2_with fail
    refine (turForm_F64 _ _).mono ?_
    rintro en w1 ⟨rfl, hb1⟩
    go_wp2_with fail
    (with_reducible refine (cW _ hb1).mono ?_)
    rintro en w2 ⟨rfl, hb2⟩
    go_wp2_with fail
    refine (turNative_F64 oB _).mono ?_
    rintro en w3 ⟨rfl, rfl⟩
    go_wp2
    go_ret
    exact ⟨rfl, next hb1 hb2⟩

set_option maxRecDepth 100000 in
set_option maxHeartbeats 2000000 in
theorem near_F32_int (n : Int) (w : World) (h1 : -9223372036854775808 ≤ n) (h2 : n ≤ 9223372036854775807) (hT : Tab w) :
    Calls Tryz.prog 28 #[.int .i64 n] w fun e w' => e = .returned (.float .f32 (nrB 8 23 n)) ∧ Below w.heap.size w w' := by
  unfold nrB
  by_cases h0 : n < 0
  · have cW : ∀ W, Below w.heap.size w W → Calls Tryz.prog 118 #[.agg #[.int .i64 8, .int .i64 23], .bool true, .int .u64 (n.natAbs : Int), .int .u8 0] W fun en w' => en = .returned (.tuple #[.int .u64 (sgBits 8 23 n.natAbs 1 true false 0 : Int), .int .u8 (sgFlags 8 23 n.natAbs 1 true 0 : Int), .int .i64 0]) ∧ Below W.heap.size W w' := fun W hW => turnWholes_any 8 23 n.natAbs 0 true W (by decide) (by omega) (by decide) (hT.below hW)
    have hw : IntKind.u64.wrap (-(IntKind.u64.wrap n)) = (n.natAbs : Int) := by rw [IntKind.wrap_u64, IntKind.wrap_u64]; omega
    have hw1 : IntKind.u64.wrap (-n) = (n.natAbs : Int) := by rw [IntKind.wrap_u64]; omega
    rw [decide_eq_true h0]
    have hlow := (nrB_low n).2.2.1
    unfold nrB at hlow
    rw [decide_eq_true h0] at hlow
    generalize sgBits 8 23 n.natAbs 1 true false 0 = oB at *
    generalize sgFlags 8 23 n.natAbs 1 true 0 = oG at *
    generalize n.natAbs = N at *
    go_enter Tryz.func28, Tryz.ntmps28
    go_wp2_with fail
    refine (turForm_F32 _ _).mono ?_
    rintro en w1 ⟨rfl, hb1⟩
    go_wp2_with fail
    (with_reducible refine (cW _ hb1).mono ?_)
    rintro en w2 ⟨rfl, hb2⟩
    go_wp2_with fail
    refine (turNative_F32 oB _ hlow).mono ?_
    rintro en w3 ⟨rfl, rfl⟩
    go_wp2
    go_ret
    exact ⟨rfl, next hb1 hb2⟩
  · have cW : ∀ W, Below w.heap.size w W → Calls Tryz.prog 118 #[.agg #[.int .i64 8, .int .i64 23], .bool false, .int .u64 (n.natAbs : Int), .int .u8 0] W fun en w' => en = .returned (.tuple #[.int .u64 (sgBits 8 23 n.natAbs 1 false false 0 : Int), .int .u8 (sgFlags 8 23 n.natAbs 1 false 0 : Int), .int .i64 0]) ∧ Below W.heap.size W w' := fun W hW => turnWholes_any 8 23 n.natAbs 0 false W (by decide) (by omega) (by decide) (hT.below hW)
    have hw : IntKind.u64.wrap n = (n.natAbs : Int) := by rw [IntKind.wrap_u64]; omega
    have hdc : decide (n < 0) = false := decide_eq_false h0
    rw [decide_eq_false h0]
    have hlow := (nrB_low n).2.2.1
    unfold nrB at hlow
    rw [decide_eq_false h0] at hlow
    generalize sgBits 8 23 n.natAbs 1 false false 0 = oB at *
    generalize sgFlags 8 23 n.natAbs 1 false 0 = oG at *
    generalize n.natAbs = N at *
    go_enter Tryz.func28, Tryz.ntmps28
    go_wp2_with fail
    refine (turForm_F32 _ _).mono ?_
    rintro en w1 ⟨rfl, hb1⟩
    go_wp2_with fail
    (with_reducible refine (cW _ hb1).mono ?_)
    rintro en w2 ⟨rfl, hb2⟩
    go_wp2_with fail
    refine (turNative_F32 oB _ hlow).mono ?_
    rintro en w3 ⟨rfl, rfl⟩
    go_wp2
    go_ret
    exact ⟨rfl, next hb1 hb2⟩

set_option maxRecDepth 100000 in
set_option maxHeartbeats 2000000 in
theorem near_F64_int32 (n : Int) (w : World) (h1 : -2147483648 ≤ n) (h2 : n ≤ 2147483647) (hT : Tab w) :
    Calls Tryz.prog 29 #[.int .i32 n] w fun e w' => e = .returned (.float .f64 (nrB 11 52 n)) ∧ Below w.heap.size w w' := by
  unfold nrB
  by_cases h0 : n < 0
  · have cW : ∀ W, Below w.heap.size w W → Calls Tryz.prog 118 #[.agg #[.int .i64 11, .int .i64 52], .bool true, .int .u64 (n.natAbs : Int), .int .u8 0] W fun en w' => en = .returned (.tuple #[.int .u64 (sgBits 11 52 n.natAbs 1 true false 0 : Int), .int .u8 (sgFlags 11 52 n.natAbs 1 true 0 : Int), .int .i64 0]) ∧ Below W.heap.size W w' := fun W hW => turnWholes_any 11 52 n.natAbs 0 true W (by decide) (by omega) (by decide) (hT.below hW)
    have hw : IntKind.u64.wrap (-(IntKind.u64.wrap n)) = (n.natAbs : Int) := by rw [IntKind.wrap_u64, IntKind.wrap_u64]; omega
    have hw1 : IntKind.u64.wrap (-n) = (n.natAbs : Int) := by rw [IntKind.wrap_u64]; omega
    have hv : wrap64 n = n := by unfold wrap64; omega
    rw [decide_eq_true h0]
    generalize sgBits 11 52 n.natAbs 1 true false 0 = oB at *
    generalize sgFlags 11 52 n.natAbs 1 true 0 = oG at *
    generalize n.natAbs = N at *
    go_enter Tryz.func29, Tryz.ntmps29
    go_wp2_with fail
    refine (turForm_F64 _ _).mono ?_
    rintro en w1 ⟨rfl, hb1⟩
    go_wp2_with fail
    (with_reducible refine (cW _ hb1).mono ?_)
    rintro en w2 ⟨rfl, hb2⟩
    go_wp2_with fail
    refine (turNative_F64 oB _).mono ?_
    rintro en w3 ⟨rfl, rfl⟩
    go_wp2
    go_ret
    exact ⟨rfl, next hb1 hb2⟩
  · have cW : ∀ W, Below w.heap.size w W → Calls Tryz.prog 118 #[.agg #[.int .i64 11, .int .i64 52], .bool false, .int .u64 (n.natAbs : Int), .int .u8 0] W fun en w' => en = .returned (.tuple #[.int .u64 (sgBits 11 52 n.natAbs 1 false false 0 : Int), .int .u8 (sgFlags 11 52 n.natAbs 1 false 0 : Int), .int .i64 0]) ∧ Below W.heap.size W w' := fun W hW => turnWholes_any 11 52 n.natAbs 0 false W (by decide) (by omega) (by decide) (hT.below hW)
    have hw : IntKind.u64.wrap n = (n.natAbs : Int) := by rw [IntKind.wrap_u64]; omega
    have hdc : decide (n < 0) = false := decide_eq_false h0
    rw [decide_eq_false h0]
    generalize sgBits 11 52 n.natAbs 1 false false 0 = oB at *
    generalize sgFlags 11 52 n.natAbs 1 false 0 = oG at *
    generalize n.natAbs = N at *
    go_enter Tryz.func29, Tryz.ntmps29
    go_wp2_with fail
    refine (turForm_F64 _ _).mono ?_
    rintro en w1 ⟨rfl, hb1⟩
    go_wp2_with fail
    (with_reducible refine (cW _ hb1).mono ?_)
    rintro en w2 ⟨rfl, hb2⟩
    go_wp2_with fail
    refine (turNative_F64 oB _).mono ?_
    rintro en w3 ⟨rfl, rfl⟩
    go_wp2
    go_ret
    exact ⟨rfl, next hb1 hb2⟩

set_option maxRecDepth 100000 in
set_option maxHeartbeats 2000000 in
theorem near_F32_int32 (n : Int) (w : World) (h1 : -2147483648 ≤ n) (h2 : n ≤ 2147483647) (hT : Tab w) :
    Calls Tryz.prog 30 #[.int .i32 n] w fun e w' => e = .returned (.float .f32 (nrB 8 23 n)) ∧ Below w.heap.size w w' := by
  unfold nrB
  by_cases h0 : n < 0
  · have cW : ∀ W, Below w.heap.size w W → Calls Tryz.prog 118 #[.agg #[.int .i64 8, .int .i64 23], .bool true, .int .u64 (n.natAbs : Int), .int .u8 0] W fun en w' => en = .returned (.tuple #[.int .u64 (sgBits 8 23 n.natAbs 1 true false 0 : Int), .int .u8 (sgFlags 8 23 n.natAbs 1 true 0 : Int), .int .i64 0]) ∧ Below W.heap.size W w' := fun W hW => turnWholes_any 8 23 n.natAbs 0 true W (by decide) (by omega) (by decide) (hT.below hW)
    have hw : IntKind.u64.wrap (-(IntKind.u64.wrap n)) = (n.natAbs : Int) := by rw [IntKind.wrap_u64, IntKind.wrap_u64]; omega
    have hw1 : IntKind.u64.wrap (-n) = (n.natAbs : Int) := by rw [IntKind.wrap_u64]; omega
    have hv : wrap64 n = n := by unfold wrap64; omega
    rw [decide_eq_true h0]
    have hlow := (nrB_low n).2.2.1
    unfold nrB at hlow
    rw [decide_eq_true h0] at hlow
    generalize sgBits 8 23 n.natAbs 1 true false 0 = oB at *
    generalize sgFlags 8 23 n.natAbs 1 true 0 = oG at *
    generalize n.natAbs = N at *
    go_enter Tryz.func30, Tryz.ntmps30
    go_wp2_with fail
    refine (turForm_F32 _ _).mono ?_
    rintro en w1 ⟨rfl, hb1⟩
    go_wp2_with fail
    (with_reducible refine (cW _ hb1).mono ?_)
    rintro en w2 ⟨rfl, hb2⟩
    go_wp2_with fail
    refine (turNative_F32 oB _ hlow).mono ?_
    rintro en w3 ⟨rfl, rfl⟩
    go_wp2
    go_ret
    exact ⟨rfl, next hb1 hb2⟩
  · have cW : ∀ W, Below w.heap.size w W → Calls Tryz.prog 118 #[.agg #[.int .i64 8, .int .i64 23], .bool false, .int .u64 (n.natAbs : Int), .int .u8 0] W fun en w' => en = .returned (.tuple #[.int .u64 (sgBits 8 23 n.natAbs 1 false false 0 : Int), .int .u8 (sgFlags 8 23 n.natAbs 1 false 0 : Int), .int .i64 0]) ∧ Below W.heap.size W w' := fun W hW => turnWholes_any 8 23 n.natAbs 0 false W (by decide) (by omega) (by decide) (hT.below hW)
    have hw : IntKind.u64.wrap n = (n.natAbs : Int) := by rw [IntKind.wrap_u64]; omega
    have hdc : decide (n < 0) = false := decide_eq_false h0
    rw [decide_eq_false h0]
    have hlow := (nrB_low n).2.2.1
    unfold nrB at hlow
    rw [decide_eq_false h0] at hlow
    generalize sgBits 8 23 n.natAbs 1 false false 0 = oB at *
    generalize sgFlags 8 23 n.natAbs 1 false 0 = oG at *
    generalize n.natAbs = N at *
    go_enter Tryz.func30, Tryz.ntmps30
    go_wp2_with fail
    refine (turForm_F32 _ _).mono ?_
    rintro en w1 ⟨rfl, hb1⟩
    go_wp2_with fail
    (with_reducible refine (cW _ hb1).mono ?_)
    rintro en w2 ⟨rfl, hb2⟩
    go_wp2_with fail
    refine (turNative_F32 oB _ hlow).mono ?_
    rintro en w3 ⟨rfl, rfl⟩
    go_wp2
    go_ret
    exact ⟨rfl, next hb1 hb2⟩

set_option maxRecDepth 100000 in
set_option maxHeartbeats 2000000 in
theorem near_F64_int16 (n : Int) (w : World) (h1 : -32768 ≤ n) (h2 : n ≤ 32767) (hT : Tab w) :
    Calls Tryz.prog 31 #[.int .i16 n] w fun e w' => e = .returned (.float .f64 (nrB 11 52 n)) ∧ Below w.heap.size w w' := by
  unfold nrB
  by_cases h0 : n < 0
  · have cW : ∀ W, Below w.heap.size w W → Calls Tryz.prog 118 #[.agg #[.int .i64 11, .int .i64 52], .bool true, .int .u64 (n.natAbs : Int), .int .u8 0] W fun en w' => en = .returned (.tuple #[.int .u64 (sgBits 11 52 n.natAbs 1 true false 0 : Int), .int .u8 (sgFlags 11 52 n.natAbs 1 true 0 : Int), .int .i64 0]) ∧ Below W.heap.size W w' := fun W hW => turnWholes_any 11 52 n.natAbs 0 true W (by decide) (by omega) (by decide) (hT.below hW)
    have hw : IntKind.u64.wrap (-(IntKind.u64.wrap n)) = (n.natAbs : Int) := by rw [IntKind.wrap_u64, IntKind.wrap_u64]; omega
    have hw1 : IntKind.u64.wrap (-n) = (n.natAbs : Int) := by rw [IntKind.wrap_u64]; omega
    have hv : wrap64 n = n := by unfold wrap64; omega
    rw [decide_eq_true h0]
    generalize sgBits 11 52 n.natAbs 1 true false 0 = oB at *
    generalize sgFlags 11 52 n.natAbs 1 true 0 = oG at *
    generalize n.natAbs = N at *
    go_enter Tryz.func31, Tryz.ntmps31
    go_wp2_with fail
    refine (turForm_F64 _ _).mono ?_
    rintro en w1 ⟨rfl, hb1⟩
    go_wp2_with fail
    (with_reducible refine (cW _ hb1).mono ?_)
    rintro en w2 ⟨rfl, hb2⟩
    go_wp2_with fail
    refine (turNative_F64 oB _).mono ?_
    rintro en w3 ⟨rfl, rfl⟩
    go_wp2
    go_ret
    exact ⟨rfl, next hb1 hb2⟩
  · have cW : ∀ W, Below w.heap.size w W → Calls Tryz.prog 118 #[.agg #[.int .i64 11, .int .i64 52], .bool false, .int .u64 (n.natAbs : Int), .int .u8 0] W fun en w' => en = .returned (.tuple #[.int .u64 (sgBits 11 52 n.natAbs 1 false false 0 : Int), .int .u8 (sgFlags 11 52 n.natAbs 1 false 0 : Int), .int .i64 0]) ∧ Below W.heap.size W w' := fun W hW => turnWholes_any 11 52 n.natAbs 0 false W (by decide) (by omega) (by decide) (hT.below hW)
    have hw : IntKind.u64.wrap n = (n.natAbs : Int) := by rw [IntKind.wrap_u64]; omega
    have hdc : decide (n < 0) = false := decide_eq_false h0
    rw [decide_eq_false h0]
    generalize sgBits 11 52 n.natAbs 1 false false 0 = oB at *
    generalize sgFlags 11 52 n.natAbs 1 false 0 = oG at *
    generalize n.natAbs = N at *
    go_enter Tryz.func31, Tryz.ntmps31
    go_wp2_with fail
    refine (turForm_F64 _ _).mono ?_
    rintro en w1 ⟨rfl, hb1⟩
    go_wp2_with fail
    (with_reducible refine (cW _ hb1).mono ?_)
    rintro en w2 ⟨rfl, hb2⟩
    go_wp2_with fail
    refine (turNative_F64 oB _).mono ?_
    rintro en w3 ⟨rfl, rfl⟩
    go_wp2
    go_ret
    exact ⟨rfl, next hb1 hb2⟩

set_option maxRecDepth 100000 in
set_option maxHeartbeats 2000000 in
theorem near_F32_mine (n : Int) (w : World) (h1 : -32768 ≤ n) (h2 : n ≤ 32767) (hT : Tab w) :
    Calls Tryz.prog 32 #[.int .i16 n] w fun e w' => e = .returned (.float .f32 (nrB 8 23 n)) ∧ Below w.heap.size w w' := by
  unfold nrB
  by_cases h0 : n < 0
  · have cW : ∀ W, Below w.heap.size w W → Calls Tryz.prog 118 #[.agg #[.int .i64 8, .int .i64 23], .bool true, .int .u64 (n.natAbs : Int), .int .u8 0] W fun en w' => en = .returned (.tuple #[.int .u64 (sgBits 8 23 n.natAbs 1 true false 0 : Int), .int .u8 (sgFlags 8 23 n.natAbs 1 true 0 : Int), .int .i64 0]) ∧ Below W.heap.size W w' := fun W hW => turnWholes_any 8 23 n.natAbs 0 true W (by decide) (by omega) (by decide) (hT.below hW)
    have hw : IntKind.u64.wrap (-(IntKind.u64.wrap n)) = (n.natAbs : Int) := by rw [IntKind.wrap_u64, IntKind.wrap_u64]; omega
    have hw1 : IntKind.u64.wrap (-n) = (n.natAbs : Int) := by rw [IntKind.wrap_u64]; omega
    have hv : wrap64 n = n := by unfold wrap64; omega
    rw [decide_eq_true h0]
    have hlow := (nrB_low n).2.2.1
    unfold nrB at hlow
    rw [decide_eq_true h0] at hlow
    generalize sgBits 8 23 n.natAbs 1 true false 0 = oB at *
    generalize sgFlags 8 23 n.natAbs 1 true 0 = oG at *
    generalize n.natAbs = N at *
    go_enter Tryz.func32, Tryz.ntmps32
    go_wp2_with fail
    refine (turForm_F32 _ _).mono ?_
    rintro en w1 ⟨rfl, hb1⟩
    go_wp2_with fail
    (with_reducible refine (cW _ hb1).mono ?_)
    rintro en w2 ⟨rfl, hb2⟩
    go_wp2_with fail
    refine (turNative_F32 oB _ hlow).mono ?_
    rintro en w3 ⟨rfl, rfl⟩
    go_wp2
    go_ret
    exact ⟨rfl, next hb1 hb2⟩
  · have cW : ∀ W, Below w.heap.size w W → Calls Tryz.prog 118 #[.agg #[.int .i64 8, .int .i64 23], .bool false, .int .u64 (n.natAbs : Int), .int .u8 0] W fun en w' => en = .returned (.tuple #[.int .u64 (sgBits 8 23 n.natAbs 1 false false 0 : Int), .int .u8 (sgFlags 8 23 n.natAbs 1 false 0 : Int), .int .i64 0]) ∧ Below W.heap.size W w' := fun W hW => turnWholes_any 8 23 n.natAbs 0 false W (by decide) (by omega) (by decide) (hT.below hW)
    have hw : IntKind.u64.wrap n = (n.natAbs : Int) := by rw [IntKind.wrap_u64]; omega
    have hdc : decide (n < 0) = false := decide_eq_false h0
    rw [decide_eq_false h0]
    have hlow := (nrB_low n).2.2.1
    unfold nrB at hlow
    rw [decide_eq_false h0] at hlow
    generalize sgBits 8 23 n.natAbs 1 false false 0 = oB at *
    generalize sgFlags 8 23 n.natAbs 1 false 0 = oG at *
    generalize n.natAbs = N at *
    go_enter Tryz.func32, Tryz.ntmps32
    go_wp2_with fail
    refine (turForm_F32 _ _).mono ?_
    rintro en w1 ⟨rfl, hb1⟩
    go_wp2_with fail
    (with_reducible refine (cW _ hb1).mono ?_)
    rintro en w2 ⟨rfl, hb2⟩
    go_wp2_with fail
    refine (turNative_F32 oB _ hlow).mono ?_
    rintro en w3 ⟨rfl, rfl⟩
    go_wp2
    go_ret
    exact ⟨rfl, next hb1 hb2⟩

set_option maxRecDepth 100000 in
set_option maxHeartbeats 2000000 in
theorem near_W64_int8 (n : Int) (w : World) (h1 : -128 ≤ n) (h2 : n ≤ 127) (hT : Tab w) :
    Calls Tryz.prog 33 #[.int .i8 n] w fun e w' => e = .returned (.float .f64 (nrB 11 52 n)) ∧ Below w.heap.size w w' := by
  unfold nrB
  by_cases h0 : n < 0
  · have cW : ∀ W, Below w.heap.size w W → Calls Tryz.prog 118 #[.agg #[.int .i64 11, .int .i64 52], .bool true, .int .u64 (n.natAbs : Int), .int .u8 0] W fun en w' => en = .returned (.tuple #[.int .u64 (sgBits 11 52 n.natAbs 1 true false 0 : Int), .int .u8 (sgFlags 11 52 n.natAbs 1 true 0 : Int), .int .i64 0]) ∧ Below W.heap.size W w' := fun W hW => turnWholes_any 11 52 n.natAbs 0 true W (by decide) (by omega) (by decide) (hT.below hW)
    have hw : IntKind.u64.wrap (-(IntKind.u64.wrap n)) = (n.natAbs : Int) := by rw [IntKind.wrap_u64, IntKind.wrap_u64]; omega
    have hw1 : IntKind.u64.wrap (-n) = (n.natAbs : Int) := by rw [IntKind.wrap_u64]; omega
    have hv : wrap64 n = n := by unfold wrap64; omega
    rw [decide_eq_true h0]
    generalize sgBits 11 52 n.natAbs 1 true false 0 = oB at *
    generalize sgFlags 11 52 n.natAbs 1 true 0 = oG at *
    generalize n.natAbs = N at *
    go_enter Tryz.func33, Tryz.ntmps33
    go_wp2_with fail
    refine (turForm_W64 _ _).mono ?_
    rintro en w1 ⟨rfl, hb1⟩
    go_wp2_with fail
    (with_reducible refine (cW _ hb1).mono ?_)
    rintro en w2 ⟨rfl, hb2⟩
    go_wp2_with fail
    refine (turNative_W64 oB _).mono ?_
    rintro en w3 ⟨rfl, rfl⟩
    go_wp2
    go_ret
    exact ⟨rfl, next hb1 hb2⟩
  · have cW : ∀ W, Below w.heap.size w W → Calls Tryz.prog 118 #[.agg #[.int .i64 11, .int .i64 52], .bool false, .int .u64 (n.natAbs : Int), .int .u8 0] W fun en w' => en = .returned (.tuple #[.int .u64 (sgBits 11 52 n.natAbs 1 false false 0 : Int), .int .u8 (sgFlags 11 52 n.natAbs 1 false 0 : Int), .int .i64 0]) ∧ Below W.heap.size W w' := fun W hW => turnWholes_any 11 52 n.natAbs 0 false W (by decide) (by omega) (by decide) (hT.below hW)
    have hw : IntKind.u64.wrap n = (n.natAbs : Int) := by rw [IntKind.wrap_u64]; omega
    have hdc : decide (n < 0) = false := decide_eq_false h0
    rw [decide_eq_false h0]
    generalize sgBits 11 52 n.natAbs 1 false false 0 = oB at *
    generalize sgFlags 11 52 n.natAbs 1 false 0 = oG at *
    generalize n.natAbs = N at *
    go_enter Tryz.func33, Tryz.ntmps33
    go_wp2_with fail
    refine (turForm_W64 _ _).mono ?_
    rintro en w1 ⟨rfl, hb1⟩
    go_wp2_with fail
    (with_reducible refine (cW _ hb1).mono ?_)
    rintro en w2 ⟨rfl, hb2⟩
    go_wp2_with fail
    refine (turNative_W64 oB _).mono ?_
    rintro en w3 ⟨rfl, rfl⟩
    go_wp2
    go_ret
    exact ⟨rfl, next hb1 hb2⟩

set_option maxRecDepth 100000 in
set_option maxHeartbeats 2000000 in
theorem near_W32_int8 (n : Int) (w : World) (h1 : -128 ≤ n) (h2 : n ≤ 127) (hT : Tab w) :
    Calls Tryz.prog 34 #[.int .i8 n] w fun e w' => e = .returned (.float .f32 (nrB 8 23 n)) ∧ Below w.heap.size w w' := by
  unfold nrB
  by_cases h0 : n < 0
  · have cW : ∀ W, Below w.heap.size w W → Calls Tryz.prog 118 #[.agg #[.int .i64 8, .int .i64 23], .bool true, .int .u64 (n.natAbs : Int), .int .u8 0] W fun en w' => en = .returned (.tuple #[.int .u64 (sgBits 8 23 n.natAbs 1 true false 0 : Int), .int .u8 (sgFlags 8 23 n.natAbs 1 true 0 : Int), .int .i64 0]) ∧ Below W.heap.size W w' := fun W hW => turnWholes_any 8 23 n.natAbs 0 true W (by decide) (by omega) (by decide) (hT.below hW)
    have hw : IntKind.u64.wrap (-(IntKind.u64.wrap n)) = (n.natAbs : Int) := by rw [IntKind.wrap_u64, IntKind.wrap_u64]; omega
    have hw1 : IntKind.u64.wrap (-n) = (n.natAbs : Int) := by rw [IntKind.wrap_u64]; omega
    have hv : wrap64 n = n := by unfold wrap64; omega
    rw [decide_eq_true h0]
    have hlow := (nrB_low n).2.2.1
    unfold nrB at hlow
    rw [decide_eq_true h0] at hlow
    generalize sgBits 8 23 n.natAbs 1 true false 0 = oB at *
    generalize sgFlags 8 23 n.natAbs 1 true 0 = oG at *
    generalize n.natAbs = N at *
    go_enter Tryz.func34, Tryz.ntmps34
    go_wp2_with fail
    refine (turForm_W32 _ _).mono ?_
    rintro en w1 ⟨rfl, hb1⟩
    go_wp2_with fail
    (with_reducible refine (cW _ hb1).mono ?_)
    rintro en w2 ⟨rfl, hb2⟩
    go_wp2_with fail
    refine (turNative_W32 oB _ hlow).mono ?_
    rintro en w3 ⟨rfl, rfl⟩
    go_wp2
    go_ret
    exact ⟨rfl, next hb1 hb2⟩
  · have cW : ∀ W, Below w.heap.size w W → Calls Tryz.prog 118 #[.agg #[.int .i64 8, .int .i64 23], .bool false, .int .u64 (n.natAbs : Int), .int .u8 0] W fun en w' => en = .returned (.tuple #[.int .u64 (sgBits 8 23 n.natAbs 1 false false 0 : Int), .int .u8 (sgFlags 8 23 n.natAbs 1 false 0 : Int), .int .i64 0]) ∧ Below W.heap.size W w' := fun W hW => turnWholes_any 8 23 n.natAbs 0 false W (by decide) (by omega) (by decide) (hT.below hW)
    have hw : IntKind.u64.wrap n = (n.natAbs : Int) := by rw [IntKind.wrap_u64]; omega
    have hdc : decide (n < 0) = false := decide_eq_false h0
    rw [decide_eq_false h0]
    have hlow := (nrB_low n).2.2.1
    unfold nrB at hlow
    rw [decide_eq_false h0] at hlow
    generalize sgBits 8 23 n.natAbs 1 false false 0 = oB at *
    generalize sgFlags 8 23 n.natAbs 1 false 0 = oG at *
    generalize n.natAbs = N at *
    go_enter Tryz.func34, Tryz.ntmps34
    go_wp2_with fail
    refine (turForm_W32 _ _).mono ?_
    rintro en w1 ⟨rfl, hb1⟩
    go_wp2_with fail
    (with_reducible refine (cW _ hb1).mono ?_)
    rintro en w2 ⟨rfl, hb2⟩
    go_wp2_with fail
    refine (turNative_W32 oB _ hlow).mono ?_
    rintro en w3 ⟨rfl, rfl⟩
    go_wp2
    go_ret
    exact ⟨rfl, next hb1 hb2⟩

set_option maxRecDepth 100000 in
set_option maxHeartbeats 2000000 in
theorem near_F64_uint64 (n : Int) (w : World) (h1 : 0 ≤ n) (h2 : n ≤ 18446744073709551615) (hT : Tab w) :
    Calls Tryz.prog 36 #[.int .u64 n] w fun e w' => e = .returned (.float .f64 (nrB 11 52 n)) ∧ Below w.heap.size w w' := by
  unfold nrB
  have h0 : ¬ n < 0 := by omega
  have cW : ∀ W, Below w.heap.size w W → Calls Tryz.prog 118 #[.agg #[.int .i64 11, .int .i64 52], .bool false, .int .u64 n, .int .u8 0] W fun en w' => en = .returned (.tuple #[.int .u64 (sgBits 11 52 n.natAbs 1 false false 0 : Int), .int .u8 (sgFlags 11 52 n.natAbs 1 false 0 : Int), .int .i64 0]) ∧ Below W.heap.size W w' := fun W hW => by
    have h := turnWholes_any 11 52 n.natAbs 0 false W (by decide) (by omega) (by decide) (hT.below hW)
    rw [show ((n.natAbs : Nat) : Int) = n by omega] at h
    exact h
  have hw : IntKind.u64.wrap n = (n.natAbs : Int) := by rw [IntKind.wrap_u64]; omega
  have hdc : decide (n < 0) = false := decide_eq_false h0
  rw [decide_eq_false h0]
  generalize sgBits 11 52 n.natAbs 1 false false 0 = oB at *
  generalize sgFlags 11 52 n.natAbs 1 false 0 = oG at *
  generalize n.natAbs = N at *
  go_enter Tryz.func36, Tryz.ntmps36
  go_wp2_with fail
  refine (turForm_F64 _ _).mono ?_
  rintro en w1 ⟨rfl, hb1⟩
  go_wp2_with fail
  (with_reducible refine (cW _ hb1).mono ?_)
  rintro en w2 ⟨rfl, hb2⟩
  go_wp2_with fail
  refine (turNative_F64 oB _).mono ?_
  rintro en w3 ⟨rfl, rfl⟩
  go_wp2
  go_ret
  exact ⟨rfl, next hb1 hb2⟩

set_option maxRecDepth 100000 in
set_option maxHeartbeats 2000000 in
theorem near_F32_uint64 (n : Int) (w : World) (h1 : 0 ≤ n) (h2 : n ≤ 18446744073709551615) (hT : Tab w) :
    Calls Tryz.prog 37 #[.int .u64 n] w fun e w' => e = .returned (.float .f32 (nrB 8 23 n)) ∧ Below w.heap.size w w' := by
  unfold nrB
  have h0 : ¬ n < 0 := by omega
  have cW : ∀ W, Below w.heap.size w W → Calls Tryz.prog 118 #[.agg #[.int .i64 8, .int .i64 23], .bool false, .int .u64 n, .int .u8 0] W fun en w' => en = .returned (.tuple #[.int .u64 (sgBits 8 23 n.natAbs 1 false false 0 : Int), .int .u8 (sgFlags 8 23 n.natAbs 1 false 0 : Int), .int .i64 0]) ∧ Below W.heap.size W w' := fun W hW => by
    have h := turnWholes_any 8 23 n.natAbs 0 false W (by decide) (by omega) (by decide) (hT.below hW)
    rw [show ((n.natAbs : Nat) : Int) = n by omega] at h
    exact h
  have hw : IntKind.u64.wrap n = (n.natAbs : Int) := by rw [IntKind.wrap_u64]; omega
  have hdc : decide (n < 0) = false := decide_eq_false h0
  rw [decide_eq_false h0]
  have hlow := (nrB_low n).2.2.1
  unfold nrB at hlow
  rw [decide_eq_false h0] at hlow
  generalize sgBits 8 23 n.natAbs 1 false false 0 = oB at *
  generalize sgFlags 8 23 n.natAbs 1 false 0 = oG at *
  generalize n.natAbs = N at *
  go_enter Tryz.func37, Tryz.ntmps37
  go_wp2_with fail
  refine (turForm_F32 _ _).mono ?_
  rintro en w1 ⟨rfl, hb1⟩
  go_wp2_with fail
  (with_reducible refine (cW _ hb1).mono ?_)
  rintro en w2 ⟨rfl, hb2⟩
  go_wp2_with fail
  refine (turNative_F32 oB _ hlow).mono ?_
  rintro en w3 ⟨rfl, rfl⟩
  go_wp2
  go_ret
  exact ⟨rfl, next hb1 hb2⟩

set_option maxRecDepth 100000 in
set_option maxHeartbeats 2000000 in
theorem near_F64_uint (n : Int) (w : World) (h1 : 0 ≤ n) (h2 : n ≤ 18446744073709551615) (hT : Tab w) :
    Calls Tryz.prog 38 #[.int .u64 n] w fun e w' => e = .returned (.float .f64 (nrB 11 52 n)) ∧ Below w.heap.size w w' := by
  unfold nrB
  have h0 : ¬ n < 0 := by omega
  have cW : ∀ W, Below w.heap.size w W → Calls Tryz.prog 118 #[.agg #[.int .i64 11, .int .i64 52], .bool false, .int .u64 n, .int .u8 0] W fun en w' => en = .returned (.tuple #[.int .u64 (sgBits 11 52 n.natAbs 1 false false 0 : Int), .int .u8 (sgFlags 11 52 n.natAbs 1 false 0 : Int), .int .i64 0]) ∧ Below W.heap.size W w' := fun W hW => by
    have h := turnWholes_any 11 52 n.natAbs 0 false W (by decide) (by omega) (by decide) (hT.below hW)
    rw [show ((n.natAbs : Nat) : Int) = n by omega] at h
    exact h
  have hw : IntKind.u64.wrap n = (n.natAbs : Int) := by rw [IntKind.wrap_u64]; omega
  have hdc : decide (n < 0) = false := decide_eq_false h0
  rw [decide_eq_false h0]
  generalize sgBits 11 52 n.natAbs 1 false false 0 = oB at *
  generalize sgFlags 11 52 n.natAbs 1 false 0 = oG at *
  generalize n.natAbs = N at *
  go_enter Tryz.func38, Tryz.ntmps38
  go_wp2_with fail
  refine (turForm_F64 _ _).mono ?_
  rintro en w1 ⟨rfl, hb1⟩
  go_wp2_with fail
  (with_reducible refine (cW _ hb1).mono ?_)
  rintro en w2 ⟨rfl, hb2⟩
  go_wp2_with fail
  refine (turNative_F64 oB _).mono ?_
  rintro en w3 ⟨rfl, rfl⟩
  go_wp2
  go_ret
  exact ⟨rfl, next hb1 hb2⟩

set_option maxRecDepth 100000 in
set_option maxHeartbeats 2000000 in
theorem near_F32_uint (n : Int) (w : World) (h1 : 0 ≤ n) (h2 : n ≤ 18446744073709551615) (hT : Tab w) :
    Calls Tryz.prog 39 #[.int .u64 n] w fun e w' => e = .returned (.float .f32 (nrB 8 23 n)) ∧ Below w.heap.size w w' := by
  unfold nrB
  have h0 : ¬ n < 0 := by omega
  have cW : ∀ W, Below w.heap.size w W → Calls Tryz.prog 118 #[.agg #[.int .i64 8, .int .i64 23], .bool false, .int .u64 n, .int .u8 0] W fun en w' => en = .returned (.tuple #[.int .u64 (sgBits 8 23 n.natAbs 1 false false 0 : Int), .int .u8 (sgFlags 8 23 n.natAbs 1 false 0 : Int), .int .i64 0]) ∧ Below W.heap.size W w' := fun W hW => by
    have h := turnWholes_any 8 23 n.natAbs 0 false W (by decide) (by omega) (by decide) (hT.below hW)
    rw [show ((n.natAbs : Nat) : Int) = n by omega] at h
    exact h
  have hw : IntKind.u64.wrap n = (n.natAbs : Int) := by rw [IntKind.wrap_u64]; omega
  have hdc : decide (n < 0) = false := decide_eq_false h0
  rw [decide_eq_false h0]
  have hlow := (nrB_low n).2.2.1
  unfold nrB at hlow
  rw [decide_eq_false h0] at hlow
  generalize sgBits 8 23 n.natAbs 1 false false 0 = oB at *
  generalize sgFlags 8 23 n.natAbs 1 false 0 = oG at *
  generalize n.natAbs = N at *
  go_enter Tryz.func39, Tryz.ntmps39
  go_wp2_with fail
  refine (turForm_F32 _ _).mono ?_
  rintro en w1 ⟨rfl, hb1⟩
  go_wp2_with fail
  (with_reducible refine (cW _ hb1).mono ?_)
  rintro en w2 ⟨rfl, hb2⟩
  go_wp2_with fail
  refine (turNative_F32 oB _ hlow).mono ?_
  rintro en w3 ⟨rfl, rfl⟩
  go_wp2
  go_ret
  exact ⟨rfl, next hb1 hb2⟩

set_option maxRecDepth 100000 in
set_option maxHeartbeats 2000000 in
theorem near_F64_yours (n : Int) (w : World) (h1 : 0 ≤ n) (h2 : n ≤ 4294967295) (hT : Tab w) :
    Calls Tryz.prog 40 #[.int .u32 n] w fun e w' => e = .returned (.float .f64 (nrB 11 52 n)) ∧ Below w.heap.size w w' := by
  unfold nrB
  have h0 : ¬ n < 0 := by omega
  have cW : ∀ W, Below w.heap.size w W → Calls Tryz.prog 118 #[.agg #[.int .i64 11, .int .i64 52], .bool false, .int .u64 (n.natAbs : Int), .int .u8 0] W fun en w' => en = .returned (.tuple #[.int .u64 (sgBits 11 52 n.natAbs 1 false false 0 : Int), .int .u8 (sgFlags 11 52 n.natAbs 1 false 0 : Int), .int .i64 0]) ∧ Below W.heap.size W w' := fun W hW => turnWholes_any 11 52 n.natAbs 0 false W (by decide) (by omega) (by decide) (hT.below hW)
  have hw : IntKind.u64.wrap n = (n.natAbs : Int) := by rw [IntKind.wrap_u64]; omega
  have hdc : decide (n < 0) = false := decide_eq_false h0
  rw [decide_eq_false h0]
  generalize sgBits 11 52 n.natAbs 1 false false 0 = oB at *
  generalize sgFlags 11 52 n.natAbs 1 false 0 = oG at *
  generalize n.natAbs = N at *
  go_enter Tryz.func40, Tryz.ntmps40
  go_wp2_with fail
  refine (turForm_F64 _ _).mono ?_
  rintro en w1 ⟨rfl, hb1⟩
  go_wp2_with fail
  (with_reducible refine (cW _ hb1).mono ?_)
  rintro en w2 ⟨rfl, hb2⟩
  go_wp2_with fail
  refine (turNative_F64 oB _).mono ?_
  rintro en w3 ⟨rfl, rfl⟩
  go_wp2
  go_ret
  exact ⟨rfl, next hb1 hb2⟩

set_option maxRecDepth 100000 in
set_option maxHeartbeats 2000000 in
theorem near_F32_uint32 (n : Int) (w : World) (h1 : 0 ≤ n) (h2 : n ≤ 4294967295) (hT : Tab w) :
    Calls Tryz.prog 41 #[.int .u32 n] w fun e w' => e = .returned (.float .f32 (nrB 8 23 n)) ∧ Below w.heap.size w w' := by
  unfold nrB
  have h0 : ¬ n < 0 := by omega
  have cW : ∀ W, Below w.heap.size w W → Calls Tryz.prog 118 #[.agg #[.int .i64 8, .int .i64 23], .bool false, .int .u64 (n.natAbs : Int), .int .u8 0] W fun en w' => en = .returned (.tuple #[.int .u64 (sgBits 8 23 n.natAbs 1 false false 0 : Int), .int .u8 (sgFlags 8 23 n.natAbs 1 false 0 : Int), .int .i64 0]) ∧ Below W.heap.size W w' := fun W hW => turnWholes_any 8 23 n.natAbs 0 false W (by decide) (by omega) (by decide) (hT.below hW)
  have hw : IntKind.u64.wrap n = (n.natAbs : Int) := by rw [IntKind.wrap_u64]; omega
  have hdc : decide (n < 0) = false := decide_eq_false h0
  rw [decide_eq_false h0]
  have hlow := (nrB_low n).2.2.1
  unfold nrB at hlow
  rw [decide_eq_false h0] at hlow
  generalize sgBits 8 23 n.natAbs 1 false false 0 = oB at *
  generalize sgFlags 8 23 n.natAbs 1 false 0 = oG at *
  generalize n.natAbs = N at *
  go_enter Tryz.func41, Tryz.ntmps41
  go_wp2_with fail
  refine (turForm_F32 _ _).mono ?_
  rintro en w1 ⟨rfl, hb1⟩
  go_wp2_with fail
  (with_reducible refine (cW _ hb1).mono ?_)
  rintro en w2 ⟨rfl, hb2⟩
  go_wp2_with fail
  refine (turNative_F32 oB _ hlow).mono ?_
  rintro en w3 ⟨rfl, rfl⟩
  go_wp2
  go_ret
  exact ⟨rfl, next hb1 hb2⟩

set_option maxRecDepth 100000 in
set_option maxHeartbeats 2000000 in
theorem near_F64_uint16 (n : Int) (w : World) (h1 : 0 ≤ n) (h2 : n ≤ 65535) (hT : Tab w) :
    Calls Tryz.prog 42 #[.int .u16 n] w fun e w' => e = .returned (.float .f64 (nrB 11 52 n)) ∧ Below w.heap.size w w' := by
  unfold nrB
  have h0 : ¬ n < 0 := by omega
  have cW : ∀ W, Below w.heap.size w W → Calls Tryz.prog 118 #[.agg #[.int .i64 11, .int .i64 52], .bool false, .int .u64 (n.natAbs : Int), .int .u8 0] W fun en w' => en = .returned (.tuple #[.int .u64 (sgBits 11 52 n.natAbs 1 false false 0 : Int), .int .u8 (sgFlags 11 52 n.natAbs 1 false 0 : Int), .int .i64 0]) ∧ Below W.heap.size W w' := fun W hW => turnWholes_any 11 52 n.natAbs 0 false W (by decide) (by omega) (by decide) (hT.below hW)
  have hw : IntKind.u64.wrap n = (n.natAbs : Int) := by rw [IntKind.wrap_u64]; omega
  have hdc : decide (n < 0) = false := decide_eq_false h0
  rw [decide_eq_false h0]
  generalize sgBits 11 52 n.natAbs 1 false false 0 = oB at *
  generalize sgFlags 11 52 n.natAbs 1 false 0 = oG at *
  generalize n.natAbs = N at *
  go_enter Tryz.func42, Tryz.ntmps42
  go_wp2_with fail
  refine (turForm_F64 _ _).mono ?_
  rintro en w1 ⟨rfl, hb1⟩
  go_wp2_with fail
  (with_reducible refine (cW _ hb1).mono ?_)
  rintro en w2 ⟨rfl, hb2⟩
  go_wp2_with fail
  refine (turNative_F64 oB _).mono ?_
  rintro en w3 ⟨rfl, rfl⟩
  go_wp2
  go_ret
  exact ⟨rfl, next hb1 hb2⟩

set_option maxRecDepth 100000 in
set_option maxHeartbeats 2000000 in
theorem near_F32_uint16 (n : Int) (w : World) (h1 : 0 ≤ n) (h2 : n ≤ 65535) (hT : Tab w) :
    Calls Tryz.prog 43 #[.int .u16 n] w fun e w' => e = .returned (.float .f32 (nrB 8 23 n)) ∧ Below w.heap.size w w' := by
  unfold nrB
  have h0 : ¬ n < 0 := by omega
  have cW : ∀ W, Below w.heap.size w W → Calls Tryz.prog 118 #[.agg #[.int .i64 8, .int .i64 23], .bool false, .int .u64 (n.natAbs : Int), .int .u8 0] W fun en w' => en = .returned (.tuple #[.int .u64 (sgBits 8 23 n.natAbs 1 false false 0 : Int), .int .u8 (sgFlags 8 23 n.natAbs 1 false 0 : Int), .int .i64 0]) ∧ Below W.heap.size W w' := fun W hW => turnWholes_any 8 23 n.natAbs 0 false W (by decide) (by omega) (by decide) (hT.below hW)
  have hw : IntKind.u64.wrap n = (n.natAbs : Int) := by rw [IntKind.wrap_u64]; omega
  have hdc : decide (n < 0) = false := decide_eq_false h0
  rw [decide_eq_false h0]
  have hlow := (nrB_low n).2.2.1
  unfold nrB at hlow
  rw [decide_eq_false h0] at hlow
  generalize sgBits 8 23 n.natAbs 1 false false 0 = oB at *
  generalize sgFlags 8 23 n.natAbs 1 false 0 = oG at *
  generalize n.natAbs = N at *
  go_enter Tryz.func43, Tryz.ntmps43
  go_wp2_with fail
  refine (turForm_F32 _ _).mono ?_
  rintro en w1 ⟨rfl, hb1⟩
  go_wp2_with fail
  (with_reducible refine (cW _ hb1).mono ?_)
  rintro en w2 ⟨rfl, hb2⟩
  go_wp2_with fail
  refine (turNative_F32 oB _ hlow).mono ?_
  rintro en w3 ⟨rfl, rfl⟩
  go_wp2
  go_ret
  exact ⟨rfl, next hb1 hb2⟩

set_option maxRecDepth 100000 in
set_option maxHeartbeats 2000000 in
theorem near_F64_uint8 (n : Int) (w : World) (h1 : 0 ≤ n) (h2 : n ≤ 255) (hT : Tab w) :
    Calls Tryz.prog 44 #[.int .u8 n] w fun e w' => e = .returned (.float .f64 (nrB 11 52 n)) ∧ Below w.heap.size w w' := by
  unfold nrB
  have h0 : ¬ n < 0 := by omega
  have cW : ∀ W, Below w.heap.size w W → Calls Tryz.prog 118 #[.agg #[.int .i64 11, .int .i64 52], .bool false, .int .u64 (n.natAbs : Int), .int .u8 0] W fun en w' => en = .returned (.tuple #[.int .u64 (sgBits 11 52 n.natAbs 1 false false 0 : Int), .int .u8 (sgFlags 11 52 n.natAbs 1 false 0 : Int), .int .i64 0]) ∧ Below W.heap.size W w' := fun W hW => turnWholes_any 11 52 n.natAbs 0 false W (by decide) (by omega) (by decide) (hT.below hW)
  have hw : IntKind.u64.wrap n = (n.natAbs : Int) := by rw [IntKind.wrap_u64]; omega
  have hdc : decide (n < 0) = false := decide_eq_false h0
  rw [decide_eq_false h0]
  generalize sgBits 11 52 n.natAbs 1 false false 0 = oB at *
  generalize sgFlags 11 52 n.natAbs 1 false 0 = oG at *
  generalize n.natAbs = N at *
  go_enter Tryz.func44, Tryz.ntmps44
  go_wp2_with fail
  refine (turForm_F64 _ _).mono ?_
  rintro en w1 ⟨rfl, hb1⟩
  go_wp2_with fail
  (with_reducible refine (cW _ hb1).mono ?_)
  rintro en w2 ⟨rfl, hb2⟩
  go_wp2_with fail
  refine (turNative_F64 oB _).mono ?_
  rintro en w3 ⟨rfl, rfl⟩
  go_wp2
  go_ret
  exact ⟨rfl, next hb1 hb2⟩

set_option maxRecDepth 100000 in
set_option maxHeartbeats 2000000 in
theorem near_F32_uint8 (n : Int) (w : World) (h1 : 0 ≤ n) (h2 : n ≤ 255) (hT : Tab w) :
    Calls Tryz.prog 45 #[.int .u8 n] w fun e w' => e = .returned (.float .f32 (nrB 8 23 n)) ∧ Below w.heap.size w w' := by
  unfold nrB
  have h0 : ¬ n < 0 := by omega
  have cW : ∀ W, Below w.heap.size w W → Calls Tryz.prog 118 #[.agg #[.int .i64 8, .int .i64 23], .bool false, .int .u64 (n.natAbs : Int), .int .u8 0] W fun en w' => en = .returned (.tuple #[.int .u64 (sgBits 8 23 n.natAbs 1 false false 0 : Int), .int .u8 (sgFlags 8 23 n.natAbs 1 false 0 : Int), .int .i64 0]) ∧ Below W.heap.size W w' := fun W hW => turnWholes_any 8 23 n.natAbs 0 false W (by decide) (by omega) (by decide) (hT.below hW)
  have hw : IntKind.u64.wrap n = (n.natAbs : Int) := by rw [IntKind.wrap_u64]; omega
  have hdc : decide (n < 0) = false := decide_eq_false h0
  rw [decide_eq_false h0]
  have hlow := (nrB_low n).2.2.1
  unfold nrB at hlow
  rw [decide_eq_false h0] at hlow
  generalize sgBits 8 23 n.natAbs 1 false false 0 = oB at *
  generalize sgFlags 8 23 n.natAbs 1 false 0 = oG at *
  generalize n.natAbs = N at *
  go_enter Tryz.func45, Tryz.ntmps45
  go_wp2_with fail
  refine (turForm_F32 _ _).mono ?_
  rintro en w1 ⟨rfl, hb1⟩
  go_wp2_with fail
  (with_reducible refine (cW _ hb1).mono ?_)
  rintro en w2 ⟨rfl, hb2⟩
  go_wp2_with fail
  refine (turNative_F32 oB _ hlow).mono ?_
  rintro en w3 ⟨rfl, rfl⟩
  go_wp2
  go_ret
  exact ⟨rfl, next hb1 hb2⟩

set_option maxRecDepth 100000 in
set_option maxHeartbeats 4000000 in
theorem refNear8_any (E F B t : Nat) (n : Int) (w : World) (h : E = 11 ∧ F = 52 ∨ E = 8 ∧ F = 23) (hI : Iz 23 w B t n) (hn : n.natAbs < 18446744073709551616) (hT : Tab w) :
    Calls Tryz.prog 132 #[.agg #[.int .i64 (E : Int), .int .i64 (F : Int)], .pointer (some ⟨t, 0, none⟩)] w fun en w' => en = .returned (.int .u64 (nrB E F n : Int)) ∧ Below w.heap.size w w' := by
  obtain ⟨s1, s2, s3⟩ := sg_natAbs n
  have l1 := ln_small2 (A := n.natAbs) hn
  obtain ⟨w1, hw1⟩ : ∃ w1 : World, w1 = w.alloc (.cells #[.int .i64 (E : Int), .int .i64 (F : Int)] 31) := ⟨_, rfl⟩
  have V1 : Below w.heap.size w w1 := hw1 ▸ more (Below.refl _ _) _
  have b0 : w1.cell? ⟨w.heap.size, 0, none⟩ = some (.int .i64 (E : Int)) := by rw [hw1]; simp
  have b1 : w1.cell? ⟨w.heap.size, 1, none⟩ = some (.int .i64 (F : Int)) := by rw [hw1]; simp
  have cR : ∀ W B t, Below w.heap.size w W → Rq 23 W B t ((n : Int) : Rat) → Calls Tryz.prog 228 #[.agg #[.int .i64 (E : Int), .int .i64 (F : Int)], .pointer (some ⟨t, 0, none⟩), .bool false, .int .u8 0] W (fun en w' => en = .returned (.tuple #[.int .u64 (nrB E F n : Int), .int .u8 (sgFlags E F n.natAbs 1 (decide (n < 0)) 0 : Int)]) ∧ Below W.heap.size W w') := fun W B t hW hQ => by
    have := nbRat_any B t E F 0 ((n : Int) : Rat) false W hQ (by omega) (by omega) (by omega) (by omega) (by omega) (by rw [s1]; omega) (by rw [s2, ln_one]; decide) (hT.below hW)
    rwa [s1, s2, s3] at this
  have cI : ∀ W b, Below w.heap.size w W → Res3 W b → Calls Tryz.prog 229 #[.pointer (some ⟨b, 0, none⟩), .pointer (some ⟨t, 0, none⟩)] W (StQ 23 b b ((n : Int) : Rat) W) := fun W b hW hR => nbRSetInt_any b b B t n W hR (Nat.le_refl _) (hI.stay hW) (by omega)
  clear s1 s2 s3 hT
  generalize nrB E F n = oB at *
  generalize sgFlags E F n.natAbs 1 (decide (n < 0)) 0 = oG at *
  go_enter Tryz.func132, Tryz.ntmps132
  go_upto_region 1 with fail
  rw [← hw1]
  clear hw1
  have kS : ∀ w' : World, Below w1.heap.size w1 w' → (w'.cell? ⟨w.heap.size, 0, none⟩ = some (.int .i64 (E : Int)) ∧ w'.cell? ⟨w.heap.size, 1, none⟩ = some (.int .i64 (F : Int)) ∧ Below w1.heap.size w1 w') := fun w' hb => ⟨cellStay b0 hb, cellStay b1 hb, hb⟩
  go_region_held3 (fun w' => w'.cell? ⟨w.heap.size, 0, none⟩ = some (.int .i64 (E : Int)) ∧ w'.cell? ⟨w.heap.size, 1, none⟩ = some (.int .i64 (F : Int)) ∧ Below w1.heap.size w1 w')
    ((refine kS _ ?_; (repeat (with_reducible (first | exact VB | exact VA | exact Below.refl _ _ | refine Below.drew ?_ | refine more ?_ _))); done))
    (first
      | (go_at_call 229; (with_reducible refine (cI _ _ ?_ ?_).mono ?_); (first | exact next V1 (more (Below.refl w1.heap.size w1).drew _) | exact next V1 (more (Below.refl w1.heap.size w1) _)); (first | exact res_new w1.drew _ _ _ _ | exact res_new w1 _ _ _ _); rintro en wA ⟨rfl, QA, hgA⟩; have VA : Below w1.heap.size w1 wA := (by first | exact (more (Below.refl w1.heap.size w1).drew _).grown hgA (more (Below.refl w1.heap.size w1).drew _).size (fun k hk => by cases hk; exact Nat.le_refl _) | exact (more (Below.refl w1.heap.size w1) _).grown hgA (more (Below.refl w1.heap.size w1) _).size (fun k hk => by cases hk; exact Nat.le_refl _)))
      | (go_at_call 228; (with_reducible refine (cR _ _ _ (next V1 VA) QA).mono ?_); rintro en wB ⟨rfl, hbB⟩; have VB := next VA hbB))
  all_goals go_wp2
  all_goals go_ret
  all_goals exact ⟨rfl, next V1 VB⟩

set_option maxRecDepth 100000 in
set_option maxHeartbeats 4000000 in
theorem signed_any (n : Int) (w : World) (h1 : -9223372036854775808 ≤ n) (h2 : n ≤ 9223372036854775807) (hT : Tab w) :
    Calls Tryz.prog 26 #[.int .i64 n, .float .f64 (nrB 11 52 n), .float .f32 (nrB 8 23 n)] w fun e w' => e = .returned (.bool true) ∧ Below w.heap.size w w' := by
  obtain ⟨l1, l2, l3, l4⟩ := nrB_low n
  have cA := fun W => wideBits_t (nrB 11 52 n) W l1
  have cB := fun W => narrowBits_t (nrB 8 23 n) W l3
  rw [l2] at cA
  rw [l4] at cB
  have cX : ∀ W B t, Below w.heap.size w W → Iz 23 W B t n → Calls Tryz.prog 132 #[.agg #[.int .i64 11, .int .i64 52], .pointer (some ⟨t, 0, none⟩)] W fun en w' => en = .returned (.int .u64 (nrB 11 52 n : Int)) ∧ Below W.heap.size W w' := fun W B t hW hI => refNear8_any 11 52 B t n W (.inl ⟨rfl, rfl⟩) hI (by omega) (hT.below hW)
  have cY : ∀ W B t, Below w.heap.size w W → Iz 23 W B t n → Calls Tryz.prog 132 #[.agg #[.int .i64 8, .int .i64 23], .pointer (some ⟨t, 0, none⟩)] W fun en w' => en = .returned (.int .u64 (nrB 8 23 n : Int)) ∧ Below W.heap.size W w' := fun W B t hW hI => refNear8_any 8 23 B t n W (.inr ⟨rfl, rfl⟩) hI (by omega) (hT.below hW)
  clear hT l1 l2 l3 l4
  generalize nrB 11 52 n = p at *
  generalize nrB 8 23 n = q at *
  have cN := fun W => nbNewZ_any n W ⟨h1, h2⟩
  go_enter Tryz.func26, Tryz.ntmps26
  go_wp2_with fail
  (with_reducible refine (cN _).mono ?_)
  rintro en w1 ⟨t, rfl, I1, hb1⟩
  go_wp2_with fail
  (with_reducible refine (cA _).mono ?_)
  rintro en w2 ⟨rfl, hb2⟩
  replace I1 := I1.stay hb2
  have V2 := next hb1 hb2
  go_wp2_with fail
  refine (numeralref08_Double_t _).mono ?_
  rintro en w3 ⟨rfl, hb3⟩
  replace I1 := I1.stay hb3
  have V3 := next V2 hb3
  go_wp2_with fail
  (with_reducible refine (cX _ _ _ V3 I1).mono ?_)
  rintro en w4 ⟨rfl, hb4⟩
  replace I1 := I1.stay hb4
  have V4 := next V3 hb4
  go_wp2_with fail
  (with_reducible refine (cB _).mono ?_)
  rintro en w5 ⟨rfl, hb5⟩
  replace I1 := I1.stay hb5
  have V5 := next V4 hb5
  go_wp2_with fail
  refine (numeralref08_Single_t _).mono ?_
  rintro en w6 ⟨rfl, hb6⟩
  replace I1 := I1.stay hb6
  have V6 := next V5 hb6
  go_wp2_with fail
  (with_reducible refine (cY _ _ _ V6 I1).mono ?_)
  rintro en w7 ⟨rfl, hb7⟩
  have V7 := next V6 hb7
  go_wp2
  go_ret
  exact ⟨rfl, V7⟩

set_option maxRecDepth 100000 in
set_option maxHeartbeats 4000000 in
theorem plain_any (n : Int) (w : World) (h1 : 0 ≤ n) (h2 : n ≤ 18446744073709551615) (hT : Tab w) :
    Calls Tryz.prog 35 #[.int .u64 n, .float .f64 (nrB 11 52 n), .float .f32 (nrB 8 23 n)] w fun e w' => e = .returned (.bool true) ∧ Below w.heap.size w w' := by
  obtain ⟨l1, l2, l3, l4⟩ := nrB_low n
  have cA := fun W => wideBits_t (nrB 11 52 n) W l1
  have cB := fun W => narrowBits_t (nrB 8 23 n) W l3
  rw [l2] at cA
  rw [l4] at cB
  have cX : ∀ W B t, Below w.heap.size w W → Iz 23 W B t n → Calls Tryz.prog 132 #[.agg #[.int .i64 11, .int .i64 52], .pointer (some ⟨t, 0, none⟩)] W fun en w' => en = .returned (.int .u64 (nrB 11 52 n : Int)) ∧ Below W.heap.size W w' := fun W B t hW hI => refNear8_any 11 52 B t n W (.inl ⟨rfl, rfl⟩) hI (by omega) (hT.below hW)
  have cY : ∀ W B t, Below w.heap.size w W → Iz 23 W B t n → Calls Tryz.prog 132 #[.agg #[.int .i64 8, .int .i64 23], .pointer (some ⟨t, 0, none⟩)] W fun en w' => en = .returned (.int .u64 (nrB 8 23 n : Int)) ∧ Below W.heap.size W w' := fun W B t hW hI => refNear8_any 8 23 B t n W (.inr ⟨rfl, rfl⟩) hI (by omega) (hT.below hW)
  clear hT l1 l2 l3 l4
  generalize nrB 11 52 n = p at *
  generalize nrB 8 23 n = q at *
  obtain ⟨k, rfl⟩ : ∃ k : Nat, n = (k : Int) := ⟨n.toNat, by omega⟩
  go_enter Tryz.func35, Tryz.ntmps35
  go_wp2_with fail
  refine (nbSetUint64_any w.heap.size w.heap.size k _ (zc_new w _ _ _) (by simp) (by omega)).mono ?_
  rintro en w1 hS
  obtain ⟨t, rfl, I1, hb1⟩ := hS.mk
  go_wp2_with fail
  (with_reducible refine (cA _).mono ?_)
  rintro en w2 ⟨rfl, hb2⟩
  replace I1 := I1.stay hb2
  have V2 := next hb1 hb2
  go_wp2_with fail
  refine (numeralref08_Double_t _).mono ?_
  rintro en w3 ⟨rfl, hb3⟩
  replace I1 := I1.stay hb3
  have V3 := next V2 hb3
  go_wp2_with fail
  (with_reducible refine (cX _ _ _ V3 I1).mono ?_)
  rintro en w4 ⟨rfl, hb4⟩
  replace I1 := I1.stay hb4
  have V4 := next V3 hb4
  go_wp2_with fail
  (with_reducible refine (cB _).mono ?_)
  rintro en w5 ⟨rfl, hb5⟩
  replace I1 := I1.stay hb5
  have V5 := next V4 hb5
  go_wp2_with fail
  refine (numeralref08_Single_t _).mono ?_
  rintro en w6 ⟨rfl, hb6⟩
  replace I1 := I1.stay hb6
  have V6 := next V5 hb6
  go_wp2_with fail
  (with_reducible refine (cY _ _ _ V6 I1).mono ?_)
  rintro en w7 ⟨rfl, hb7⟩
  have V7 := next V6 hb7
  go_wp2
  go_ret
  exact ⟨rfl, V7⟩

end Go.Proofs.YtaddnoneoflimaaGreatDoor

