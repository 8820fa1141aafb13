/-
  The walks of numeral/turn: wholes, FromInt; of numeralref08: FromInt.
-/
import Derived.Test.YtklibjdhlmdkpaaGreatDoorQTurBase
import Derived.Test.YtklibjdhlmdkpaaGreatDoorQRTurB
namespace Go.Proofs.YtklibjdhlmdkpaaGreatDoor
open Go.RowKit Go.Lb
set_option maxRecDepth 100000
set_option maxHeartbeats 4000000
attribute [local go_sem] Go.World.cell?_alloc_some
theorem dy_whole {E F n m : Nat} (hf : formE E F = 0) (hn : n < 18446744073709551616) (hm : m < 5) (s : Bool) :
  mkE (limbs n) 0 = 0 ∧ dyErr E F (mkS s (limbs n) 0) (limbs (mkN (limbs n) 0)) (mkX (limbs n) 0) m = 0 ∧
  dyBits E F (mkS s (limbs n) 0) (limbs (mkN (limbs n) 0)) (mkX (limbs n) 0) false m = sgBits E F n 1 s false m ∧
  dyFlags E F (mkS s (limbs n) 0) (limbs (mkN (limbs n) 0)) (mkX (limbs n) 0) m = sgFlags E F n 1 s m ∧ (limbs (mkN (limbs n) 0)).length ≤ 2 := by
 obtain ⟨e1, e2, e3, e4⟩ := formE_ok hf
 have hc : chk (limbs n) = 0 := chk_small (Nat.lt_of_lt_of_le hn (by decide +kernel))
 by_cases h0 : n = 0
 ·subst h0
  obtain ⟨m1, m2⟩ := mk_zero (x := 0) hc (by rw [val_limbs'])
  obtain ⟨m3, m4, m5⟩ := mk_no s m1
  rw [m2, m3, m4, m5]
  have hd : dchk false (limbs 0) 0 = 0 := by decide +kernel
  obtain ⟨d1, d2, d3⟩ := dy_up (n := 0) (X := 0) (s := false) hf hd hm (by decide) (by decide) false
  refine ⟨rfl, d1, ?_, ?_, by decide⟩
  ·rw [d2]
   unfold sgBits upN
   rw [Nat.zero_mul, if_pos rfl, if_pos rfl]
  ·rw [d3]
   unfold sgFlags upN
   rw [Nat.zero_mul, if_pos rfl, if_pos rfl]
 ·obtain ⟨k, hk⟩ := tz_spec h0
  have ht : tz n ≤ 63 := by
   have h5 := two_pow_tz_le h0
   have h6 : 2 ^ tz n < 2 ^ 64 := Nat.lt_of_le_of_lt h5 hn
   have := (Nat.pow_lt_pow_iff_right (by decide : 1 < 2)).1 h6
   omega
  have hB : mkB (limbs n) 0 = true := by
   unfold mkB
   rw [val_limbs']
   exact decide_eq_true ⟨hc, h0, by omega, by omega, by omega, by omega⟩
  obtain ⟨m1, m2, m3, m4⟩ := mk_yes s hB
  rw [val_limbs'] at m1 m2
  have hd : n / 2 ^ tz n = 2 * k + 1 := by
   conv => lhs; arg 1; rw [hk]
   exact Nat.mul_div_cancel_left _ (Nat.two_pow_pos _)
  have hN : n = (2 * k + 1) * 2 ^ tz n := by rw [← hd, Nat.div_mul_cancel]; exact ⟨2 * k + 1, hk⟩
  rw [m1, m2, m3, m4, hd, Int.zero_add]
  have hkn : 2 * k + 1 < 18446744073709551616 := by rw [← hd]; exact Nat.lt_of_le_of_lt (Nat.div_le_self _ _) hn
  have hdc : dchk s (limbs (2 * k + 1)) (tz n : Int) = 0 := by
   obtain ⟨o1, o2⟩ := odd_low (n := 2 * k + 1) (by omega)
   have hc1 : chk (limbs (2 * k + 1)) = 0 := chk_small (Nat.lt_of_lt_of_le hkn (by decide +kernel))
   have h2 := two_odd (neg := s) (x := (tz n : Int)) hc1 o2 (by omega) (by omega)
   unfold twoB at h2
   rw [decide_eq_true o1] at h2
   exact of_decide_eq_true h2
  obtain ⟨d1, d2, d3⟩ := dy_up (n := 2 * k + 1) (X := (tz n : Int)) (s := s) hf hdc hm (by omega) (by omega) false
  have u1 : upN (2 * k + 1) (tz n : Int) = n := by unfold upN; rw [Int.toNat_natCast]; exact hN.symm
  have u2 : upD (tz n : Int) = 1 := by unfold upD; rw [show (-(tz n : Int)).toNat = 0 by omega]
  rw [u1, u2] at d2 d3
  exact ⟨rfl, d1, d2, d3, ln_small2 hkn⟩
theorem turnWholes_any (E F n m : Nat) (s : Bool) (w : World) (hf : formE E F = 0) (hn : n < 18446744073709551616) (hm : m < 5) (hT : Tab w) :
  Calls Tryz.prog 92 #[.agg #[.int .i64 E, .int .i64 F], .bool s, .int .u64 n, .int .u8 m] w fun en w' => en = .returned (.tuple #[.int .u64 (sgBits E F n 1 s false m : Int), .int .u8 (sgFlags E F n 1 s m : Int), .int .i64 0]) ∧ Below w.heap.size w w' := by
 have B := box2_new w (.int .i64 E) (.int .i64 F) 24
 have hW := more (Below.refl w.heap.size w) (.cells #[.int .i64 E, .int .i64 F] 24)
 have ⟨a0, a1⟩ := B
 obtain ⟨q1, q2, q3, q4, q5⟩ := dy_whole hf hn hm s
 rw [← q3, ← q4]
 have cO := fun W => natOf_any n W hn
 have cM : ∀ W ao k c, Below w.heap.size w W → Sl W ao k c (limbs n) → Calls Tryz.prog 171 #[.bool s, .agg #[.slice ao k c], .int .i64 0] W _ := fun W ao k c hW hS => exMake_any s ao k c (limbs n) 0 W hS (hT.below hW)
 unfold Made at cM
 rw [q1] at cM
 have cD : ∀ W ao k c, Sl W ao k c (limbs (mkN (limbs n) 0)) → Calls Tryz.prog 88 #[.agg #[.int .i64 E, .int .i64 F], .agg #[.bool (mkS s (limbs n) 0), .slice ao k c, .int .i64 (mkX (limbs n) 0)], .bool false, .int .u8 m] W _ := fun W ao k c hS => rdDyadic_any ao k c m (E : Int) (F : Int) (mkX (limbs n) 0) (mkS s (limbs n) 0) false _ W hS (by rw [← hS.len]; omega)
 rw [q2] at cD
 clear q1 q2 q3 q4 q5
 generalize dyBits E F (mkS s (limbs n) 0) (limbs (mkN (limbs n) 0)) (mkX (limbs n) 0) false m = oB at *
 generalize dyFlags E F (mkS s (limbs n) 0) (limbs (mkN (limbs n) 0)) (mkX (limbs n) 0) m = oG at *
 generalize mkS s (limbs n) 0 = ms at *
 generalize mkX (limbs n) 0 = mx at *
 generalize limbs (mkN (limbs n) 0) = xs at *
 go_enter Tryz.func92, Tryz.ntmps92
 go_wp2_with fail
 refine (cO _).mono ?_
 rintro en w1 ⟨ao, k, c, rfl, F1, hb1⟩
 have S1 := F1.sl
 have V1 := next hW hb1
 have B1 := B.stay hb1
 clear F1 a0 a1 B hW hb1 cO
 go_wp2_with fail
 refine (cM _ _ _ _ V1 S1).mono ?_
 rintro en w2 ⟨bo, j, d, rfl, F2, hb2⟩
 have V2 := more (next V1 hb2) (.cells #[.bool ms, .slice bo j d, .int .i64 mx] 113)
 have B2 := (B1.stay hb2).alloc (.cells #[.bool ms, .slice bo j d, .int .i64 mx] 113)
 have ⟨b0, b1⟩ := B2
 have ⟨x0, x1, x2, _, _, _⟩ := box3_new w2 (.bool ms) (.slice bo j d) (.int .i64 mx) 113
 have S2 := (F2.alloc (.cells #[.bool ms, .slice bo j d, .int .i64 mx] 113)).sl
 clear F2 B1 V1 S1 hb2 cM
 go_wp2_with fail
 refine (cD _ _ _ _ S2).mono ?_
 rintro en w3 ⟨rfl, hb3⟩
 have V3 := next V2 hb3
 clear S2 V2 hb3 x0 x1 x2 b0 b1 B2
 go_wp2
 go_ret3
 exact ⟨rfl, V3⟩
def fiE (e f : Int) (m : Nat) : Int := if formE e f ≠ 0 then 5 else if 4 < m then 7 else 0
def fiB (e f n : Int) (m : Nat) : Nat := if fiE e f m = 0 then sgBits e.toNat f.toNat n.natAbs 1 (decide (n < 0)) false m else 0
def fiG (e f n : Int) (m : Nat) : Nat := if fiE e f m = 0 then sgFlags e.toNat f.toNat n.natAbs 1 (decide (n < 0)) m else 0
theorem turnFromInt_any (e f n : Int) (m : Nat) (w : World) (h1 : -9223372036854775808 ≤ n) (h2 : n ≤ 9223372036854775807) (hT : Tab w) :
  Calls Tryz.prog 17 #[.agg #[.int .i64 e, .int .i64 f], .int .i64 n, .int .u8 m] w fun en w' => en = .returned (.tuple #[.int .u64 (fiB e f n m : Int), .int .u8 (fiG e f n m : Int), .int .i64 (fiE e f m)]) ∧ Below w.heap.size w w' := by
 have B := box2_new w (.int .i64 e) (.int .i64 f) 24
 have hW := more (Below.refl w.heap.size w) (.cells #[.int .i64 e, .int .i64 f] 24)
 have ⟨a0, a1⟩ := B
 have cF := fun W => formCheck_any e f W
 unfold fiB fiG
 by_cases hf : formE e f = 0
 ·rw [hf] at cF
  by_cases hm : 4 < m
  ·have hz : fiE e f m = 7 := by unfold fiE; rw [if_neg (by simp [hf]), if_pos hm]
   have hm4 : (m : Int) > 4 := by omega
   rw [hz, if_neg (by decide), if_neg (by decide)]
   clear hz
   go_enter Tryz.func17, Tryz.ntmps17
   go_wp2_with fail
   refine (cF _).mono ?_
   rintro en w1 ⟨rfl, hb1⟩
   have V1 := next hW hb1
   clear hW hb1 a0 a1 B
   go_wp2
   go_ret3
   exact ⟨rfl, V1⟩
  ·have hz : fiE e f m = 0 := by unfold fiE; rw [if_neg (by simp [hf]), if_neg hm]
   have hm4 : ¬ (m : Int) > 4 := by omega
   rw [hz, if_pos rfl, if_pos rfl]
   obtain ⟨e1, e2, e3, e4⟩ := formE_ok hf
   obtain ⟨E, rfl⟩ : ∃ E : Nat, e = (E : Int) := ⟨e.toNat, by omega⟩
   obtain ⟨F, rfl⟩ : ∃ F : Nat, f = (F : Int) := ⟨f.toNat, by omega⟩
   rw [Int.toNat_natCast, Int.toNat_natCast]
   by_cases h0 : n < 0
   ·have cW : ∀ W, Below w.heap.size w W → Calls Tryz.prog 92 #[.agg #[.int .i64 E, .int .i64 F], .bool true, .int .u64 (n.natAbs : Int), .int .u8 m] W _ := fun W hW => turnWholes_any E F n.natAbs m true W hf (by omega) (by omega) (hT.below hW)
    have hw : IntKind.u64.wrap (-(IntKind.u64.wrap n)) = (n.natAbs : Int) := by rw [IntKind.wrap_u64, IntKind.wrap_u64]; omega
    have hw1 : IntKind.u64.wrap (-n) = (n.natAbs : Int) := by rw [IntKind.wrap_u64]; omega
    rw [decide_eq_true h0]
    generalize sgBits E F n.natAbs 1 true false m = oB at *
    generalize sgFlags E F n.natAbs 1 true m = oG at *
    generalize n.natAbs = N at *
    clear hz
    go_enter Tryz.func17, Tryz.ntmps17
    go_wp2_with fail
    refine (cF _).mono ?_
    rintro en w1 ⟨rfl, hb1⟩
    have V1 := next hW hb1
    have ⟨b0, b1⟩ := B.stay hb1
    clear hW hb1 a0 a1 B
    go_wp2_with fail
    (with_reducible refine (cW _ V1).mono ?_)
    rintro en w2 ⟨rfl, hb2⟩
    have V2 := next V1 hb2
    clear V1 hb2 b0 b1
    go_wp2
    go_ret3
    exact ⟨rfl, V2⟩
   ·have cW : ∀ W, Below w.heap.size w W → Calls Tryz.prog 92 #[.agg #[.int .i64 E, .int .i64 F], .bool false, .int .u64 (n.natAbs : Int), .int .u8 m] W _ := fun W hW => turnWholes_any E F n.natAbs m false W hf (by omega) (by omega) (hT.below hW)
    have hw : IntKind.u64.wrap n = (n.natAbs : Int) := by rw [IntKind.wrap_u64]; omega
    rw [decide_eq_false h0]
    have hdc : decide (n < 0) = false := decide_eq_false h0
    generalize sgBits E F n.natAbs 1 false false m = oB at *
    generalize sgFlags E F n.natAbs 1 false m = oG at *
    generalize n.natAbs = N at *
    clear hz
    go_enter Tryz.func17, Tryz.ntmps17
    go_wp2_with fail
    refine (cF _).mono ?_
    rintro en w1 ⟨rfl, hb1⟩
    have V1 := next hW hb1
    have ⟨b0, b1⟩ := B.stay hb1
    clear hW hb1 a0 a1 B
    go_wp2_with fail
    (with_reducible refine (cW _ V1).mono ?_)
    rintro en w2 ⟨rfl, hb2⟩
    have V2 := next V1 hb2
    clear V1 hb2 b0 b1
    go_wp2
    go_ret3
    exact ⟨rfl, V2⟩
 ·have h5 : formE e f = 5 := by unfold formE at hf ⊢; split at hf <;> simp_all
  have hz : fiE e f m = 5 := by unfold fiE; rw [if_pos hf]
  rw [h5] at cF
  rw [hz, if_neg (by decide), if_neg (by decide)]
  clear hz hf
  go_enter Tryz.func17, Tryz.ntmps17
  go_wp2_with fail
  refine (cF _).mono ?_
  rintro en w1 ⟨rfl, hb1⟩
  have V1 := next hW hb1
  clear hW hb1 a0 a1 B
  go_wp2
  go_ret3
  exact ⟨rfl, V1⟩
end Go.Proofs.YtklibjdhlmdkpaaGreatDoor
