/-
  The walks of numeral/turn: wholes, FromInt; of numeralref08: FromInt.
-/
import Derived.Test.YtaddnoneoflimaaGreatDoorQbTBigL
import Derived.Test.YtaddnoneoflimaaGreatDoorQbTMT11
import Derived.Deep.RegionWith
import Derived.Deep.CutBlock
import Derived.Deep.Cut
import Derived.Deep.RegionHeld3
import Derived.Deep.CutRange
import Derived.StillTailTactics
import Derived.Deep.DrawnRows
import Derived.Test.YtaddnoneoflimaaGreatDoorQbTMT21
import Derived.Test.YtaddnoneoflimaaGreatDoorQbTBase
import Derived.Test.YtaddnoneoflimaaGreatDoorQbTMT26
import Derived.Test.YtaddnoneoflimaaGreatDoorQbTRdG
import Derived.BigQuiet
import Derived.Deep.QuietTactic
import Derived.Test.YtaddnoneoflimaaGreatDoorQbTTurA
import Derived.Laws.Externs
import Derived.WalkLawsBesides
import Derived.Test.YtaddnoneoflimaaGreatDoorQbTMT20
namespace Go.Proofs.YtaddnoneoflimaaGreatDoor

open Go.RowKit Go.Lb

attribute [local go_sem] Go.World.cell?_alloc_some

/-- A whole number, in lowest terms as a dyadic, rounds as it does itself. -/
theorem dy_whole {E F n m : Nat} (hf : formE (E : Int) (F : Int) = 0) (hn : n < 18446744073709551616) (hm : m < 5) (s : Bool) :
    mkE (limbs n) 0 = 0 ∧ dyErr (E : Int) (F : Int) (mkS s (limbs n) 0) (limbs (mkN (limbs n) 0)) (mkX (limbs n) 0) m = 0 ∧
    dyBits (E : Int) (F : Int) (mkS s (limbs n) 0) (limbs (mkN (limbs n) 0)) (mkX (limbs n) 0) false m = sgBits E F n 1 s false m ∧
    dyFlags (E : Int) (F : Int) (mkS s (limbs n) 0) (limbs (mkN (limbs n) 0)) (mkX (limbs n) 0) m = sgFlags E F n 1 s m ∧ (limbs (mkN (limbs n) 0)).length ≤ 2 := by
  obtain ⟨e1, e2, e3, e4⟩ := formE_ok hf
  have hc : chk (limbs n) = 0 := chk_small (Nat.lt_of_lt_of_le hn (by decide +kernel))
  by_cases h0 : n = 0
  · subst h0
    obtain ⟨m1, m2⟩ := mk_zero (x := 0) hc (by rw [val_limbs'])
    obtain ⟨m3, m4, m5⟩ := mk_no s m1
    rw [m2, m3, m4, m5]
    have hd : dchk false (limbs 0) 0 = 0 := by decide +kernel
    obtain ⟨d1, d2, d3⟩ := dy_up (n := 0) (X := 0) (s := false) hf hd hm (by decide) (by decide) false
    refine ⟨rfl, d1, ?_, ?_, by decide⟩
    · rw [d2]
      unfold sgBits upN
      rw [Nat.zero_mul, if_pos rfl, if_pos rfl]
    · rw [d3]
      unfold sgFlags upN
      rw [Nat.zero_mul, if_pos rfl, if_pos rfl]
  · obtain ⟨k, hk⟩ := tz_spec h0
    have ht : tz n ≤ 63 := by
      have h5 := two_pow_tz_le h0
      have h6 : 2 ^ tz n < 2 ^ 64 := Nat.lt_of_le_of_lt h5 hn
      have := (Nat.pow_lt_pow_iff_right (by decide : 1 < 2)).1 h6
      omega
    have hB : mkB (limbs n) 0 = true := by
      unfold mkB
      rw [val_limbs']
      exact decide_eq_true ⟨hc, h0, by omega, by omega, by omega, by omega⟩
    obtain ⟨m1, m2, m3, m4⟩ := mk_yes s hB
    rw [val_limbs'] at m1 m2
    have hd : n / 2 ^ tz n = 2 * k + 1 := by
      conv => lhs; arg 1; rw [hk]
      exact Nat.mul_div_cancel_left _ (Nat.two_pow_pos _)
    have hN : n = (2 * k + 1) * 2 ^ tz n := by rw [← hd, Nat.div_mul_cancel]; exact ⟨2 * k + 1, hk⟩
    rw [m1, m2, m3, m4, hd, Int.zero_add]
    have hkn : 2 * k + 1 < 18446744073709551616 := by rw [← hd]; exact Nat.lt_of_le_of_lt (Nat.div_le_self _ _) hn
    have hdc : dchk s (limbs (2 * k + 1)) (tz n : Int) = 0 := by
      obtain ⟨o1, o2⟩ := odd_low (n := 2 * k + 1) (by omega)
      have hc1 : chk (limbs (2 * k + 1)) = 0 := chk_small (Nat.lt_of_lt_of_le hkn (by decide +kernel))
      have h2 := two_odd (neg := s) (x := (tz n : Int)) hc1 o2 (by omega) (by omega)
      unfold twoB at h2
      rw [decide_eq_true o1] at h2
      exact of_decide_eq_true h2
    obtain ⟨d1, d2, d3⟩ := dy_up (n := 2 * k + 1) (X := (tz n : Int)) (s := s) hf hdc hm (by omega) (by omega) false
    have u1 : upN (2 * k + 1) (tz n : Int) = n := by unfold upN; rw [Int.toNat_natCast]; exact hN.symm
    have u2 : upD (tz n : Int) = 1 := by unfold upD; rw [show (-(tz n : Int)).toNat = 0 by omega]
    rw [u1, u2] at d2 d3
    exact ⟨rfl, d1, d2, d3, ln_small2 hkn⟩

set_option maxRecDepth 100000 in
set_option maxHeartbeats 2000000 in
theorem turnWholes_any (E F n m : Nat) (s : Bool) (w : World) (hf : formE (E : Int) (F : Int) = 0) (hn : n < 18446744073709551616) (hm : m < 5) (hT : Tab w) :
    Calls Tryz.prog 118 #[.agg #[.int .i64 (E : Int), .int .i64 (F : Int)], .bool s, .int .u64 (n : Int), .int .u8 (m : Int)] w fun en w' => en = .returned (.tuple #[.int .u64 (sgBits E F n 1 s false m : Int), .int .u8 (sgFlags E F n 1 s m : Int), .int .i64 0]) ∧ Below w.heap.size w w' := by
  have B := box2_new w (.int .i64 (E : Int)) (.int .i64 (F : Int)) 31
  have hW := more (Below.refl w.heap.size w) (.cells #[.int .i64 (E : Int), .int .i64 (F : Int)] 31)
  have ⟨a0, a1⟩ := B
  obtain ⟨q1, q2, q3, q4, q5⟩ := dy_whole hf hn hm s
  rw [← q3, ← q4]
  have cO := fun W => natOf_any n W hn
  have cM : ∀ W ao k c, Below w.heap.size w W → Sl W ao k c (limbs n) → Calls Tryz.prog 160 #[.bool s, .agg #[.slice ao k c], .int .i64 0] W _ := fun W ao k c hW hS => exMake_any s ao k c (limbs n) 0 W hS (hT.below hW)
  unfold Made at cM
  rw [q1] at cM
  have cD : ∀ W ao k c, Sl W ao k c (limbs (mkN (limbs n) 0)) → Calls Tryz.prog 170 #[.agg #[.int .i64 (E : Int), .int .i64 (F : Int)], .agg #[.bool (mkS s (limbs n) 0), .slice ao k c, .int .i64 (mkX (limbs n) 0)], .bool false, .int .u8 (m : Int)] W _ := fun W ao k c hS => rdDyadic_any ao k c m (E : Int) (F : Int) (mkX (limbs n) 0) (mkS s (limbs n) 0) false _ W hS (by rw [← hS.len]; omega)
  rw [q2] at cD
  clear q1 q2 q3 q4 q5
  generalize dyBits (E : Int) (F : Int) (mkS s (limbs n) 0) (limbs (mkN (limbs n) 0)) (mkX (limbs n) 0) false m = oB at *
  generalize dyFlags (E : Int) (F : Int) (mkS s (limbs n) 0) (limbs (mkN (limbs n) 0)) (mkX (limbs n) 0) m = oG at *
  generalize mkS s (limbs n) 0 = ms at *
  generalize mkX (limbs n) 0 = mx at *
  generalize limbs (mkN (limbs n) 0) = xs at *
  go_enter Tryz.func118, Tryz.ntmps118
  go_wp2_with fail
  refine (cO _).mono ?_
  rintro en w1 ⟨ao, k, c, rfl, F1, hb1⟩
  have S1 := F1.sl
  have V1 := next hW hb1
  have B1 := B.stay hb1
  clear F1 a0 a1 B hW hb1 cO
  go_wp2_with fail
  refine (cM _ _ _ _ V1 S1).mono ?_
  rintro en w2 ⟨bo, j, d, rfl, F2, hb2⟩
  have V2 := more (next V1 hb2) (.cells #[.bool ms, .slice bo j d, .int .i64 mx] 90)
  have B2 := (B1.stay hb2).alloc (.cells #[.bool ms, .slice bo j d, .int .i64 mx] 90)
  have ⟨b0, b1⟩ := B2
  have ⟨x0, x1, x2, _, _, _⟩ := box3_new w2 (.bool ms) (.slice bo j d) (.int .i64 mx) 90
  have S2 := (F2.alloc (.cells #[.bool ms, .slice bo j d, .int .i64 mx] 90)).sl
  clear F2 B1 V1 S1 hb2 cM
  go_wp2_with fail
  refine (cD _ _ _ _ S2).mono ?_
  rintro en w3 ⟨rfl, hb3⟩
  have V3 := next V2 hb3
  clear S2 V2 hb3 x0 x1 x2 b0 b1 B2
  go_wp2
  go_ret3
  exact ⟨rfl, V3⟩

/-- FromInt's answers. -/
def fiE (e f : Int) (m : Nat) : Int := if formE e f ≠ 0 then 5 else if 4 < m then 7 else 0

def fiB (e f n : Int) (m : Nat) : Nat := if fiE e f m = 0 then sgBits e.toNat f.toNat n.natAbs 1 (decide (n < 0)) false m else 0

def fiG (e f n : Int) (m : Nat) : Nat := if fiE e f m = 0 then sgFlags e.toNat f.toNat n.natAbs 1 (decide (n < 0)) m else 0

set_option maxRecDepth 100000 in
set_option maxHeartbeats 2000000 in
theorem turnFromInt_any (e f n : Int) (m : Nat) (w : World) (h1 : -9223372036854775808 ≤ n) (h2 : n ≤ 9223372036854775807) (hT : Tab w) :
    Calls Tryz.prog 23 #[.agg #[.int .i64 e, .int .i64 f], .int .i64 n, .int .u8 (m : Int)] w fun en w' => en = .returned (.tuple #[.int .u64 (fiB e f n m : Int), .int .u8 (fiG e f n m : Int), .int .i64 (fiE e f m)]) ∧ Below w.heap.size w w' := by
  have B := box2_new w (.int .i64 e) (.int .i64 f) 31
  have hW := more (Below.refl w.heap.size w) (.cells #[.int .i64 e, .int .i64 f] 31)
  have ⟨a0, a1⟩ := B
  have cF := fun W => formCheck_any e f W
  unfold fiB fiG
  by_cases hf : formE e f = 0
  · rw [hf] at cF
    by_cases hm : 4 < m
    · have hz : fiE e f m = 7 := by unfold fiE; rw [if_neg (by simp [hf]), if_pos hm]
      have hm4 : (m : Int) > 4 := by omega
      rw [hz, if_neg (by decide), if_neg (by decide)]
      clear hz
      go_enter Tryz.func23, Tryz.ntmps23
      go_wp2_with fail
      refine (cF _).mono ?_
      rintro en w1 ⟨rfl, hb1⟩
      have V1 := next hW hb1
      clear hW hb1 a0 a1 B
      go_wp2
      go_ret3
      exact ⟨rfl, V1⟩
    · have hz : fiE e f m = 0 := by unfold fiE; rw [if_neg (by simp [hf]), if_neg hm]
      have hm4 : ¬ (m : Int) > 4 := by omega
      rw [hz, if_pos rfl, if_pos rfl]
      obtain ⟨e1, e2, e3, e4⟩ := formE_ok hf
      obtain ⟨E, rfl⟩ : ∃ E : Nat, e = (E : Int) := ⟨e.toNat, by omega⟩
      obtain ⟨F, rfl⟩ : ∃ F : Nat, f = (F : Int) := ⟨f.toNat, by omega⟩
      rw [Int.toNat_natCast, Int.toNat_natCast]
      by_cases h0 : n < 0
      · have cW : ∀ W, Below w.heap.size w W → Calls Tryz.prog 118 #[.agg #[.int .i64 (E : Int), .int .i64 (F : Int)], .bool true, .int .u64 (n.natAbs : Int), .int .u8 (m : Int)] W _ := fun W hW => turnWholes_any E F n.natAbs m true W hf (by omega) (by omega) (hT.below hW)
        have hw : IntKind.u64.wrap (-(IntKind.u64.wrap n)) = (n.natAbs : Int) := by rw [IntKind.wrap_u64, IntKind.wrap_u64]; omega
        have hw1 : IntKind.u64.wrap (-n) = (n.natAbs : Int) := by rw [IntKind.wrap_u64]; omega
        rw [decide_eq_true h0]
        generalize sgBits E F n.natAbs 1 true false m = oB at *
        generalize sgFlags E F n.natAbs 1 true m = oG at *
        generalize n.natAbs = N at *
        clear hz
        go_enter Tryz.func23, Tryz.ntmps23
        go_wp2_with fail
        refine (cF _).mono ?_
        rintro en w1 ⟨rfl, hb1⟩
        have V1 := next hW hb1
        have ⟨b0, b1⟩ := B.stay hb1
        clear hW hb1 a0 a1 B
        go_wp2_with fail
        (with_reducible refine (cW _ V1).mono ?_)
        rintro en w2 ⟨rfl, hb2⟩
        have V2 := next V1 hb2
        clear V1 hb2 b0 b1
        go_wp2
        go_ret3
        exact ⟨rfl, V2⟩
      · have cW : ∀ W, Below w.heap.size w W → Calls Tryz.prog 118 #[.agg #[.int .i64 (E : Int), .int .i64 (F : Int)], .bool false, .int .u64 (n.natAbs : Int), .int .u8 (m : Int)] W _ := fun W hW => turnWholes_any E F n.natAbs m false W hf (by omega) (by omega) (hT.below hW)
        have hw : IntKind.u64.wrap n = (n.natAbs : Int) := by rw [IntKind.wrap_u64]; omega
        rw [decide_eq_false h0]
        have hdc : decide (n < 0) = false := decide_eq_false h0
        generalize sgBits E F n.natAbs 1 false false m = oB at *
        generalize sgFlags E F n.natAbs 1 false m = oG at *
        generalize n.natAbs = N at *
        clear hz
        go_enter Tryz.func23, Tryz.ntmps23
        go_wp2_with fail
        refine (cF _).mono ?_
        rintro en w1 ⟨rfl, hb1⟩
        have V1 := next hW hb1
        have ⟨b0, b1⟩ := B.stay hb1
        clear hW hb1 a0 a1 B
        go_wp2_with fail
        (with_reducible refine (cW _ V1).mono ?_)
        rintro en w2 ⟨rfl, hb2⟩
        have V2 := next V1 hb2
        clear V1 hb2 b0 b1
        go_wp2
        go_ret3
        exact ⟨rfl, V2⟩
  · have h5 : formE e f = 5 := by unfold formE at hf ⊢; split at hf <;> simp_all
    have hz : fiE e f m = 5 := by unfold fiE; rw [if_pos hf]
    rw [h5] at cF
    rw [hz, if_neg (by decide), if_neg (by decide)]
    clear hz hf
    go_enter Tryz.func23, Tryz.ntmps23
    go_wp2_with fail
    refine (cF _).mono ?_
    rintro en w1 ⟨rfl, hb1⟩
    have V1 := next hW hb1
    clear hW hb1 a0 a1 B
    go_wp2
    go_ret3
    exact ⟨rfl, V1⟩

end Go.Proofs.YtaddnoneoflimaaGreatDoor

/-
  The walks of numeral/turn's native floats: narrow, Form, native, From, of float64, float32 and types of one's own; of the law's wideBits, narrowBits. (Printed by wip/gen/turnat.py.)
-/
namespace Go.Proofs.YtaddnoneoflimaaGreatDoor

open Go.RowKit Go.Lb

attribute [local go_sem] Go.World.cell?_alloc_some

/-- A block of two cells that may be written. -/
structure Ow2 (w : World) (b : Nat) (u v : Value) : Prop where
  c0 : w.cell? ⟨b, 0, none⟩ = some u
  c1 : w.cell? ⟨b, 1, none⟩ = some v
  z0 : w.frozen? ⟨b, 0, none⟩ = false
  z1 : w.frozen? ⟨b, 1, none⟩ = false

theorem Ow2.stay {wp w' : World} {b : Nat} {u v : Value} (h : Ow2 wp b u v) (k : Below wp.heap.size wp w') : Ow2 w' b u v :=
  ⟨(cfStay ⟨h.c0, h.z0⟩ k).1, (cfStay ⟨h.c1, h.z1⟩ k).1, (cfStay ⟨h.c0, h.z0⟩ k).2, (cfStay ⟨h.c1, h.z1⟩ k).2⟩

theorem ow2_new (w : World) (u v : Value) (t : TypeId) : Ow2 (w.alloc (.cells #[u, v] t)) w.heap.size u v := ⟨by simp, by simp, by simp [go_sem], by simp [go_sem]⟩

theorem Ow2.set {w : World} {b : Nat} {u v : Value} (h : Ow2 w b u v) (p q : Value) :
    ((w.setCell ⟨b, 0, none⟩ p).setCell ⟨b, 1, none⟩ q).cell? ⟨b, 0, none⟩ = some p ∧ ((w.setCell ⟨b, 0, none⟩ p).setCell ⟨b, 1, none⟩ q).cell? ⟨b, 1, none⟩ = some q :=
  ⟨(World.cell?_setCell_other _ _ _ _ (by simp)).trans (World.cell?_setCell_same _ _ _ h.c0), World.cell?_setCell_same _ _ _ ((World.cell?_setCell_other _ _ _ _ (by simp)).trans h.c1)⟩

theorem cut_wide : (FloatKind.f64.format.order (floatOfInt .f64 16777217) (floatOfInt .f64 16777216) == some .eq) = false := by decide +kernel

theorem cut_narrow : (FloatKind.f32.format.order (floatOfInt .f32 16777217) (floatOfInt .f32 16777216) == some .eq) = true := by decide +kernel

theorem forms_Single_t (w : World) :
    Calls Tryz.prog 211 #[] w fun e w' => e = .returned (.agg #[.int .i64 8, .int .i64 23]) ∧ Below w.heap.size w w' := by
  go_enter Tryz.func211, Tryz.ntmps211
  go_wp2
  refine bodyPost_ret (v := .agg #[.int .i64 8, .int .i64 23]) (by simp [results, Tryz.results211, go_sem]) rfl ⟨rfl, more (Below.refl _ _) _⟩

theorem forms_Double_t (w : World) :
    Calls Tryz.prog 212 #[] w fun e w' => e = .returned (.agg #[.int .i64 11, .int .i64 52]) ∧ Below w.heap.size w w' := by
  go_enter Tryz.func212, Tryz.ntmps212
  go_wp2
  refine bodyPost_ret (v := .agg #[.int .i64 11, .int .i64 52]) (by simp [results, Tryz.results212, go_sem]) rfl ⟨rfl, more (Below.refl _ _) _⟩

theorem turNarrow_F64 (w : World) :
    Calls Tryz.prog 210 #[] w fun e w' => e = .returned (.bool false) ∧ w = w' := by
  have h := cut_wide
  go_enter Tryz.func210, Tryz.ntmps210
  go_wp2
  go_ret
  exact ⟨rfl, rfl⟩

theorem turForm_F64 (x : Nat) (w : World) :
    Calls Tryz.prog 119 #[.float .f64 x] w fun e w' => e = .returned (.agg #[.int .i64 11, .int .i64 52]) ∧ Below w.heap.size w w' := by
  have hW := more (Below.refl w.heap.size w) (.cells #[.int .i64 0, .int .i64 0] 31)
  go_enter Tryz.func119, Tryz.ntmps119
  go_wp2_with fail
  refine (turNarrow_F64 _).mono ?_
  rintro en w1 ⟨rfl, rfl⟩
  go_wp2_with fail
  refine (forms_Double_t _).mono ?_
  rintro en w2 ⟨rfl, hb2⟩
  have R := (ow2_new w (.int .i64 0) (.int .i64 0) 31).stay hb2
  have ⟨r0, r1, rz0, rz1⟩ := R
  have V := next hW hb2
  clear hb2 hW
  go_wp2
  obtain ⟨t0, t1⟩ := R.set (.int .i64 11) (.int .i64 52)
  refine bodyPost_ret (v := .agg #[.int .i64 11, .int .i64 52]) (by simp [results, Tryz.results119, go_sem, t0, t1]) rfl ⟨rfl, (V.setCell (by simp) _).setCell (by simp) _⟩

theorem turNative_F64 (x : Nat) (w : World) :
    Calls Tryz.prog 120 #[.int .u64 (x : Int)] w fun e w' => e = .returned (.float .f64 x) ∧ w = w' := by
  have hfb : ∀ (z : Nat) (W : World), (callFunc 11 #[.int .u64 z]).run Tryz.prog W = .ok (.value (.float .f64 z)) W := fun z W =>
    (run_callFunc_extern Tryz.func11 (by kernel_rfl) (by kernel_rfl) (by kernel_rfl) (e := Extern.MathFloatBits.float64frombits) (by kernel_rfl) _ W).trans rfl
  go_enter Tryz.func120, Tryz.ntmps120
  go_wp2_with fail
  refine (turNarrow_F64 _).mono ?_
  rintro en w1 ⟨rfl, rfl⟩
  go_wp2
  go_ret
  exact ⟨rfl, rfl⟩

theorem turNarrow_F32 (w : World) :
    Calls Tryz.prog 213 #[] w fun e w' => e = .returned (.bool true) ∧ w = w' := by
  have h := cut_narrow
  go_enter Tryz.func213, Tryz.ntmps213
  go_wp2
  go_ret
  exact ⟨rfl, rfl⟩

theorem turForm_F32 (x : Nat) (w : World) :
    Calls Tryz.prog 121 #[.float .f32 x] w fun e w' => e = .returned (.agg #[.int .i64 8, .int .i64 23]) ∧ Below w.heap.size w w' := by
  have hW := more (Below.refl w.heap.size w) (.cells #[.int .i64 0, .int .i64 0] 31)
  go_enter Tryz.func121, Tryz.ntmps121
  go_wp2_with fail
  refine (turNarrow_F32 _).mono ?_
  rintro en w1 ⟨rfl, rfl⟩
  go_wp2_with fail
  refine (forms_Single_t _).mono ?_
  rintro en w2 ⟨rfl, hb2⟩
  have R := (ow2_new w (.int .i64 0) (.int .i64 0) 31).stay hb2
  have ⟨r0, r1, rz0, rz1⟩ := R
  have V := next hW hb2
  clear hb2 hW
  go_wp2
  obtain ⟨t0, t1⟩ := R.set (.int .i64 8) (.int .i64 23)
  refine bodyPost_ret (v := .agg #[.int .i64 8, .int .i64 23]) (by simp [results, Tryz.results121, go_sem, t0, t1]) rfl ⟨rfl, (V.setCell (by simp) _).setCell (by simp) _⟩

theorem turNative_F32 (x : Nat) (w : World) (hx : x < 4294967296) :
    Calls Tryz.prog 122 #[.int .u64 (x : Int)] w fun e w' => e = .returned (.float .f32 x) ∧ w = w' := by
  have hfb : ∀ (z : Nat) (W : World), (callFunc 12 #[.int .u32 z]).run Tryz.prog W = .ok (.value (.float .f32 z)) W := fun z W =>
    (run_callFunc_extern Tryz.func12 (by kernel_rfl) (by kernel_rfl) (by kernel_rfl) (e := Extern.MathFloatBits.float32frombits) (by kernel_rfl) _ W).trans rfl
  have hw : IntKind.u32.wrap (x : Int) = (x : Int) := by rw [IntKind.wrap_u32]; omega
  go_enter Tryz.func122, Tryz.ntmps122
  go_wp2_with fail
  refine (turNarrow_F32 _).mono ?_
  rintro en w1 ⟨rfl, rfl⟩
  go_wp2
  go_ret
  exact ⟨rfl, rfl⟩

theorem sgBits_low {G H N D : Nat} {s neg : Bool} {m : Nat} (hG : 2 ≤ G) : sgBits G H N D s neg m < pw (1 + G + H) ∧ sgBits G H N D s neg m % 2 ^ (G + H) ≤ infN G H := by
  have hp := Nat.two_pow_pos (G + H)
  have h2 : 2 ^ H < 2 ^ (G + H) := Nat.pow_lt_pow_right (by decide) (by omega)
  have h3 := Nat.two_pow_pos H
  have e : pw (1 + G + H) = 2 * 2 ^ (G + H) := by rw [Nat.add_assoc, Nat.add_comm 1, pw_succ, pw_is]
  have hf := flB_le G H N D s m
  have hi : infN G H < 2 ^ (G + H) := by unfold infN; omega
  rw [e]
  unfold sgBits
  split
  · split
    · exact ⟨by omega, by rw [Nat.mod_self]; omega⟩
    · exact ⟨by omega, by rw [Nat.zero_mod]; omega⟩
  · split
    · exact ⟨by omega, by rw [Nat.add_mod_right, Nat.mod_eq_of_lt (by omega)]; exact hf⟩
    · exact ⟨by omega, by rw [Nat.mod_eq_of_lt (by omega)]; exact hf⟩

/-- What a float is told as. -/
def toldN (G H b : Nat) : Nat := if naB G H b = true then nanN G H else b

theorem told_of_low {G H b : Nat} (h : b % 2 ^ (G + H) ≤ infN G H) : toldN G H b = b := by
  unfold toldN
  rw [← nan_test, decide_eq_false (by omega)]
  rfl

set_option maxRecDepth 100000 in
set_option maxHeartbeats 2000000 in
theorem turFrom_F64 (e f : Int) (b : Nat) (w : World) (hb : b < 18446744073709551616) (hT : Tab w) :
    Calls Tryz.prog 69 #[.agg #[.int .i64 e, .int .i64 f], .int .u64 (b : Int)] w fun en w' => en = .returned (.tuple #[.float .f64 (toBi e f 11 52 b 0), .int .i64 (toE e f 11 52 b 0)]) ∧ Below w.heap.size w w' := by
  have B := box2_new w (.int .i64 e) (.int .i64 f) 31
  have hW := more (Below.refl w.heap.size w) (.cells #[.int .i64 e, .int .i64 f] 31)
  have cT : ∀ W, Below w.heap.size w W → Calls Tryz.prog 61 #[.agg #[.int .i64 e, .int .i64 f], .agg #[.int .i64 11, .int .i64 52], .int .u64 (b : Int), .int .u8 0] W fun en w' => en = .returned (.tuple #[.int .u64 (toBi e f 11 52 b 0 : Int), .int .u8 (toGi e f 11 52 b 0 : Int), .int .i64 (toE e f 11 52 b 0)]) ∧ Below W.heap.size W w' := fun W hW => turnTo_any e f 11 52 b 0 W hb (hT.below hW)
  have hz0 : toE e f 11 52 b 0 ≠ 0 → toBi e f 11 52 b 0 = 0 := fun h => if_neg h
  generalize toBi e f 11 52 b 0 = oB at *
  generalize toGi e f 11 52 b 0 = oG at *
  generalize toE e f 11 52 b 0 = oE at *
  clear hT
  go_enter Tryz.func69, Tryz.ntmps69
  go_upto_region 2 with fail
  generalize w.alloc (.cells #[.int .i64 e, .int .i64 f] 31) = w1 at *
  have ⟨b0, b1⟩ := B
  have kS : ∀ w' : World, Below w1.heap.size w1 w' → (w'.cell? ⟨w.heap.size, 0, none⟩ = some (.int .i64 e) ∧ w'.cell? ⟨w.heap.size, 1, none⟩ = some (.int .i64 f) ∧ Below w1.heap.size w1 w') := fun w' hb => ⟨cellStay b0 hb, cellStay b1 hb, hb⟩
  go_region_held3 (fun w' => w'.cell? ⟨w.heap.size, 0, none⟩ = some (.int .i64 e) ∧ w'.cell? ⟨w.heap.size, 1, none⟩ = some (.int .i64 f) ∧ Below w1.heap.size w1 w')
    ((refine kS _ ?_; (repeat (with_reducible (first | exact VB | exact VA | exact Below.refl _ _ | refine Below.drew ?_))); done))
    (first
      | (go_at_call 119; (with_reducible refine (turForm_F64 _ _).mono ?_); rintro en wA ⟨rfl, hbA⟩; have VA : Below w1.heap.size w1 wA := (by first | exact hbA | exact undrew hbA))
      | (go_at_call 61; (with_reducible refine (cT _ (next hW VA)).mono ?_); rintro en wB ⟨rfl, hbB⟩; have VB := next VA hbB))
  all_goals
    by_cases hz : oE = 0
    · subst hz
      clear hz0
      go_wp2_with fail
      refine (turNative_F64 _ _).mono ?_
      rintro en wC ⟨rfl, rfl⟩
      go_wp2
      go_ret2
      exact ⟨rfl, next hW VB⟩
    · have h0 := hz0 hz
      have hz1 : (oE != 0) = true := bne_iff_ne.2 hz
      subst h0
      clear hz0
      go_wp2
      go_ret2
      exact ⟨rfl, next hW VB⟩

end Go.Proofs.YtaddnoneoflimaaGreatDoor

/-
  What numeral/turn.Int answers; its refusals. (Printed by wip/gen/turint.py.)
-/
namespace Go.Proofs.YtaddnoneoflimaaGreatDoor

open Go.RowKit Go.Lb

attribute [local go_sem] Go.World.cell?_alloc_some

/-- The end of a kind of whole numbers of k + 1 bits, below nought and above. -/
def inEnd (k : Nat) (sg : Bool) : Int := if sg = true then -((2 ^ k : Nat) : Int) else ((2 ^ k : Nat) : Int) - 1

/-- A finite float's worth, rounded to a whole number, without its sign; does it fit? -/
def inR (E F b m : Nat) : Nat := rdN (wrQ E F b).num.natAbs (wrQ E F b).den (decide ((wrQ E F b).num < 0)) m

def inOk (k : Nat) (s : Bool) (R : Nat) : Bool := decide (R < 2 ^ k ∨ R = 2 ^ k ∧ s = true)

def inV (E F b k m : Nat) : Int := if naB E F b = true then 0 else if enB E F b = true then inEnd k (sgB E F b) else if inOk k (decide ((wrQ E F b).num < 0)) (inR E F b m) = true then sgZ (decide ((wrQ E F b).num < 0)) (inR E F b m) else inEnd k (sgB E F b)

def inG (E F b k m : Nat) : Nat := if naB E F b = true then 16 else if enB E F b = true then 16 else if inOk k (decide ((wrQ E F b).num < 0)) (inR E F b m) = true then (if exB (wrQ E F b).num.natAbs (wrQ E F b).den = true then 0 else 1) else 16

theorem low_of (R : Nat) : (R < 18446744073709551616 → lowB (limbs R) = true ∧ lowN (limbs R) = R) ∧ (¬ R < 18446744073709551616 → lowB (limbs R) = false ∧ lowN (limbs R) = 0) := by
  constructor
  · intro h
    have hl : (limbs R).length ≤ 2 := ln_small2 h
    have hc : chk (limbs R) = 0 := chk_small (Nat.lt_of_lt_of_le h (by decide +kernel))
    have hB : lowB (limbs R) = true := decide_eq_true ⟨hc, hl⟩
    refine ⟨hB, ?_⟩
    unfold lowN
    rw [if_pos hB]
    have hv := val_limbs' R
    rcases hx : limbs R with _ | ⟨x, _ | ⟨y, _ | ⟨z, t⟩⟩⟩
    · rw [hx] at hv; simp [val, nth] at hv ⊢; omega
    · rw [hx] at hv; simp [val, nth] at hv ⊢; omega
    · rw [hx] at hv; simp [val, nth] at hv ⊢; omega
    · rw [hx] at hl; simp at hl
  · intro h
    have hB : lowB (limbs R) = false := decide_eq_false fun hh => h (by
      have h1 := val_lt (ok_limbs R)
      rw [val_limbs'] at h1
      have h2 : (4294967296 : Nat) ^ (limbs R).length ≤ 4294967296 ^ 2 := Nat.pow_le_pow_right (by decide) hh.2
      have h3 : (4294967296 : Nat) ^ 2 = 18446744073709551616 := rfl
      omega)
    refine ⟨hB, ?_⟩
    unfold lowN
    rw [if_neg (by rw [hB]; decide)]

end Go.Proofs.YtaddnoneoflimaaGreatDoor

