/-
  The walks of whole, forms.Half, forms.Double and alive.
-/
import Derived.Test.YteoceoepakfgiaaDoorExs
import Derived.Test.YteoceoepakfgiaaDoorBitsL
import Derived.Test.YteoceoepakfgiaaDoorVals
import Derived.Test.YteoceoepakfgiaaDoorBooks
import Derived.Test.YteoceoepakfgiaaDoorWorth
namespace Go.Proofs.YteoceoepakfgiaaDoor
open Go.RowKit Go.Lb

def Whole (s : Bool) (n : Nat) (x : Int) (w : World) (e : Ending) (w' : World) : Prop :=
  ∃ ao k c, e = .returned (.agg #[.bool s, .slice ao k c, .int .i64 x]) ∧ Fr 81 w' w.heap.size ao k c (limbs n) ∧ Below w.heap.size w w'

set_option maxRecDepth 100000 in
theorem whole_any (s : Bool) (n : Nat) (z x : Int) (hz : z = (n : Int)) (w : World) (hn : n < 18446744073709551616) :
    Calls Tryd.prog 13 #[.bool s, .int .u64 z, .int .i64 x] w (Whole s n x w) := by
  subst hz
  go_enter Tryd.func13, Tryd.ntmps13
  go_wp2_with fail
  refine (natOf_any n _ hn).mono ?_
  rintro en w1 ⟨ao, k, c, rfl, hF, hb1⟩
  have B := (box3_new w (.bool false) (.slice none 0 0) (.int .i64 0) 26).stay hb1
  have ⟨b0, b1, b2, z0, z1, z2⟩ := B
  have hW := next (more (Below.refl _ _) _) hb1
  go_wp2
  refine bodyPost_ret (v := .agg #[.bool s, .slice ao k c, .int .i64 x]) (by simp [results, Tryd.results13, go_sem, B.set]) rfl ⟨ao, k, c, rfl, (((hF.setCell (by simp) _).setCell (by simp) _).setCell (by simp) _).mono (by simp), ((hW.setCell (by simp) _).setCell (by simp) _).setCell (by simp) _⟩

set_option maxRecDepth 100000 in
theorem half_any (w : World) :
    Calls Tryd.prog 12 #[] w fun e w' => e = .returned (.agg #[.int .i64 5, .int .i64 10]) ∧ Below w.heap.size w w' := by
  go_enter Tryd.func12, Tryd.ntmps12
  go_wp2
  refine bodyPost_ret (v := .agg #[.int .i64 5, .int .i64 10]) (by simp [results, Tryd.results12, go_sem]) rfl ⟨rfl, more (Below.refl _ _) _⟩

set_option maxRecDepth 100000 in
theorem double_any (w : World) :
    Calls Tryd.prog 10 #[] w fun e w' => e = .returned (.agg #[.int .i64 11, .int .i64 52]) ∧ Below w.heap.size w w' := by
  go_enter Tryd.func10, Tryd.ntmps10
  go_wp2
  refine bodyPost_ret (v := .agg #[.int .i64 11, .int .i64 52]) (by simp [results, Tryd.results10, go_sem]) rfl ⟨rfl, more (Below.refl _ _) _⟩

theorem val_one5 : valN 11 52 4609434218613702656 = 3 ∧ valX 11 52 4609434218613702656 = -1 ∧ valE 11 52 4609434218613702656 = 0 ∧ valS 11 52 4609434218613702656 = false := by decide +kernel

theorem bits_2047 : bitsV 5 10 false (limbs 2047) 5 = 31743 ∧ bitsIs 5 10 false (limbs 2047) 5 = true ∧ bitsE 5 10 false (limbs 2047) 5 = 0 := by decide +kernel

theorem add_12_3 : (addA false (limbs 3) 2 true (limbs 3) 0).s = false ∧ (addA false (limbs 3) 2 true (limbs 3) 0).N = 9 ∧ (addA false (limbs 3) 2 true (limbs 3) 0).x = 0 ∧ (addA false (limbs 3) 2 true (limbs 3) 0).e = 0 := by decide +kernel

theorem mul_3_5 : (mulA false (limbs 3) (-1) true (limbs 5) 4).s = true ∧ (mulA false (limbs 3) (-1) true (limbs 5) 4).N = 15 ∧ (mulA false (limbs 3) (-1) true (limbs 5) 4).x = 3 ∧ (mulA false (limbs 3) (-1) true (limbs 5) 4).e = 0 := by decide +kernel

theorem cmp_8_10 : cmpA true (limbs 1) 3 true (limbs 5) 1 = 1 ∧ cmpF true (limbs 1) 3 true (limbs 5) 1 = 0 := by decide +kernel

set_option maxRecDepth 100000 in
set_option maxHeartbeats 1600000 in
theorem alive_any (w : World) (hT : Tab w) :
    Calls Tryd.prog 4 #[] w fun e w' => e = .returned (.bool true) ∧ Below w.heap.size w w' := by
  obtain ⟨vN, vX, vE, vS⟩ := val_one5
  obtain ⟨bV, bI, bE⟩ := bits_2047
  obtain ⟨aS, aN, aX, aE⟩ := add_12_3
  obtain ⟨mS, mN, mX, mE⟩ := mul_3_5
  obtain ⟨c1, c2⟩ := cmp_8_10
  go_enter Tryd.func4, Tryd.ntmps4
  go_wp2_with fail
  refine (double_any _).mono ?_
  rintro en w1 ⟨rfl, hb1⟩
  have hW1 := hb1
  go_wp2_with fail
  refine (value_any 11 52 4609434218613702656 _ (by decide) (hT.below hW1)).mono ?_
  rintro en w2 ⟨a2, n2, k2, rfl, hF2, hb2⟩
  rw [vS, vX, vE]
  rw [vN] at hF2
  have hW2 := next hW1 hb2
  go_wp2_with fail
  have hV2 := more hW2 (.cells #[.bool false, .slice a2 n2 k2, .int .i64 (-1)] 26)
  have d2 := box3_new w2 (.bool false) (.slice a2 n2 k2) (.int .i64 (-1)) 26
  have f2 := hF2.sl.alloc (.cells #[.bool false, .slice a2 n2 k2, .int .i64 (-1)] 26)
  generalize hw3 : w2.alloc (.cells #[.bool false, .slice a2 n2 k2, .int .i64 (-1)] 26) = w3 at hV2 d2 f2 ⊢
  refine (half_any _).mono ?_
  rintro en w4 ⟨rfl, hb4⟩
  have hW4 := hb4
  go_wp2_with fail
  refine (whole_any false 2047 2047 5 rfl _ (by decide)).mono ?_
  rintro en w5 ⟨a5, n5, k5, rfl, hF5, hb5⟩
  have hW5 := next hW4 hb5
  go_wp2_with fail
  refine (exBits_any 5 10 false a5 n5 k5 5 _ _ hF5.sl).mono ?_
  rintro en w6 ⟨rfl, hb6⟩
  rw [bV, bI, bE]
  have hW6 := next hW5 hb6
  go_wp2_with fail
  refine (whole_any false 3 3 2 rfl _ (by decide)).mono ?_
  rintro en w7 ⟨a7, n7, k7, rfl, hF7, hb7⟩
  have hW7 := next hW6 hb7
  go_wp2_with fail
  refine (whole_any true 3 3 0 rfl _ (by decide)).mono ?_
  rintro en w8 ⟨a8, n8, k8, rfl, hF8, hb8⟩
  have hW8 := next hW7 hb8
  have hF7' := hF7.sl.below hb8
  go_wp2_with fail
  refine (exAdd_any false true a7 a8 n7 n8 k7 k8 2 0 _ _ _ hF7' hF8.sl (hT.below (next hV2 hW8))).mono ?_
  rintro en w9 ⟨a9, n9, k9, rfl, hF9, hb9⟩
  rw [aS, aX, aE]
  rw [aN] at hF9
  have hW9 := next hW8 hb9
  go_wp2_with fail
  have hV9 := more hW9 (.cells #[.bool false, .slice a9 n9 k9, .int .i64 0] 26)
  have d9 := box3_new w9 (.bool false) (.slice a9 n9 k9) (.int .i64 0) 26
  have f9 := hF9.sl.alloc (.cells #[.bool false, .slice a9 n9 k9, .int .i64 0] 26)
  generalize hw10 : w9.alloc (.cells #[.bool false, .slice a9 n9 k9, .int .i64 0] 26) = w10 at hV9 d9 f9 ⊢
  refine (whole_any false 3 3 (-1) rfl _ (by decide)).mono ?_
  rintro en w11 ⟨a11, n11, k11, rfl, hF11, hb11⟩
  have hW11 := hb11
  go_wp2_with fail
  refine (whole_any true 5 5 4 rfl _ (by decide)).mono ?_
  rintro en w12 ⟨a12, n12, k12, rfl, hF12, hb12⟩
  have hW12 := next hW11 hb12
  have hF11' := hF11.sl.below hb12
  go_wp2_with fail
  refine (exMul_any false true a11 a12 n11 n12 k11 k12 (-1) 4 _ _ _ hF11' hF12.sl (hT.below (next (next hV2 hV9) hW12))).mono ?_
  rintro en w13 ⟨a13, n13, k13, rfl, hF13, hb13⟩
  rw [mS, mX, mE]
  rw [mN] at hF13
  have hW13 := next hW12 hb13
  go_wp2_with fail
  have hV13 := more hW13 (.cells #[.bool true, .slice a13 n13 k13, .int .i64 3] 26)
  have d13 := box3_new w13 (.bool true) (.slice a13 n13 k13) (.int .i64 3) 26
  have f13 := hF13.sl.alloc (.cells #[.bool true, .slice a13 n13 k13, .int .i64 3] 26)
  generalize hw14 : w13.alloc (.cells #[.bool true, .slice a13 n13 k13, .int .i64 3] 26) = w14 at hV13 d13 f13 ⊢
  refine (whole_any true 1 1 3 rfl _ (by decide)).mono ?_
  rintro en w15 ⟨a15, n15, k15, rfl, hF15, hb15⟩
  have hW15 := hb15
  go_wp2_with fail
  refine (whole_any true 5 5 1 rfl _ (by decide)).mono ?_
  rintro en w16 ⟨a16, n16, k16, rfl, hF16, hb16⟩
  have hW16 := next hW15 hb16
  have hF15' := hF15.sl.below hb16
  go_wp2_with fail
  refine (exCmp_any true true a15 a16 n15 n16 k15 k16 3 1 _ _ _ hF15' hF16.sl).mono ?_
  rintro en w17 ⟨rfl, hb17⟩
  rw [c1, c2]
  have hW17 := next hW16 hb17
  have hWV := next (next hV2 hV9) hV13
  have d2' := (d2.stay hV9).stay (next hV13 hW17)
  have f2' := (f2.below hV9).below (next hV13 hW17)
  have d9' := d9.stay (next hV13 hW17)
  have f9' := f9.below (next hV13 hW17)
  have d13' := d13.stay hW17
  have f13' := f13.below hW17
  have hWZ := next hWV hW17
  clear hF2 hF5 hF7 hF7' hF8 hF9 hF11 hF11' hF12 hF13 hF15 hF15' hF16 d2 f2 d9 f9 d13 f13 hW1 hW2 hW4 hW5 hW6 hW7 hW8 hW9 hW11 hW12 hW13 hW15 hW16 hW17 hb1 hb2 hb4 hb5 hb6 hb7 hb8 hb9 hb11 hb12 hb13 hb15 hb16 hb17 hV2 hV9 hV13 hWV
  clear bV bI bE aS aN aX aE mS mN mX mE c1 c2 vN vX vE vS hw3 hw10 hw14
  generalize w2.heap.size = p2 at d2' ⊢
  generalize w9.heap.size = p9 at d9' ⊢
  generalize w13.heap.size = p13 at d13' ⊢
  go_wp2_with fail
  have kS : ∀ w' : World, Below w17.heap.size w17 w' → (w'.cell? ⟨p2, 0, none⟩ = some (.bool false) ∧ w'.cell? ⟨p2, 1, none⟩ = some (.slice a2 n2 k2) ∧ w'.cell? ⟨p2, 2, none⟩ = some (.int .i64 (-1)) ∧ w'.cell? ⟨p9, 0, none⟩ = some (.bool false) ∧ w'.cell? ⟨p9, 1, none⟩ = some (.slice a9 n9 k9) ∧ w'.cell? ⟨p9, 2, none⟩ = some (.int .i64 0) ∧ w'.cell? ⟨p13, 0, none⟩ = some (.bool true) ∧ w'.cell? ⟨p13, 1, none⟩ = some (.slice a13 n13 k13) ∧ w'.cell? ⟨p13, 2, none⟩ = some (.int .i64 3) ∧ Below w17.heap.size w17 w') := fun w' hb => ⟨cellStay d2'.c0 hb, cellStay d2'.c1 hb, cellStay d2'.c2 hb, cellStay d9'.c0 hb, cellStay d9'.c1 hb, cellStay d9'.c2 hb, cellStay d13'.c0 hb, cellStay d13'.c1 hb, cellStay d13'.c2 hb, hb⟩
  have hb0 := Below.refl w17.heap.size w17
  go_region_held3 (fun w' => w'.cell? ⟨p2, 0, none⟩ = some (.bool false) ∧ w'.cell? ⟨p2, 1, none⟩ = some (.slice a2 n2 k2) ∧ w'.cell? ⟨p2, 2, none⟩ = some (.int .i64 (-1)) ∧ w'.cell? ⟨p9, 0, none⟩ = some (.bool false) ∧ w'.cell? ⟨p9, 1, none⟩ = some (.slice a9 n9 k9) ∧ w'.cell? ⟨p9, 2, none⟩ = some (.int .i64 0) ∧ w'.cell? ⟨p13, 0, none⟩ = some (.bool true) ∧ w'.cell? ⟨p13, 1, none⟩ = some (.slice a13 n13 k13) ∧ w'.cell? ⟨p13, 2, none⟩ = some (.int .i64 3) ∧ Below w17.heap.size w17 w')
    ((refine kS _ ?_; (repeat (with_reducible (first | assumption | exact Below.refl _ _ | refine Below.drew ?_ | refine more ?_ _))); done))
    (first
      | (go_at_call 13; (with_reducible refine (whole_any false 3 3 (-1) rfl _ (by decide)).mono ?_); rintro en wX ⟨aX, nX, kX, rfl, hFX, hbX⟩; obtain rfl : n2 = nX := (by rw [← hFX.sl.len, ← f2'.len]); have hWX : Below w17.heap.size w17 wX := (by go_split_ands; exact next (by assumption) hbX))
      | (go_at_call 13; (with_reducible refine (whole_any false 9 9 0 rfl _ (by decide)).mono ?_); rintro en wX ⟨aX, nX, kX, rfl, hFX, hbX⟩; obtain rfl : n9 = nX := (by rw [← hFX.sl.len, ← f9'.len]); have hWX : Below w17.heap.size w17 wX := (by go_split_ands; exact next (by assumption) hbX))
      | (go_at_call 13; (with_reducible refine (whole_any true 15 15 3 rfl _ (by decide)).mono ?_); rintro en wX ⟨aX, nX, kX, rfl, hFX, hbX⟩; obtain rfl : n13 = nX := (by rw [← hFX.sl.len, ← f13'.len]); have hWX : Below w17.heap.size w17 wX := (by go_split_ands; exact next (by assumption) hbX))
      | (go_at_call 7; (with_reducible refine (refDySame_eq false (-1) a2 _ n2 k2 _ (limbs 3) _ ?_ ?_).mono ?_); (focus (go_split_ands; exact f2'.below (by assumption))); (focus (exact hFX.sl)); rintro en wY ⟨rfl, hbY⟩; have hWY : Below w17.heap.size w17 wY := (by go_split_ands; exact next (by assumption) hbY); clear hFX)
      | (go_at_call 7; (with_reducible refine (refDySame_eq false 0 a9 _ n9 k9 _ (limbs 9) _ ?_ ?_).mono ?_); (focus (go_split_ands; exact f9'.below (by assumption))); (focus (exact hFX.sl)); rintro en wY ⟨rfl, hbY⟩; have hWY : Below w17.heap.size w17 wY := (by go_split_ands; exact next (by assumption) hbY); clear hFX)
      | (go_at_call 7; (with_reducible refine (refDySame_eq true 3 a13 _ n13 k13 _ (limbs 15) _ ?_ ?_).mono ?_); (focus (go_split_ands; exact f13'.below (by assumption))); (focus (exact hFX.sl)); rintro en wY ⟨rfl, hbY⟩; have hWY : Below w17.heap.size w17 wY := (by go_split_ands; exact next (by assumption) hbY); clear hFX))
  go_split_ands
  go_wp2
  go_ret
  exact ⟨rfl, next hWZ (by assumption)⟩

end Go.Proofs.YteoceoepakfgiaaDoor
