/-
  Contracts of numeral/numeralbig: Int: added, Add, Sub, Mul, QuoRem, Lsh, Rsh, Bit, Uint64, SetUint64, Abs. (Printed by wip/gen/bigY.py.) Contracts of numeral/numeralbig: Int: QuoRem, Lsh, Rsh, And, Or, Bit, Uint64, DivMod, Div. (Printed by wip/gen/bigW.py.) Contracts of numeral/numeralbig: Int: And, Or, Exp. (Printed by wip/gen/bigV.py.)
-/
import Derived.Test.YtpmncmglmobjoaaGreatDoorQbTNbK
import Derived.Test.YtpmncmglmobjoaaGreatDoorQbTNbI
import Derived.Test.YtpmncmglmobjoaaGreatDoorQbTBgV
set_option maxHeartbeats 3000000
set_option maxRecDepth 100000
namespace Go.Proofs.YtpmncmglmobjoaaGreatDoor
open Go.RowKit Go.Lb
section
attribute [local go_sem ↓] Go.wp_at_zero Go.wp_at_succ
end
section
attribute [local go_sem ↓] Go.wp_at_zero Go.wp_at_succ
theorem nbNegZ_any (b base B1 b1 : Nat) (x : Int) (w : World) (hz : Zc w b) (hb : base ≤ w.heap.size) (h1 : Iz 40 w B1 b1 x) (l1 : ln x.natAbs ≤ 4294967296) :
 Calls Tryz.prog 150 #[.pointer (some ⟨b, 0, none⟩), .pointer (some ⟨b1, 0, none⟩)] w (StZ 40 b base (-x) w) := by
 obtain ⟨a1, n1, c1, h1⟩ := h1
 have := nbNeg_any b base B1 b1 _ a1 n1 c1 _ w hz hb h1 (by rw [h1.len]; exact l1)
 unfold StZ
 rw [← (nzB_neg x).1, ← (nzB_neg x).2]
 exact this
end
section
attribute [local go_sem ↓] Go.wp_at_zero Go.wp_at_succ
end
section
attribute [local go_sem ↓] Go.wp_at_zero Go.wp_at_succ
end
section
attribute [local go_sem ↓] Go.wp_at_zero Go.wp_at_succ
theorem nbRSignZ_any (b base : Nat) (x : Rat) (w : World) (h : Rq 40 w base b x) :
 Calls Tryz.prog 98 #[.pointer (some ⟨b, 0, none⟩)] w fun e w' => e = .returned (.int .i64 x.num.sign) ∧ w = w' := by
 have := nbRSign_any b base _ _ _ w h
 rwa [sgnI_z] at this
theorem nbSetFracZ_any (b base B1 B2 b1 b2 : Nat) (x : Int) (y : Nat) (w : World) (hr : Res3 w b) (h1 : Iz 40 w B1 b1 x) (h2 : Iz 40 w B2 b2 (y : Int)) (ne1 : b1 ≠ b) (ne2 : b2 ≠ b) (hy : y ≠ 0) (hbb : base ≤ b) (l1 : ln x.natAbs ≤ 67108864) (l2 : ln y ≤ 67108864) (hT : Tab w) :
 Calls Tryz.prog 151 #[.pointer (some ⟨b, 0, none⟩), .pointer (some ⟨b1, 0, none⟩), .pointer (some ⟨b2, 0, none⟩)] w (StQ 40 b base (mkRat x y) w) := by
 obtain ⟨a1, n1, c1, i1⟩ := h1
 obtain ⟨a2, n2, c2, i2⟩ := iz_nat h2
 refine (nbSetFrac_any b base B1 B2 b1 b2 _ false a1 a2 n1 n2 c1 c2 _ y w hr i1 i2 ne1 ne2 hy hbb (by rw [i1.len]; exact l1) (by rw [i2.len]; exact l2) hT).mono ?_
 rintro e w' ⟨he, hra, hg⟩
 refine ⟨he, ?_, hg⟩
 obtain ⟨p1, p2, p3⟩ := mk_parts x hy
 unfold Rq
 rw [p1, p2, p3]
 rwa [Bool.bne_false, nzB_nat _ _ rfl] at hra
end
section
attribute [local go_sem ↓] Go.wp_at_zero Go.wp_at_succ
theorem nbRCmp_nz (b1 b2 : Nat) (w : World) (h1 : Calls Tryz.prog 98 #[.pointer (some ⟨b1, 0, none⟩)] w fun e w' => e = .returned (.int .i64 (-1)) ∧ w = w') (h2 : Calls Tryz.prog 98 #[.pointer (some ⟨b2, 0, none⟩)] w fun e w' => e = .returned (.int .i64 0) ∧ w = w') :
 Calls Tryz.prog 55 #[.pointer (some ⟨b1, 0, none⟩), .pointer (some ⟨b2, 0, none⟩)] w fun e w' => e = .returned (.int .i64 (-1)) ∧ Below w.heap.size w w' := by
 go_enter Tryz.func55, Tryz.ntmps55
 go_wp2_with (first
  | (go_at_call 98; (with_reducible refine h1.mono ?_); rintro e w1 ⟨rfl, rfl⟩)
  | (go_at_call 98; (with_reducible refine h2.mono ?_); rintro e w1 ⟨rfl, rfl⟩))
 go_ret
 exact ⟨rfl, Below.refl _ _⟩
theorem nbRCmp_np (b1 b2 : Nat) (w : World) (h1 : Calls Tryz.prog 98 #[.pointer (some ⟨b1, 0, none⟩)] w fun e w' => e = .returned (.int .i64 (-1)) ∧ w = w') (h2 : Calls Tryz.prog 98 #[.pointer (some ⟨b2, 0, none⟩)] w fun e w' => e = .returned (.int .i64 1) ∧ w = w') :
 Calls Tryz.prog 55 #[.pointer (some ⟨b1, 0, none⟩), .pointer (some ⟨b2, 0, none⟩)] w fun e w' => e = .returned (.int .i64 (-1)) ∧ Below w.heap.size w w' := by
 go_enter Tryz.func55, Tryz.ntmps55
 go_wp2_with (first
  | (go_at_call 98; (with_reducible refine h1.mono ?_); rintro e w1 ⟨rfl, rfl⟩)
  | (go_at_call 98; (with_reducible refine h2.mono ?_); rintro e w1 ⟨rfl, rfl⟩))
 go_ret
 exact ⟨rfl, Below.refl _ _⟩
theorem nbRCmp_zn (b1 b2 : Nat) (w : World) (h1 : Calls Tryz.prog 98 #[.pointer (some ⟨b1, 0, none⟩)] w fun e w' => e = .returned (.int .i64 0) ∧ w = w') (h2 : Calls Tryz.prog 98 #[.pointer (some ⟨b2, 0, none⟩)] w fun e w' => e = .returned (.int .i64 (-1)) ∧ w = w') :
 Calls Tryz.prog 55 #[.pointer (some ⟨b1, 0, none⟩), .pointer (some ⟨b2, 0, none⟩)] w fun e w' => e = .returned (.int .i64 1) ∧ Below w.heap.size w w' := by
 go_enter Tryz.func55, Tryz.ntmps55
 go_wp2_with (first
  | (go_at_call 98; (with_reducible refine h1.mono ?_); rintro e w1 ⟨rfl, rfl⟩)
  | (go_at_call 98; (with_reducible refine h2.mono ?_); rintro e w1 ⟨rfl, rfl⟩))
 go_ret
 exact ⟨rfl, Below.refl _ _⟩
theorem nbRCmp_zz (b1 b2 : Nat) (w : World) (h1 : Calls Tryz.prog 98 #[.pointer (some ⟨b1, 0, none⟩)] w fun e w' => e = .returned (.int .i64 0) ∧ w = w') (h2 : Calls Tryz.prog 98 #[.pointer (some ⟨b2, 0, none⟩)] w fun e w' => e = .returned (.int .i64 0) ∧ w = w') :
 Calls Tryz.prog 55 #[.pointer (some ⟨b1, 0, none⟩), .pointer (some ⟨b2, 0, none⟩)] w fun e w' => e = .returned (.int .i64 0) ∧ Below w.heap.size w w' := by
 go_enter Tryz.func55, Tryz.ntmps55
 go_wp2_with (first
  | (go_at_call 98; (with_reducible refine h1.mono ?_); rintro e w1 ⟨rfl, rfl⟩)
  | (go_at_call 98; (with_reducible refine h2.mono ?_); rintro e w1 ⟨rfl, rfl⟩))
 go_ret
 exact ⟨rfl, Below.refl _ _⟩
theorem nbRCmp_zp (b1 b2 : Nat) (w : World) (h1 : Calls Tryz.prog 98 #[.pointer (some ⟨b1, 0, none⟩)] w fun e w' => e = .returned (.int .i64 0) ∧ w = w') (h2 : Calls Tryz.prog 98 #[.pointer (some ⟨b2, 0, none⟩)] w fun e w' => e = .returned (.int .i64 1) ∧ w = w') :
 Calls Tryz.prog 55 #[.pointer (some ⟨b1, 0, none⟩), .pointer (some ⟨b2, 0, none⟩)] w fun e w' => e = .returned (.int .i64 (-1)) ∧ Below w.heap.size w w' := by
 go_enter Tryz.func55, Tryz.ntmps55
 go_wp2_with (first
  | (go_at_call 98; (with_reducible refine h1.mono ?_); rintro e w1 ⟨rfl, rfl⟩)
  | (go_at_call 98; (with_reducible refine h2.mono ?_); rintro e w1 ⟨rfl, rfl⟩))
 go_ret
 exact ⟨rfl, Below.refl _ _⟩
theorem nbRCmp_pn (b1 b2 : Nat) (w : World) (h1 : Calls Tryz.prog 98 #[.pointer (some ⟨b1, 0, none⟩)] w fun e w' => e = .returned (.int .i64 1) ∧ w = w') (h2 : Calls Tryz.prog 98 #[.pointer (some ⟨b2, 0, none⟩)] w fun e w' => e = .returned (.int .i64 (-1)) ∧ w = w') :
 Calls Tryz.prog 55 #[.pointer (some ⟨b1, 0, none⟩), .pointer (some ⟨b2, 0, none⟩)] w fun e w' => e = .returned (.int .i64 1) ∧ Below w.heap.size w w' := by
 go_enter Tryz.func55, Tryz.ntmps55
 go_wp2_with (first
  | (go_at_call 98; (with_reducible refine h1.mono ?_); rintro e w1 ⟨rfl, rfl⟩)
  | (go_at_call 98; (with_reducible refine h2.mono ?_); rintro e w1 ⟨rfl, rfl⟩))
 go_ret
 exact ⟨rfl, Below.refl _ _⟩
theorem nbRCmp_pz (b1 b2 : Nat) (w : World) (h1 : Calls Tryz.prog 98 #[.pointer (some ⟨b1, 0, none⟩)] w fun e w' => e = .returned (.int .i64 1) ∧ w = w') (h2 : Calls Tryz.prog 98 #[.pointer (some ⟨b2, 0, none⟩)] w fun e w' => e = .returned (.int .i64 0) ∧ w = w') :
 Calls Tryz.prog 55 #[.pointer (some ⟨b1, 0, none⟩), .pointer (some ⟨b2, 0, none⟩)] w fun e w' => e = .returned (.int .i64 1) ∧ Below w.heap.size w w' := by
 go_enter Tryz.func55, Tryz.ntmps55
 go_wp2_with (first
  | (go_at_call 98; (with_reducible refine h1.mono ?_); rintro e w1 ⟨rfl, rfl⟩)
  | (go_at_call 98; (with_reducible refine h2.mono ?_); rintro e w1 ⟨rfl, rfl⟩))
 go_ret
 exact ⟨rfl, Below.refl _ _⟩
theorem nbRCmp_pp (b1 b2 B1 B2 : Nat) (x y : Rat) (w : World) (h1 : Rq 40 w B1 b1 x) (h2 : Rq 40 w B2 b2 y) (hx : x.num.sign = 1) (hy : y.num.sign = 1) (l1 : ln x.num.natAbs ≤ 67108864) (l2 : ln x.den ≤ 67108864) (l3 : ln y.num.natAbs ≤ 67108864) (l4 : ln y.den ≤ 67108864) :
 Calls Tryz.prog 55 #[.pointer (some ⟨b1, 0, none⟩), .pointer (some ⟨b2, 0, none⟩)] w fun e w' => e = .returned (.int .i64 (cmpQ x y)) ∧ Below w.heap.size w w' := by
 have hn0 : x.num ≠ 0 := by intro h; rw [h] at hx; exact absurd hx (by decide)
 have hS1 := nbRSignZ_any b1 B1 x w h1
 have hS2 := nbRSignZ_any b2 B2 y w h2
 have hC := Lib.hid (cmpQ_sizes hn0 (hx.trans hy.symm))
 have hdec : decide (x.num < 0) = false := decide_eq_false (by intro h; rw [Int.sign_eq_neg_one_of_neg h] at hx; exact absurd hx (by decide))
 rw [hx] at hS1
 rw [hy] at hS2
 have hB1 : ∀ W, Below w.heap.size w W → Calls Tryz.prog 100 #[.pointer (some ⟨b1, 0, none⟩)] W fun e w' => ∃ ao k c, e = .returned (.slice ao k c) ∧ Sl w' ao k c (limbs x.den) ∧ Below W.heap.size W w' := fun W hW => nbRbelow_any b1 B1 _ _ _ W (Ra.stay h1 hW)
 have hB2 : ∀ W, Below w.heap.size w W → Calls Tryz.prog 100 #[.pointer (some ⟨b2, 0, none⟩)] W fun e w' => ∃ ao k c, e = .returned (.slice ao k c) ∧ Sl w' ao k c (limbs y.den) ∧ Below W.heap.size W w' := fun W hW => nbRbelow_any b2 B2 _ _ _ W (Ra.stay h2 hW)
 obtain ⟨⟨a1, n1, c1, i1⟩, _, _⟩ := h1
 obtain ⟨⟨a2, n2, c2, i2⟩, _, _⟩ := h2
 have hn1 : n1 ≤ 67108864 := by rw [i1.len]; exact l1
 have hn2 : n2 ≤ 67108864 := by rw [i2.len]; exact l3
 have s1 := i1.fr.sl
 have s2 := i2.fr.sl
 obtain ⟨d0, d1, _, _, _, _, _⟩ := i1
 obtain ⟨_, e1, _, _, _, _, _⟩ := i2
 rw [hdec] at d0
 have hM1 : ∀ W a k c, Below w.heap.size w W → Sl W a k c (limbs y.den) → Calls Tryz.prog 99 #[.slice a1 n1 c1, .slice a k c] W (Wd 40 (x.num.natAbs * y.den) W) := fun W a k c hW hs => by
  have := nbMulW_any a1 a n1 k c1 c _ _ W (s1.below hW) hs (by omega) (by rw [← hs.len]; exact Nat.le_trans l4 (by decide))
  rwa [val_limbs', val_limbs'] at this
 have hM2 : ∀ W a k c, Below w.heap.size w W → Sl W a k c (limbs x.den) → Calls Tryz.prog 99 #[.slice a2 n2 c2, .slice a k c] W (Wd 40 (y.num.natAbs * x.den) W) := fun W a k c hW hs => by
  have := nbMulW_any a2 a n2 k c2 c _ _ W (s2.below hW) hs (by omega) (by rw [← hs.len]; exact Nat.le_trans l2 (by decide))
  rwa [val_limbs', val_limbs'] at this
 have hQ : ∀ W a k c a' k' c', Sl W a k c (limbs (x.num.natAbs * y.den)) → Sl W a' k' c' (limbs (y.num.natAbs * x.den)) → Calls Tryz.prog 60 #[.slice a k c, .slice a' k' c'] W fun e w' => e = .returned (.int .i64 (cmpN (x.num.natAbs * y.den) (y.num.natAbs * x.den))) ∧ Below W.heap.size W w' := fun W a k c a' k' c' hs hs' => by
  have := nbCmp_any a a' k k' c c' _ _ W hs hs' (fine_limbs _) (fine_limbs _)
  rwa [val_limbs', val_limbs'] at this
 have hcb : -1 ≤ cmpN (x.num.natAbs * y.den) (y.num.natAbs * x.den) ∧ cmpN (x.num.natAbs * y.den) (y.num.natAbs * x.den) ≤ 1 := by unfold cmpN; split <;> (try split) <;> decide
 generalize cmpN (x.num.natAbs * y.den) (y.num.natAbs * x.den) = q at *
 obtain ⟨hcb1, hcb2⟩ := hcb
 rw [if_neg (of_decide_eq_false hdec)] at hC
 clear l1 l2 l3 l4 hn1 hn2 s1 s2 hdec hx hy hn0
 go_enter Tryz.func55, Tryz.ntmps55
 go_wp2_with (first
  | (go_at_call 98; (with_reducible refine hS1.mono ?_); rintro e w1 ⟨rfl, rfl⟩)
  | (go_at_call 98; (with_reducible refine hS2.mono ?_); rintro e w1 ⟨rfl, rfl⟩))
 go_region_held3 (fun w' => w'.cell? ⟨b1, 1, none⟩ = some (.slice a1 n1 c1) ∧ w'.cell? ⟨b2, 1, none⟩ = some (.slice a2 n2 c2))
  ((first | exact ⟨cellStay d1 WE, cellStay e1 WE⟩ | exact ⟨cellStay d1 WD, cellStay e1 WD⟩ | exact ⟨cellStay d1 WC, cellStay e1 WC⟩ | exact ⟨cellStay d1 WB, cellStay e1 WB⟩ | exact ⟨cellStay d1 WA, cellStay e1 WA⟩ | (go_keep; done)))
  (first
    | (go_at_call 100; (with_reducible refine (hB2 _ ?_).mono ?_); (exact (Below.refl _ _).drew); rintro en wA ⟨a3, n3, c3, rfl, s3, hbA⟩; have WA : Below w.heap.size w wA := undrew hbA)
    | (go_at_call 99; (with_reducible refine (hM1 _ _ _ _ ?_ ?_).mono ?_); (exact WA); (exact s3); rintro en wB ⟨a4, n4, c4, rfl, F4, hbB⟩; have WB := next WA hbB)
    | (go_at_call 100; (with_reducible refine (hB1 _ ?_).mono ?_); (exact WB); rintro en wC ⟨a5, n5, c5, rfl, s5, hbC⟩; have WC := next WB hbC)
    | (go_at_call 99; (with_reducible refine (hM2 _ _ _ _ ?_ ?_).mono ?_); (exact WC); (exact s5); rintro en wD ⟨a6, n6, c6, rfl, F6, hbD⟩; have WD := next WC hbD)
    | (go_at_call 60; (with_reducible refine (hQ _ _ _ _ _ _ _ ?_ ?_).mono ?_); (exact (F4.below (next hbC hbD)).sl); (exact F6.sl); rintro en wE ⟨rfl, hbE⟩; have WE := next WD hbE))
 all_goals have f0 := cellStay d0 WE
 all_goals go_wp2
 all_goals go_ret
 all_goals exact ⟨by rw [hC.out]; rfl, WE⟩
theorem nbRCmp_nn (b1 b2 B1 B2 : Nat) (x y : Rat) (w : World) (h1 : Rq 40 w B1 b1 x) (h2 : Rq 40 w B2 b2 y) (hx : x.num.sign = (-1)) (hy : y.num.sign = (-1)) (l1 : ln x.num.natAbs ≤ 67108864) (l2 : ln x.den ≤ 67108864) (l3 : ln y.num.natAbs ≤ 67108864) (l4 : ln y.den ≤ 67108864) :
 Calls Tryz.prog 55 #[.pointer (some ⟨b1, 0, none⟩), .pointer (some ⟨b2, 0, none⟩)] w fun e w' => e = .returned (.int .i64 (cmpQ x y)) ∧ Below w.heap.size w w' := by
 have hn0 : x.num ≠ 0 := by intro h; rw [h] at hx; exact absurd hx (by decide)
 have hS1 := nbRSignZ_any b1 B1 x w h1
 have hS2 := nbRSignZ_any b2 B2 y w h2
 have hC := Lib.hid (cmpQ_sizes hn0 (hx.trans hy.symm))
 have hdec : decide (x.num < 0) = true := decide_eq_true (by rcases Int.lt_or_le x.num 0 with h | h; exact h; exfalso; have := Int.sign_nonneg_iff.2 h; omega)
 rw [hx] at hS1
 rw [hy] at hS2
 have hB1 : ∀ W, Below w.heap.size w W → Calls Tryz.prog 100 #[.pointer (some ⟨b1, 0, none⟩)] W fun e w' => ∃ ao k c, e = .returned (.slice ao k c) ∧ Sl w' ao k c (limbs x.den) ∧ Below W.heap.size W w' := fun W hW => nbRbelow_any b1 B1 _ _ _ W (Ra.stay h1 hW)
 have hB2 : ∀ W, Below w.heap.size w W → Calls Tryz.prog 100 #[.pointer (some ⟨b2, 0, none⟩)] W fun e w' => ∃ ao k c, e = .returned (.slice ao k c) ∧ Sl w' ao k c (limbs y.den) ∧ Below W.heap.size W w' := fun W hW => nbRbelow_any b2 B2 _ _ _ W (Ra.stay h2 hW)
 obtain ⟨⟨a1, n1, c1, i1⟩, _, _⟩ := h1
 obtain ⟨⟨a2, n2, c2, i2⟩, _, _⟩ := h2
 have hn1 : n1 ≤ 67108864 := by rw [i1.len]; exact l1
 have hn2 : n2 ≤ 67108864 := by rw [i2.len]; exact l3
 have s1 := i1.fr.sl
 have s2 := i2.fr.sl
 obtain ⟨d0, d1, _, _, _, _, _⟩ := i1
 obtain ⟨_, e1, _, _, _, _, _⟩ := i2
 rw [hdec] at d0
 have hM1 : ∀ W a k c, Below w.heap.size w W → Sl W a k c (limbs y.den) → Calls Tryz.prog 99 #[.slice a1 n1 c1, .slice a k c] W (Wd 40 (x.num.natAbs * y.den) W) := fun W a k c hW hs => by
  have := nbMulW_any a1 a n1 k c1 c _ _ W (s1.below hW) hs (by omega) (by rw [← hs.len]; exact Nat.le_trans l4 (by decide))
  rwa [val_limbs', val_limbs'] at this
 have hM2 : ∀ W a k c, Below w.heap.size w W → Sl W a k c (limbs x.den) → Calls Tryz.prog 99 #[.slice a2 n2 c2, .slice a k c] W (Wd 40 (y.num.natAbs * x.den) W) := fun W a k c hW hs => by
  have := nbMulW_any a2 a n2 k c2 c _ _ W (s2.below hW) hs (by omega) (by rw [← hs.len]; exact Nat.le_trans l2 (by decide))
  rwa [val_limbs', val_limbs'] at this
 have hQ : ∀ W a k c a' k' c', Sl W a k c (limbs (x.num.natAbs * y.den)) → Sl W a' k' c' (limbs (y.num.natAbs * x.den)) → Calls Tryz.prog 60 #[.slice a k c, .slice a' k' c'] W fun e w' => e = .returned (.int .i64 (cmpN (x.num.natAbs * y.den) (y.num.natAbs * x.den))) ∧ Below W.heap.size W w' := fun W a k c a' k' c' hs hs' => by
  have := nbCmp_any a a' k k' c c' _ _ W hs hs' (fine_limbs _) (fine_limbs _)
  rwa [val_limbs', val_limbs'] at this
 have hcb : -1 ≤ cmpN (x.num.natAbs * y.den) (y.num.natAbs * x.den) ∧ cmpN (x.num.natAbs * y.den) (y.num.natAbs * x.den) ≤ 1 := by unfold cmpN; split <;> (try split) <;> decide
 generalize cmpN (x.num.natAbs * y.den) (y.num.natAbs * x.den) = q at *
 obtain ⟨hcb1, hcb2⟩ := hcb
 rw [if_pos (of_decide_eq_true hdec)] at hC
 clear l1 l2 l3 l4 hn1 hn2 s1 s2 hdec hx hy hn0
 go_enter Tryz.func55, Tryz.ntmps55
 go_wp2_with (first
  | (go_at_call 98; (with_reducible refine hS1.mono ?_); rintro e w1 ⟨rfl, rfl⟩)
  | (go_at_call 98; (with_reducible refine hS2.mono ?_); rintro e w1 ⟨rfl, rfl⟩))
 go_region_held3 (fun w' => w'.cell? ⟨b1, 1, none⟩ = some (.slice a1 n1 c1) ∧ w'.cell? ⟨b2, 1, none⟩ = some (.slice a2 n2 c2))
  ((first | exact ⟨cellStay d1 WE, cellStay e1 WE⟩ | exact ⟨cellStay d1 WD, cellStay e1 WD⟩ | exact ⟨cellStay d1 WC, cellStay e1 WC⟩ | exact ⟨cellStay d1 WB, cellStay e1 WB⟩ | exact ⟨cellStay d1 WA, cellStay e1 WA⟩ | (go_keep; done)))
  (first
    | (go_at_call 100; (with_reducible refine (hB2 _ ?_).mono ?_); (exact (Below.refl _ _).drew); rintro en wA ⟨a3, n3, c3, rfl, s3, hbA⟩; have WA : Below w.heap.size w wA := undrew hbA)
    | (go_at_call 99; (with_reducible refine (hM1 _ _ _ _ ?_ ?_).mono ?_); (exact WA); (exact s3); rintro en wB ⟨a4, n4, c4, rfl, F4, hbB⟩; have WB := next WA hbB)
    | (go_at_call 100; (with_reducible refine (hB1 _ ?_).mono ?_); (exact WB); rintro en wC ⟨a5, n5, c5, rfl, s5, hbC⟩; have WC := next WB hbC)
    | (go_at_call 99; (with_reducible refine (hM2 _ _ _ _ ?_ ?_).mono ?_); (exact WC); (exact s5); rintro en wD ⟨a6, n6, c6, rfl, F6, hbD⟩; have WD := next WC hbD)
    | (go_at_call 60; (with_reducible refine (hQ _ _ _ _ _ _ _ ?_ ?_).mono ?_); (exact (F4.below (next hbC hbD)).sl); (exact F6.sl); rintro en wE ⟨rfl, hbE⟩; have WE := next WD hbE))
 all_goals have f0 := cellStay d0 WE
 all_goals go_wp2
 all_goals go_ret
 all_goals exact ⟨by rw [hC.out]; rfl, WE⟩
theorem nbRCmp_any (b1 b2 B1 B2 : Nat) (x y : Rat) (w : World) (h1 : Rq 40 w B1 b1 x) (h2 : Rq 40 w B2 b2 y) (l1 : ln x.num.natAbs ≤ 67108864) (l2 : ln x.den ≤ 67108864) (l3 : ln y.num.natAbs ≤ 67108864) (l4 : ln y.den ≤ 67108864) :
 Calls Tryz.prog 55 #[.pointer (some ⟨b1, 0, none⟩), .pointer (some ⟨b2, 0, none⟩)] w fun e w' => e = .returned (.int .i64 (cmpQ x y)) ∧ Below w.heap.size w w' := by
 have hS1 := nbRSignZ_any b1 B1 x w h1
 have hS2 := nbRSignZ_any b2 B2 y w h2
 have sg : ∀ z : Int, z.sign = -1 ∨ z.sign = 0 ∨ z.sign = 1 := fun z => by
  rcases Int.lt_trichotomy z 0 with h | h | h
  · exact .inl (Int.sign_eq_neg_one_of_neg h)
  · subst h; exact .inr (.inl rfl)
  · exact .inr (.inr (Int.sign_eq_one_of_pos h))
 rcases sg x.num with u | u | u <;> rcases sg y.num with v | v | v
 · exact nbRCmp_nn b1 b2 B1 B2 x y w h1 h2 u v l1 l2 l3 l4
 · have hq := cmpQ_signs (x := x) (y := y) (by rw [u, v]; decide)
   rw [u, v] at hq
   rw [u] at hS1
   rw [v] at hS2
   rw [show cmpQ x y = _ from hq]
   exact nbRCmp_nz b1 b2 w hS1 hS2
 · have hq := cmpQ_signs (x := x) (y := y) (by rw [u, v]; decide)
   rw [u, v] at hq
   rw [u] at hS1
   rw [v] at hS2
   rw [show cmpQ x y = _ from hq]
   exact nbRCmp_np b1 b2 w hS1 hS2
 · have hq := cmpQ_signs (x := x) (y := y) (by rw [u, v]; decide)
   rw [u, v] at hq
   rw [u] at hS1
   rw [v] at hS2
   rw [show cmpQ x y = _ from hq]
   exact nbRCmp_zn b1 b2 w hS1 hS2
 · have hq := cmpQ_signs (x := x) (y := y) (by rw [u, v]; decide)
   rw [u, v] at hq
   rw [u] at hS1
   rw [v] at hS2
   rw [show cmpQ x y = _ from hq]
   exact nbRCmp_zz b1 b2 w hS1 hS2
 · have hq := cmpQ_signs (x := x) (y := y) (by rw [u, v]; decide)
   rw [u, v] at hq
   rw [u] at hS1
   rw [v] at hS2
   rw [show cmpQ x y = _ from hq]
   exact nbRCmp_zp b1 b2 w hS1 hS2
 · have hq := cmpQ_signs (x := x) (y := y) (by rw [u, v]; decide)
   rw [u, v] at hq
   rw [u] at hS1
   rw [v] at hS2
   rw [show cmpQ x y = _ from hq]
   exact nbRCmp_pn b1 b2 w hS1 hS2
 · have hq := cmpQ_signs (x := x) (y := y) (by rw [u, v]; decide)
   rw [u, v] at hq
   rw [u] at hS1
   rw [v] at hS2
   rw [show cmpQ x y = _ from hq]
   exact nbRCmp_pz b1 b2 w hS1 hS2
 · exact nbRCmp_pp b1 b2 B1 B2 x y w h1 h2 u v l1 l2 l3 l4
end
section
attribute [local go_sem ↓] Go.wp_at_zero Go.wp_at_succ
theorem val_drop_next (xs : List Nat) (t : Nat) (h : t < xs.length) : val (xs.drop t) = val (xs.drop (t + 1)) * 4294967296 + nth xs t := by
 rw [List.drop_eq_getElem_cons h, val]
 unfold nth
 rw [List.getD_eq_getElem?_getD, List.getElem?_eq_getElem h, Option.getD_some]
 omega
theorem rdLarge_any (ao : Option Addr) (n c : Nat) (xs : List Nat) (w : World) (h : Sl w ao n c xs) (hn : n ≤ 8388608) :
 Calls Tryz.prog 47 #[.agg #[.slice ao n c]] w (MkZ 40 (val xs : Int) w) := by
 have hle := h.le
 have hcap := h.cap
 have hlen := h.len
 have HV : Hid (∀ t, t < n → val (xs.drop t) = val (xs.drop (t + 1)) * 4294967296 + nth xs t) := Lib.hid (fun t ht => val_drop_next xs t (by omega))
 have HL : Hid (∀ j, ln (val (xs.drop j)) ≤ 8388608) := Lib.hid (fun j => Nat.le_trans (ln_le (val_lt (ok_drop h.ok j))) (by rw [List.length_drop]; omega))
 obtain ⟨W2, hW2⟩ : ∃ W2 : World, W2 = (w.alloc (.cells #[.slice ao n c] 27)).alloc (.cells #[.bool false, .slice none 0 0] 86) := ⟨_, rfl⟩
 have hb2 : Below w.heap.size w W2 := hW2 ▸ more (more (Below.refl _ _) _) _
 have hI : Iz 40 W2 (w.heap.size + 1) (w.heap.size + 1) ((val (xs.drop n) : Nat) : Int) := by
  have := iz_new (e := 40) (t := 86) (w.alloc (.cells #[.slice ao n c] 27))
  rw [World.size_alloc] at this
  rw [hW2, List.drop_of_length_le (by omega)]
  exact this
 have hc : W2.cell? ⟨w.heap.size, 0, none⟩ = some (.slice ao n c) := by rw [hW2]; simp [World.cell?_alloc_some]
 have HD0 : Hid (val xs = val (xs.drop 0)) := Lib.hid (by rw [List.drop_zero])
 clear hlen
 go_enter Tryz.func47, Tryz.ntmps47
 go_wp2
 rw [← hW2]
 clear hW2
 go_loopw [4] (fun iv wr => ∃ j : Nat, j ≤ n ∧ iv = .int .i64 ((j : Int) - 1) ∧ Iz 40 wr (w.heap.size + 1) (w.heap.size + 1) ((val (xs.drop j) : Nat) : Int) ∧ wr.cell? ⟨w.heap.size, 0, none⟩ = some (.slice ao n c) ∧ Below w.heap.size w wr) (fun iv _ => (intOf iv + 1).toNat)
 case atStart => exact ⟨n, Nat.le_refl _, rfl, hI, hc, hb2⟩
 case round =>
  obtain ⟨j, hj, rfl, hI, hc, hW⟩ := hrel
  clear hb2
  by_cases hj0 : j = 0
  · subst hj0
    have j1 : ¬ ((0 : Nat) : Int) - 1 ≥ 0 := by decide
    go_wp2
    go_ret
    exact ⟨_, rfl, by rw [HD0.out]; exact hI.mono (Nat.le_succ _), hW⟩
  · obtain ⟨t, rfl⟩ : ∃ t, j = t + 1 := ⟨j - 1, by omega⟩
    have ej : ((t + 1 : Nat) : Int) - 1 = (t : Int) := by omega
    rw [ej]
    have htn : t < n := by omega
    obtain ⟨g, o, rfl, hg, hcc⟩ := (h.below hW).at_ (by omega)
    have hcell := hcc t htn
    have hlt := nth_lt h.ok t
    have hv := HV.out t htn
    have HVt := Lib.hid hv
    have hl1 := HL.out (t + 1)
    have HT : Hid (t + 1 ≤ n) := Lib.hid hj
    have hgw : g ≠ w.heap.size + 1 := by
     obtain ⟨g', o', e', hg', _⟩ := h.at_ (by omega)
     cases e'
     omega
    generalize val (xs.drop (t + 1)) = V at *
    generalize nth xs t = x at *
    have i1 : (0 : Int) ≤ (t : Int) := by omega
    have i2 : (t : Int) < (n : Int) := by omega
    have i3 : (t : Int) ≥ 0 := by omega
    have hzc := hI.zc
    have hsz := hW.size
    have hbl := hI.lt
    have hLs := bgLsh_any (w.heap.size + 1) (w.heap.size + 1) (w.heap.size + 1) (w.heap.size + 1) 32 (V : Int) wr.drew (hzc.stay (Below.refl _ _).drew) (Nat.le_of_lt hbl) (hI.stay (Below.refl _ _).drew) (by rw [Int.natAbs_natCast]; omega) (by decide)
    rw [show (V : Int) * 2 ^ 32 = ((V * 4294967296 : Nat) : Int) by simp, show ((32 : Nat) : Int) = 32 from rfl] at hLs
    have hwx : IntKind.i64.wrap (x : Int) = (x : Int) := IntWalk.i64_in _ (by omega)
    have hz2 := hzc.stay (Below.refl wr.heap.size wr).drew
    have hN := bgNewZ_any (x : Int)
    have hO : ∀ W B bb, Below w.heap.size w W → Iz 40 W (w.heap.size + 1) (w.heap.size + 1) ((V * 4294967296 : Nat) : Int) → Iz 40 W B bb (x : Int) → Calls Tryz.prog 86 #[.pointer (some ⟨w.heap.size + 1, 0, none⟩), .pointer (some ⟨w.heap.size + 1, 0, none⟩), .pointer (some ⟨bb, 0, none⟩)] W (StZ 40 (w.heap.size + 1) (w.heap.size + 1) ((V * 4294967296 + x : Nat) : Int) W) := fun W B bb hW hi hx =>
     bgOrLow_any (w.heap.size + 1) (w.heap.size + 1) (w.heap.size + 1) B (w.heap.size + 1) bb _ x W hi.zc (Nat.le_of_lt hi.lt) hi hx (by omega) hlt (by
      have e : V * 4294967296 = V * 2 ^ 32 := rfl
      rw [e]
      exact Nat.le_trans (ln_shl V 32) (by omega))
    have hw0 : w.heap.size ≠ w.heap.size + 1 := by omega
    clear hcc hv hl1 ej hj hj0
    go_wp2
    go_region_held3 (fun w' => w'.cell? ⟨w.heap.size, 0, none⟩ = some (.slice (some ⟨g, o, none⟩) n c) ∧ w'.cell? ⟨g, o + t, none⟩ = some (.int .u32 (x : Int)))
     ((first | exact ⟨p2, p3⟩ | exact ⟨o2, o3⟩ | exact ⟨f2, f3⟩ | (go_keep; done)))
     (first
       | (go_at_call 85; (with_reducible refine hLs.mono ?_); rintro en wA hS; have VA := hS.below hW.drew hsz (Nat.le_succ _); have hgA := hS.grown; obtain ⟨rfl, hIA, _⟩ := hS.in_ hz2 (Nat.le_refl _); have f2 := hgA.cell hc (fun e => by injection e with e; exact hw0 e); have f3 := hgA.cell hcell (fun e => by injection e with e; exact hgw e))
       | (go_at_call 51; (with_reducible refine (hN _ ?_).mono ?_); (exact ⟨by omega, by omega⟩); rintro en wB ⟨bb, rfl, hIx, hbB⟩; have o2 := cellStay f2 hbB; have o3 := cellStay f3 hbB; have VB := next VA hbB; have hIB := hIA.stay hbB)
       | (go_at_call 86; (with_reducible refine (hO _ _ _ VB hIB hIx).mono ?_); rintro en wC hS; have VC := hS.below VB VB.size (Nat.le_succ _); have hgC := hS.grown; obtain ⟨rfl, hIC, _⟩ := hS.in_ hIB.zc (Nat.le_refl _); have p2 := hgC.cell o2 (fun e => by injection e with e; exact hw0 e); have p3 := hgC.cell o3 (fun e => by injection e with e; exact hgw e)))
    all_goals
     rw [← HVt.out] at hIC
     go_wp2
     exact ⟨⟨t, by have := HT.out; omega, rfl, hIC, p2, VC⟩, by simp [intOf] <;> omega⟩
end
end Go.Proofs.YtpmncmglmobjoaaGreatDoor
