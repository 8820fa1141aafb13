/-
  Contracts of numeral/big: Rat: times, Mul, Quo. (Printed by wip/gen/bigR.py.) Contracts of numeral/big: Rat: SetInt, SetInt64, Inv, Set, Abs, Neg, IsInt, Cmp, SetFrac, NewRat, Num, Denom, Sign. (Printed by wip/gen/bigS.py.) Contracts of numeral/big: Rat: Cmp, added, Add, Sub. (Printed by wip/gen/bigU.py.)
-/
import Derived.Test.YtfjgmpfpadfknaaGreatDoorQbNMN19
set_option maxHeartbeats 4000000
set_option maxRecDepth 100000
namespace Go.Proofs.YtfjgmpfpadfknaaGreatDoor
open Go.RowKit Go.Lb
section
attribute [local go_sem ↓] Go.wp_at_zero Go.wp_at_succ
theorem bgBy_sl (a1 a2 : Option Addr) (n1 n2 c1 c2 N G : Nat) (w : World) (h1 : Sl w a1 n1 c1 (limbs N)) (h2 : Sl w a2 n2 c2 (limbs G)) (hn : n1 ≤ 1073741824) (h0 : G ≠ 0) :
 Calls Tryz.prog 197 #[.slice a1 n1 c1, .slice a2 n2 c2] w fun e w' => ∃ ao k c, e = .returned (.slice ao k c) ∧ Sl w' ao k c (limbs (N / G)) ∧ k ≤ n1 ∧ Below w.heap.size w w' := by
 have hG : val (limbs G) = G := val_limbs' G
 have hN : val (limbs N) = N := val_limbs' N
 refine (bgBy_any a1 a2 n1 n2 c1 c2 (limbs N) (limbs G) w h1 h2 (fine_limbs _) (fine_limbs _) hn (by rw [hG]; exact h0)).mono ?_
 rintro e w' ⟨ao, k, c, rfl, hS, _, hb⟩
 rw [hN, hG] at hS
 refine ⟨ao, k, c, rfl, hS, ?_, hb⟩
 rw [← hS.len, ← h1.len]
 exact ln_div N G
end
section
attribute [local go_sem ↓] Go.wp_at_zero Go.wp_at_succ
theorem bgRSetInt_any (b base B1 b1 : Nat) (x : Int) (w : World) (hr : Res3 w b) (hbb : base ≤ b) (h1 : Iz 75 w B1 b1 x) (l1 : ln x.natAbs ≤ 4294967296) :
 Calls Tryz.prog 98 #[.pointer (some ⟨b, 0, none⟩), .pointer (some ⟨b1, 0, none⟩)] w (StQ 75 b base (x : Rat) w) := by
 have hbl := hr.lt
 have hS := bgSetZ_any b base B1 b1 x w hr.zc (by omega) h1 l1
 go_enter Tryz.func98, Tryz.ntmps98
 go_wp2_with fail
 refine hS.mono ?_
 rintro e w2 hS
 obtain ⟨ao, k, c, w1, rfl, hb1, hF, hne, rfl⟩ := hS
 have R1 := hr.stay hb1
 have hI := setIn_in R1.zc (decide (x < 0)) hF hne hbb
 have R2 := R1.setIn (decide (x < 0)) (.slice ao k c)
 have G := grown_trans (grown_below hb1 (some b)) (setIn_grown w1 b (decide (x < 0)) (.slice ao k c))
 generalize setIn w1 b (decide (x < 0)) (.slice ao k c) = w2 at *
 have cc2 := R2.c2
 have cz2 := R2.z2
 go_wp2
 go_ret
 refine ⟨rfl, ?_, grown_trans G (grown_set _ _ _ _)⟩
 exact ra_of (s := decide (x < 0)) (N := x.natAbs) (D := 1) hI R2 (ds := []) (fr_nil _ _ _) ⟨by decide, .inr ⟨rfl, rfl⟩⟩ (by simp [blkOf])
theorem bgRSetInt64_any (b base : Nat) (x : Int) (w : World) (hr : Res3 w b) (hbb : base ≤ b) (hx : -9223372036854775808 ≤ x ∧ x ≤ 9223372036854775807) :
 Calls Tryz.prog 145 #[.pointer (some ⟨b, 0, none⟩), .int .i64 x] w (StQ 75 b base (x : Rat) w) := by
 have hN := bgNewZ_any x w hx
 have hl : Hid (ln x.natAbs ≤ 4294967296) := Lib.hid (Nat.le_trans (ln_small2 (by omega)) (by decide))
 clear hx
 go_enter Tryz.func145, Tryz.ntmps145
 go_wp2_with fail
 refine hN.mono ?_
 rintro e w1 ⟨b1, rfl, hI, hb1⟩
 go_wp2_with fail
 refine (bgRSetInt_any b base _ b1 x w1 (hr.stay hb1) hbb hI hl.out).mono ?_
 rintro e w2 hS
 obtain rfl := hS.1
 go_wp2
 go_ret
 exact hS.pre hb1
theorem bgRSignZ_any (b base : Nat) (x : Rat) (w : World) (h : Rq 75 w base b x) :
 Calls Tryz.prog 95 #[.pointer (some ⟨b, 0, none⟩)] w fun e w' => e = .returned (.int .i64 x.num.sign) ∧ w = w' := by
 have := bgRSign_any b base _ _ _ w h
 rwa [sgnI_z] at this
end
section
attribute [local go_sem ↓] Go.wp_at_zero Go.wp_at_succ
theorem bgRCmp_nz (b1 b2 : Nat) (w : World) (h1 : Calls Tryz.prog 95 #[.pointer (some ⟨b1, 0, none⟩)] w fun e w' => e = .returned (.int .i64 (-1)) ∧ w = w') (h2 : Calls Tryz.prog 95 #[.pointer (some ⟨b2, 0, none⟩)] w fun e w' => e = .returned (.int .i64 0) ∧ w = w') :
 Calls Tryz.prog 76 #[.pointer (some ⟨b1, 0, none⟩), .pointer (some ⟨b2, 0, none⟩)] w fun e w' => e = .returned (.int .i64 (-1)) ∧ Below w.heap.size w w' := by
 go_enter Tryz.func76, Tryz.ntmps76
 go_wp2_with (first
  | (go_at_call 95; (with_reducible refine h1.mono ?_); rintro e w1 ⟨rfl, rfl⟩)
  | (go_at_call 95; (with_reducible refine h2.mono ?_); rintro e w1 ⟨rfl, rfl⟩))
 go_ret
 exact ⟨rfl, Below.refl _ _⟩
theorem bgRCmp_np (b1 b2 : Nat) (w : World) (h1 : Calls Tryz.prog 95 #[.pointer (some ⟨b1, 0, none⟩)] w fun e w' => e = .returned (.int .i64 (-1)) ∧ w = w') (h2 : Calls Tryz.prog 95 #[.pointer (some ⟨b2, 0, none⟩)] w fun e w' => e = .returned (.int .i64 1) ∧ w = w') :
 Calls Tryz.prog 76 #[.pointer (some ⟨b1, 0, none⟩), .pointer (some ⟨b2, 0, none⟩)] w fun e w' => e = .returned (.int .i64 (-1)) ∧ Below w.heap.size w w' := by
 go_enter Tryz.func76, Tryz.ntmps76
 go_wp2_with (first
  | (go_at_call 95; (with_reducible refine h1.mono ?_); rintro e w1 ⟨rfl, rfl⟩)
  | (go_at_call 95; (with_reducible refine h2.mono ?_); rintro e w1 ⟨rfl, rfl⟩))
 go_ret
 exact ⟨rfl, Below.refl _ _⟩
theorem bgRCmp_zn (b1 b2 : Nat) (w : World) (h1 : Calls Tryz.prog 95 #[.pointer (some ⟨b1, 0, none⟩)] w fun e w' => e = .returned (.int .i64 0) ∧ w = w') (h2 : Calls Tryz.prog 95 #[.pointer (some ⟨b2, 0, none⟩)] w fun e w' => e = .returned (.int .i64 (-1)) ∧ w = w') :
 Calls Tryz.prog 76 #[.pointer (some ⟨b1, 0, none⟩), .pointer (some ⟨b2, 0, none⟩)] w fun e w' => e = .returned (.int .i64 1) ∧ Below w.heap.size w w' := by
 go_enter Tryz.func76, Tryz.ntmps76
 go_wp2_with (first
  | (go_at_call 95; (with_reducible refine h1.mono ?_); rintro e w1 ⟨rfl, rfl⟩)
  | (go_at_call 95; (with_reducible refine h2.mono ?_); rintro e w1 ⟨rfl, rfl⟩))
 go_ret
 exact ⟨rfl, Below.refl _ _⟩
theorem bgRCmp_zz (b1 b2 : Nat) (w : World) (h1 : Calls Tryz.prog 95 #[.pointer (some ⟨b1, 0, none⟩)] w fun e w' => e = .returned (.int .i64 0) ∧ w = w') (h2 : Calls Tryz.prog 95 #[.pointer (some ⟨b2, 0, none⟩)] w fun e w' => e = .returned (.int .i64 0) ∧ w = w') :
 Calls Tryz.prog 76 #[.pointer (some ⟨b1, 0, none⟩), .pointer (some ⟨b2, 0, none⟩)] w fun e w' => e = .returned (.int .i64 0) ∧ Below w.heap.size w w' := by
 go_enter Tryz.func76, Tryz.ntmps76
 go_wp2_with (first
  | (go_at_call 95; (with_reducible refine h1.mono ?_); rintro e w1 ⟨rfl, rfl⟩)
  | (go_at_call 95; (with_reducible refine h2.mono ?_); rintro e w1 ⟨rfl, rfl⟩))
 go_ret
 exact ⟨rfl, Below.refl _ _⟩
theorem bgRCmp_zp (b1 b2 : Nat) (w : World) (h1 : Calls Tryz.prog 95 #[.pointer (some ⟨b1, 0, none⟩)] w fun e w' => e = .returned (.int .i64 0) ∧ w = w') (h2 : Calls Tryz.prog 95 #[.pointer (some ⟨b2, 0, none⟩)] w fun e w' => e = .returned (.int .i64 1) ∧ w = w') :
 Calls Tryz.prog 76 #[.pointer (some ⟨b1, 0, none⟩), .pointer (some ⟨b2, 0, none⟩)] w fun e w' => e = .returned (.int .i64 (-1)) ∧ Below w.heap.size w w' := by
 go_enter Tryz.func76, Tryz.ntmps76
 go_wp2_with (first
  | (go_at_call 95; (with_reducible refine h1.mono ?_); rintro e w1 ⟨rfl, rfl⟩)
  | (go_at_call 95; (with_reducible refine h2.mono ?_); rintro e w1 ⟨rfl, rfl⟩))
 go_ret
 exact ⟨rfl, Below.refl _ _⟩
theorem bgRCmp_pn (b1 b2 : Nat) (w : World) (h1 : Calls Tryz.prog 95 #[.pointer (some ⟨b1, 0, none⟩)] w fun e w' => e = .returned (.int .i64 1) ∧ w = w') (h2 : Calls Tryz.prog 95 #[.pointer (some ⟨b2, 0, none⟩)] w fun e w' => e = .returned (.int .i64 (-1)) ∧ w = w') :
 Calls Tryz.prog 76 #[.pointer (some ⟨b1, 0, none⟩), .pointer (some ⟨b2, 0, none⟩)] w fun e w' => e = .returned (.int .i64 1) ∧ Below w.heap.size w w' := by
 go_enter Tryz.func76, Tryz.ntmps76
 go_wp2_with (first
  | (go_at_call 95; (with_reducible refine h1.mono ?_); rintro e w1 ⟨rfl, rfl⟩)
  | (go_at_call 95; (with_reducible refine h2.mono ?_); rintro e w1 ⟨rfl, rfl⟩))
 go_ret
 exact ⟨rfl, Below.refl _ _⟩
theorem bgRCmp_pz (b1 b2 : Nat) (w : World) (h1 : Calls Tryz.prog 95 #[.pointer (some ⟨b1, 0, none⟩)] w fun e w' => e = .returned (.int .i64 1) ∧ w = w') (h2 : Calls Tryz.prog 95 #[.pointer (some ⟨b2, 0, none⟩)] w fun e w' => e = .returned (.int .i64 0) ∧ w = w') :
 Calls Tryz.prog 76 #[.pointer (some ⟨b1, 0, none⟩), .pointer (some ⟨b2, 0, none⟩)] w fun e w' => e = .returned (.int .i64 1) ∧ Below w.heap.size w w' := by
 go_enter Tryz.func76, Tryz.ntmps76
 go_wp2_with (first
  | (go_at_call 95; (with_reducible refine h1.mono ?_); rintro e w1 ⟨rfl, rfl⟩)
  | (go_at_call 95; (with_reducible refine h2.mono ?_); rintro e w1 ⟨rfl, rfl⟩))
 go_ret
 exact ⟨rfl, Below.refl _ _⟩
theorem bgRCmp_pp (b1 b2 B1 B2 : Nat) (x y : Rat) (w : World) (h1 : Rq 75 w B1 b1 x) (h2 : Rq 75 w B2 b2 y) (hx : x.num.sign = 1) (hy : y.num.sign = 1) (l1 : ln x.num.natAbs ≤ 67108864) (l2 : ln x.den ≤ 67108864) (l3 : ln y.num.natAbs ≤ 67108864) (l4 : ln y.den ≤ 67108864) :
 Calls Tryz.prog 76 #[.pointer (some ⟨b1, 0, none⟩), .pointer (some ⟨b2, 0, none⟩)] w fun e w' => e = .returned (.int .i64 (cmpQ x y)) ∧ Below w.heap.size w w' := by
 have hn0 : x.num ≠ 0 := by intro h; rw [h] at hx; exact absurd hx (by decide)
 have hS1 := bgRSignZ_any b1 B1 x w h1
 have hS2 := bgRSignZ_any b2 B2 y w h2
 have hC := Lib.hid (cmpQ_sizes hn0 (hx.trans hy.symm))
 have hdec : decide (x.num < 0) = false := decide_eq_false (by intro h; rw [Int.sign_eq_neg_one_of_neg h] at hx; exact absurd hx (by decide))
 rw [hx] at hS1
 rw [hy] at hS2
 have hB1 : ∀ W, Below w.heap.size w W → Calls Tryz.prog 137 #[.pointer (some ⟨b1, 0, none⟩)] W fun e w' => ∃ ao k c, e = .returned (.slice ao k c) ∧ Sl w' ao k c (limbs x.den) ∧ Below W.heap.size W w' := fun W hW => bgRbelow_any b1 B1 _ _ _ W (Ra.stay h1 hW)
 have hB2 : ∀ W, Below w.heap.size w W → Calls Tryz.prog 137 #[.pointer (some ⟨b2, 0, none⟩)] W fun e w' => ∃ ao k c, e = .returned (.slice ao k c) ∧ Sl w' ao k c (limbs y.den) ∧ Below W.heap.size W w' := fun W hW => bgRbelow_any b2 B2 _ _ _ W (Ra.stay h2 hW)
 obtain ⟨⟨a1, n1, c1, i1⟩, _, _⟩ := h1
 obtain ⟨⟨a2, n2, c2, i2⟩, _, _⟩ := h2
 have hn1 : n1 ≤ 67108864 := by rw [i1.len]; exact l1
 have hn2 : n2 ≤ 67108864 := by rw [i2.len]; exact l3
 have s1 := i1.fr.sl
 have s2 := i2.fr.sl
 obtain ⟨d0, d1, _, _, _, _, _⟩ := i1
 obtain ⟨_, e1, _, _, _, _, _⟩ := i2
 rw [hdec] at d0
 have hM1 : ∀ W a k c, Below w.heap.size w W → Sl W a k c (limbs y.den) → Calls Tryz.prog 136 #[.slice a1 n1 c1, .slice a k c] W (Wd 75 (x.num.natAbs * y.den) W) := fun W a k c hW hs => by
  have := bgMulW_any a1 a n1 k c1 c _ _ W (s1.below hW) hs (by omega) (by rw [← hs.len]; exact Nat.le_trans l4 (by decide))
  rwa [val_limbs', val_limbs'] at this
 have hM2 : ∀ W a k c, Below w.heap.size w W → Sl W a k c (limbs x.den) → Calls Tryz.prog 136 #[.slice a2 n2 c2, .slice a k c] W (Wd 75 (y.num.natAbs * x.den) W) := fun W a k c hW hs => by
  have := bgMulW_any a2 a n2 k c2 c _ _ W (s2.below hW) hs (by omega) (by rw [← hs.len]; exact Nat.le_trans l2 (by decide))
  rwa [val_limbs', val_limbs'] at this
 have hQ : ∀ W a k c a' k' c', Sl W a k c (limbs (x.num.natAbs * y.den)) → Sl W a' k' c' (limbs (y.num.natAbs * x.den)) → Calls Tryz.prog 135 #[.slice a k c, .slice a' k' c'] W fun e w' => e = .returned (.int .i64 (cmpN (x.num.natAbs * y.den) (y.num.natAbs * x.den))) ∧ Below W.heap.size W w' := fun W a k c a' k' c' hs hs' => by
  have := bgCmp_any a a' k k' c c' _ _ W hs hs' (fine_limbs _) (fine_limbs _)
  rwa [val_limbs', val_limbs'] at this
 have hcb : -1 ≤ cmpN (x.num.natAbs * y.den) (y.num.natAbs * x.den) ∧ cmpN (x.num.natAbs * y.den) (y.num.natAbs * x.den) ≤ 1 := by unfold cmpN; split <;> (try split) <;> decide
 generalize cmpN (x.num.natAbs * y.den) (y.num.natAbs * x.den) = q at *
 obtain ⟨hcb1, hcb2⟩ := hcb
 rw [if_neg (of_decide_eq_false hdec)] at hC
 clear l1 l2 l3 l4 hn1 hn2 s1 s2 hdec hx hy hn0
 go_enter Tryz.func76, Tryz.ntmps76
 go_wp2_with (first
  | (go_at_call 95; (with_reducible refine hS1.mono ?_); rintro e w1 ⟨rfl, rfl⟩)
  | (go_at_call 95; (with_reducible refine hS2.mono ?_); rintro e w1 ⟨rfl, rfl⟩))
 go_region_held3 (fun w' => w'.cell? ⟨b1, 1, none⟩ = some (.slice a1 n1 c1) ∧ w'.cell? ⟨b2, 1, none⟩ = some (.slice a2 n2 c2))
  ((first | exact ⟨cellStay d1 WE, cellStay e1 WE⟩ | exact ⟨cellStay d1 WD, cellStay e1 WD⟩ | exact ⟨cellStay d1 WC, cellStay e1 WC⟩ | exact ⟨cellStay d1 WB, cellStay e1 WB⟩ | exact ⟨cellStay d1 WA, cellStay e1 WA⟩ | (go_keep; done)))
  (first
    | (go_at_call 137; (with_reducible refine (hB2 _ ?_).mono ?_); (exact (Below.refl _ _).drew); rintro en wA ⟨a3, n3, c3, rfl, s3, hbA⟩; have WA : Below w.heap.size w wA := undrew hbA)
    | (go_at_call 136; (with_reducible refine (hM1 _ _ _ _ ?_ ?_).mono ?_); (exact WA); (exact s3); rintro en wB ⟨a4, n4, c4, rfl, F4, hbB⟩; have WB := next WA hbB)
    | (go_at_call 137; (with_reducible refine (hB1 _ ?_).mono ?_); (exact WB); rintro en wC ⟨a5, n5, c5, rfl, s5, hbC⟩; have WC := next WB hbC)
    | (go_at_call 136; (with_reducible refine (hM2 _ _ _ _ ?_ ?_).mono ?_); (exact WC); (exact s5); rintro en wD ⟨a6, n6, c6, rfl, F6, hbD⟩; have WD := next WC hbD)
    | (go_at_call 135; (with_reducible refine (hQ _ _ _ _ _ _ _ ?_ ?_).mono ?_); (exact (F4.below (next hbC hbD)).sl); (exact F6.sl); rintro en wE ⟨rfl, hbE⟩; have WE := next WD hbE))
 all_goals have f0 := cellStay d0 WE
 all_goals go_wp2
 all_goals go_ret
 all_goals exact ⟨by rw [hC.out]; rfl, WE⟩
theorem bgRCmp_nn (b1 b2 B1 B2 : Nat) (x y : Rat) (w : World) (h1 : Rq 75 w B1 b1 x) (h2 : Rq 75 w B2 b2 y) (hx : x.num.sign = (-1)) (hy : y.num.sign = (-1)) (l1 : ln x.num.natAbs ≤ 67108864) (l2 : ln x.den ≤ 67108864) (l3 : ln y.num.natAbs ≤ 67108864) (l4 : ln y.den ≤ 67108864) :
 Calls Tryz.prog 76 #[.pointer (some ⟨b1, 0, none⟩), .pointer (some ⟨b2, 0, none⟩)] w fun e w' => e = .returned (.int .i64 (cmpQ x y)) ∧ Below w.heap.size w w' := by
 have hn0 : x.num ≠ 0 := by intro h; rw [h] at hx; exact absurd hx (by decide)
 have hS1 := bgRSignZ_any b1 B1 x w h1
 have hS2 := bgRSignZ_any b2 B2 y w h2
 have hC := Lib.hid (cmpQ_sizes hn0 (hx.trans hy.symm))
 have hdec : decide (x.num < 0) = true := decide_eq_true (by rcases Int.lt_or_le x.num 0 with h | h; exact h; exfalso; have := Int.sign_nonneg_iff.2 h; omega)
 rw [hx] at hS1
 rw [hy] at hS2
 have hB1 : ∀ W, Below w.heap.size w W → Calls Tryz.prog 137 #[.pointer (some ⟨b1, 0, none⟩)] W fun e w' => ∃ ao k c, e = .returned (.slice ao k c) ∧ Sl w' ao k c (limbs x.den) ∧ Below W.heap.size W w' := fun W hW => bgRbelow_any b1 B1 _ _ _ W (Ra.stay h1 hW)
 have hB2 : ∀ W, Below w.heap.size w W → Calls Tryz.prog 137 #[.pointer (some ⟨b2, 0, none⟩)] W fun e w' => ∃ ao k c, e = .returned (.slice ao k c) ∧ Sl w' ao k c (limbs y.den) ∧ Below W.heap.size W w' := fun W hW => bgRbelow_any b2 B2 _ _ _ W (Ra.stay h2 hW)
 obtain ⟨⟨a1, n1, c1, i1⟩, _, _⟩ := h1
 obtain ⟨⟨a2, n2, c2, i2⟩, _, _⟩ := h2
 have hn1 : n1 ≤ 67108864 := by rw [i1.len]; exact l1
 have hn2 : n2 ≤ 67108864 := by rw [i2.len]; exact l3
 have s1 := i1.fr.sl
 have s2 := i2.fr.sl
 obtain ⟨d0, d1, _, _, _, _, _⟩ := i1
 obtain ⟨_, e1, _, _, _, _, _⟩ := i2
 rw [hdec] at d0
 have hM1 : ∀ W a k c, Below w.heap.size w W → Sl W a k c (limbs y.den) → Calls Tryz.prog 136 #[.slice a1 n1 c1, .slice a k c] W (Wd 75 (x.num.natAbs * y.den) W) := fun W a k c hW hs => by
  have := bgMulW_any a1 a n1 k c1 c _ _ W (s1.below hW) hs (by omega) (by rw [← hs.len]; exact Nat.le_trans l4 (by decide))
  rwa [val_limbs', val_limbs'] at this
 have hM2 : ∀ W a k c, Below w.heap.size w W → Sl W a k c (limbs x.den) → Calls Tryz.prog 136 #[.slice a2 n2 c2, .slice a k c] W (Wd 75 (y.num.natAbs * x.den) W) := fun W a k c hW hs => by
  have := bgMulW_any a2 a n2 k c2 c _ _ W (s2.below hW) hs (by omega) (by rw [← hs.len]; exact Nat.le_trans l2 (by decide))
  rwa [val_limbs', val_limbs'] at this
 have hQ : ∀ W a k c a' k' c', Sl W a k c (limbs (x.num.natAbs * y.den)) → Sl W a' k' c' (limbs (y.num.natAbs * x.den)) → Calls Tryz.prog 135 #[.slice a k c, .slice a' k' c'] W fun e w' => e = .returned (.int .i64 (cmpN (x.num.natAbs * y.den) (y.num.natAbs * x.den))) ∧ Below W.heap.size W w' := fun W a k c a' k' c' hs hs' => by
  have := bgCmp_any a a' k k' c c' _ _ W hs hs' (fine_limbs _) (fine_limbs _)
  rwa [val_limbs', val_limbs'] at this
 have hcb : -1 ≤ cmpN (x.num.natAbs * y.den) (y.num.natAbs * x.den) ∧ cmpN (x.num.natAbs * y.den) (y.num.natAbs * x.den) ≤ 1 := by unfold cmpN; split <;> (try split) <;> decide
 generalize cmpN (x.num.natAbs * y.den) (y.num.natAbs * x.den) = q at *
 obtain ⟨hcb1, hcb2⟩ := hcb
 rw [if_pos (of_decide_eq_true hdec)] at hC
 clear l1 l2 l3 l4 hn1 hn2 s1 s2 hdec hx hy hn0
 go_enter Tryz.func76, Tryz.ntmps76
 go_wp2_with (first
  | (go_at_call 95; (with_reducible refine hS1.mono ?_); rintro e w1 ⟨rfl, rfl⟩)
  | (go_at_call 95; (with_reducible refine hS2.mono ?_); rintro e w1 ⟨rfl, rfl⟩))
 go_region_held3 (fun w' => w'.cell? ⟨b1, 1, none⟩ = some (.slice a1 n1 c1) ∧ w'.cell? ⟨b2, 1, none⟩ = some (.slice a2 n2 c2))
  ((first | exact ⟨cellStay d1 WE, cellStay e1 WE⟩ | exact ⟨cellStay d1 WD, cellStay e1 WD⟩ | exact ⟨cellStay d1 WC, cellStay e1 WC⟩ | exact ⟨cellStay d1 WB, cellStay e1 WB⟩ | exact ⟨cellStay d1 WA, cellStay e1 WA⟩ | (go_keep; done)))
  (first
    | (go_at_call 137; (with_reducible refine (hB2 _ ?_).mono ?_); (exact (Below.refl _ _).drew); rintro en wA ⟨a3, n3, c3, rfl, s3, hbA⟩; have WA : Below w.heap.size w wA := undrew hbA)
    | (go_at_call 136; (with_reducible refine (hM1 _ _ _ _ ?_ ?_).mono ?_); (exact WA); (exact s3); rintro en wB ⟨a4, n4, c4, rfl, F4, hbB⟩; have WB := next WA hbB)
    | (go_at_call 137; (with_reducible refine (hB1 _ ?_).mono ?_); (exact WB); rintro en wC ⟨a5, n5, c5, rfl, s5, hbC⟩; have WC := next WB hbC)
    | (go_at_call 136; (with_reducible refine (hM2 _ _ _ _ ?_ ?_).mono ?_); (exact WC); (exact s5); rintro en wD ⟨a6, n6, c6, rfl, F6, hbD⟩; have WD := next WC hbD)
    | (go_at_call 135; (with_reducible refine (hQ _ _ _ _ _ _ _ ?_ ?_).mono ?_); (exact (F4.below (next hbC hbD)).sl); (exact F6.sl); rintro en wE ⟨rfl, hbE⟩; have WE := next WD hbE))
 all_goals have f0 := cellStay d0 WE
 all_goals go_wp2
 all_goals go_ret
 all_goals exact ⟨by rw [hC.out]; rfl, WE⟩
theorem bgRCmp_any (b1 b2 B1 B2 : Nat) (x y : Rat) (w : World) (h1 : Rq 75 w B1 b1 x) (h2 : Rq 75 w B2 b2 y) (l1 : ln x.num.natAbs ≤ 67108864) (l2 : ln x.den ≤ 67108864) (l3 : ln y.num.natAbs ≤ 67108864) (l4 : ln y.den ≤ 67108864) :
 Calls Tryz.prog 76 #[.pointer (some ⟨b1, 0, none⟩), .pointer (some ⟨b2, 0, none⟩)] w fun e w' => e = .returned (.int .i64 (cmpQ x y)) ∧ Below w.heap.size w w' := by
 have hS1 := bgRSignZ_any b1 B1 x w h1
 have hS2 := bgRSignZ_any b2 B2 y w h2
 have sg : ∀ z : Int, z.sign = -1 ∨ z.sign = 0 ∨ z.sign = 1 := fun z => by
  rcases Int.lt_trichotomy z 0 with h | h | h
  · exact .inl (Int.sign_eq_neg_one_of_neg h)
  · subst h; exact .inr (.inl rfl)
  · exact .inr (.inr (Int.sign_eq_one_of_pos h))
 rcases sg x.num with u | u | u <;> rcases sg y.num with v | v | v
 · exact bgRCmp_nn b1 b2 B1 B2 x y w h1 h2 u v l1 l2 l3 l4
 · have hq := cmpQ_signs (x := x) (y := y) (by rw [u, v]; decide)
   rw [u, v] at hq
   rw [u] at hS1
   rw [v] at hS2
   rw [show cmpQ x y = _ from hq]
   exact bgRCmp_nz b1 b2 w hS1 hS2
 · have hq := cmpQ_signs (x := x) (y := y) (by rw [u, v]; decide)
   rw [u, v] at hq
   rw [u] at hS1
   rw [v] at hS2
   rw [show cmpQ x y = _ from hq]
   exact bgRCmp_np b1 b2 w hS1 hS2
 · have hq := cmpQ_signs (x := x) (y := y) (by rw [u, v]; decide)
   rw [u, v] at hq
   rw [u] at hS1
   rw [v] at hS2
   rw [show cmpQ x y = _ from hq]
   exact bgRCmp_zn b1 b2 w hS1 hS2
 · have hq := cmpQ_signs (x := x) (y := y) (by rw [u, v]; decide)
   rw [u, v] at hq
   rw [u] at hS1
   rw [v] at hS2
   rw [show cmpQ x y = _ from hq]
   exact bgRCmp_zz b1 b2 w hS1 hS2
 · have hq := cmpQ_signs (x := x) (y := y) (by rw [u, v]; decide)
   rw [u, v] at hq
   rw [u] at hS1
   rw [v] at hS2
   rw [show cmpQ x y = _ from hq]
   exact bgRCmp_zp b1 b2 w hS1 hS2
 · have hq := cmpQ_signs (x := x) (y := y) (by rw [u, v]; decide)
   rw [u, v] at hq
   rw [u] at hS1
   rw [v] at hS2
   rw [show cmpQ x y = _ from hq]
   exact bgRCmp_pn b1 b2 w hS1 hS2
 · have hq := cmpQ_signs (x := x) (y := y) (by rw [u, v]; decide)
   rw [u, v] at hq
   rw [u] at hS1
   rw [v] at hS2
   rw [show cmpQ x y = _ from hq]
   exact bgRCmp_pz b1 b2 w hS1 hS2
 · exact bgRCmp_pp b1 b2 B1 B2 x y w h1 h2 u v l1 l2 l3 l4
theorem bgRbelow2_any (b base : Nat) (s : Bool) (N D : Nat) (w : World) (h : Ra 75 w base b s N D) :
 Calls Tryz.prog 137 #[.pointer (some ⟨b, 0, none⟩)] w fun e w' => ∃ ao k c, e = .returned (.slice ao k c) ∧ Sl w' ao k c (limbs D) ∧ Below w.heap.size w w' ∧ ∀ p, p < w.heap.size → Hd 75 w p → blkOf ao ≠ some p := by
 obtain ⟨_, ⟨ad, kd, cd, ds, h2, hf, ⟨hD, hd⟩, hn⟩, _⟩ := h
 by_cases hk : kd = 0
 · have hl : ds = [] := List.length_eq_zero_iff.1 (by rw [hf.sl.len]; exact hk)
   have hD1 : D = 1 := by
    rcases hd with hd | ⟨_, hd⟩
    · have := val_limbs' D
      rw [← hd, hl] at this
      exact absurd this (by simp [val]; omega)
    · exact hd
   subst hk
   have hl1 : Hid (limbs D = [1]) := Lib.hid (by rw [hD1]; decide)
   have ho := own_sl (bgOwn_one w 1) (by intro x hx; simp at hx; omega)
   clear hf hd hl hD1
   go_enter Tryz.func137, Tryz.ntmps137
   go_wp2
   go_ret
   exact ⟨_, _, _, rfl, by rw [hl1.out]; exact ho, more (Below.refl _ _) _, fun p hp _ h => by have : w.heap.size = p := Option.some.inj h; omega⟩
 · have hk1 : ((kd : Int) == 0) = false := by simp [hk]
   have hds : ds = limbs D := by
    rcases hd with hd | ⟨hd, _⟩
    · exact hd
    · exact absurd (by rw [← hf.sl.len, hd]; rfl) hk
   subst hds
   have hs := hf.sl
   have HB : Hid (∀ p, Hd 75 w p → blkOf ad ≠ some p) := Lib.hid (fun p hp => fr_hd hf hp)
   clear hf hd hk
   go_enter Tryz.func137, Tryz.ntmps137
   go_wp2
   go_ret
   exact ⟨_, _, _, rfl, hs, Below.refl _ _, fun p _ hp => HB.out p hp⟩
theorem bgRAdded_any (b base B1 B2 b1 b2 : Nat) (t : Bool) (x y z : Rat) (w : World) (hr : Res3 w b) (hnw : Hd 75 w b) (hbb : base ≤ b) (h1 : Rq 75 w B1 b1 x) (h2 : Rq 75 w B2 b2 y) (hz : z.den = y.den) (hzn : z.num = sgv (decide (y.num < 0) != t) y.num.natAbs) (l1 : ln x.num.natAbs ≤ 8388608) (l2 : ln x.den ≤ 8388608) (l3 : ln y.num.natAbs ≤ 8388608) (l4 : ln y.den ≤ 8388608) (hT : Tab w) :
 Calls Tryz.prog 140 #[.pointer (some ⟨b, 0, none⟩), .pointer (some ⟨b1, 0, none⟩), .pointer (some ⟨b2, 0, none⟩), .bool t] w (StQ 75 b base (x + z) w) := by
 have hbl := hr.lt
 have hP := added_parts x z
 rw [hz] at hP
 have hZ : addZ x z = sgv (decide (x.num < 0)) (x.num.natAbs * (y.den / Nat.gcd x.den y.den)) + sgv (decide (y.num < 0) != t) (y.num.natAbs * (x.den / Nat.gcd x.den y.den)) := by
  unfold addZ
  rw [hz, hzn]
  congr 1
  · conv => lhs; arg 1; rw [← sgv_of x.num]
    exact sgv_times _ _ _
  · exact sgv_times _ _ _
 have hB1 : Calls Tryz.prog 137 #[.pointer (some ⟨b1, 0, none⟩)] w fun e w' => ∃ ao k c, e = .returned (.slice ao k c) ∧ Sl w' ao k c (limbs x.den) ∧ Below w.heap.size w w' ∧ ∀ p, p < w.heap.size → Hd 75 w p → blkOf ao ≠ some p := bgRbelow2_any b1 B1 _ _ _ w h1
 have hB2 : ∀ W, Below w.heap.size w W → Calls Tryz.prog 137 #[.pointer (some ⟨b2, 0, none⟩)] W fun e w' => ∃ ao k c, e = .returned (.slice ao k c) ∧ Sl w' ao k c (limbs y.den) ∧ Below W.heap.size W w' ∧ ∀ p, p < W.heap.size → Hd 75 W p → blkOf ao ≠ some p := fun W hW => bgRbelow2_any b2 B2 _ _ _ W (Ra.stay h2 hW)
 obtain ⟨⟨a1, n1, c1, i1⟩, _, _⟩ := h1
 obtain ⟨⟨a2, n2, c2, i2⟩, _, _⟩ := h2
 have hn1 : n1 ≤ 8388608 := by rw [i1.len]; exact l1
 have hn2 : n2 ≤ 8388608 := by rw [i2.len]; exact l3
 have hg0 : Nat.gcd x.den y.den ≠ 0 := Nat.ne_of_gt (Nat.gcd_pos_of_pos_left _ x.den_pos)
 have hzero : addZ x z = 0 → x + z = 0 := addZ_zero
 have hdx0 : 0 < x.den / Nat.gcd x.den y.den := Nat.div_gcd_pos_of_pos_left _ x.den_pos
 have hdyl := Nat.le_of_dvd y.den_pos (Nat.gcd_dvd_right x.den y.den)
 have hgy := Nat.gcd_dvd_right x.den y.den
 have hy0 := y.den_pos
 have s1 := i1.fr.sl
 have s2 := i2.fr.sl
 obtain ⟨d0, d1, _, _, _, _, _⟩ := i1
 obtain ⟨e0, e1, _, _, _, _, _⟩ := i2
 have lx : ln (x.num.natAbs * (y.den / Nat.gcd x.den y.den)) ≤ 16777216 := Nat.le_trans (ln_mul _ _) (by have := ln_div y.den (Nat.gcd x.den y.den); omega)
 have ly : ln (y.num.natAbs * (x.den / Nat.gcd x.den y.den)) ≤ 16777216 := Nat.le_trans (ln_mul _ _) (by have := ln_div x.den (Nat.gcd x.den y.den); omega)
 generalize hxy : x + z = q at *
 generalize addZ x z = Z at *
 generalize decide (x.num < 0) = sx at *
 generalize decide (y.num < 0) = sy at *
 generalize x.num.natAbs = X at *
 generalize y.num.natAbs = Y at *
 generalize x.den = D at *
 generalize y.den = E at *
 generalize hgg : Nat.gcd D E = g at *
 clear hxy hz hzn
 have HG := Lib.hid hgg
 have HG0 := Lib.hid hg0
 have HP := Lib.hid hP
 have HZ := Lib.hid hZ
 have HZ0 := Lib.hid hzero
 have L2 := Lib.hid l2
 have L4 := Lib.hid l4
 have LX := Lib.hid lx
 have LY := Lib.hid ly
 have HDX := Lib.hid hdx0
 have HGY := Lib.hid hgy
 have HY0 := Lib.hid hy0
 clear hgg hg0 hP hZ hzero l1 l2 l3 l4 lx ly hdx0 hdyl hgy hy0
 go_enter Tryz.func140, Tryz.ntmps140
 go_wp2_with fail
 refine hB1.mono ?_
 rintro e w1 ⟨ap, kp, cp, rfl, Sp, hb1, hpb0⟩
 have hpb : ∀ bb o, ap = some ⟨bb, o, none⟩ → some bb ≠ some b := fun bb o e hh => hpb0 b hbl hnw (by rw [e]; exact hh)
 clear hpb0
 have hkp : kp ≤ 8388608 := by rw [← Sp.len]; exact L2.out
 go_wp2_with fail
 refine (hB2 _ hb1).mono ?_
 rintro e w2 ⟨aq, kq, cq, rfl, Sq, hb2, hqb0⟩
 have hqb : ∀ bb o, aq = some ⟨bb, o, none⟩ → some bb ≠ some b := fun bb o e hh => hqb0 b (Nat.lt_of_lt_of_le hbl hb1.size) (hnw.stay hbl hb1) (by rw [e]; exact hh)
 clear hqb0
 have hkq : kq ≤ 8388608 := by rw [← Sq.len]; exact L4.out
 have W2 := next hb1 hb2
 have hCm := bgCommon_any ap aq kp kq cp cq (limbs D) (limbs E) w2 (Sp.below hb2) Sq (fine_limbs _) (fine_limbs _) (by omega) (by omega) (hT.below W2)
 rw [val_limbs', val_limbs', HG.out] at hCm
 go_wp2_with fail
 refine hCm.mono ?_
 rintro e w3 ⟨ag, kg, cg, rfl, Fg, hb3⟩
 have W3 := next W2 hb3
 have Sp3 := Sp.below (next hb2 hb3)
 have Sq3 := Sq.below hb3
 have Sg3 := Fg.sl
 have Fg3 := Fg
 have W2s : w.heap.size ≤ w2.heap.size := W2.size
 clear hCm Fg Sp Sq hb1 hb2 hb3 W2 hB1 hB2
 obtain ⟨W4, hW4⟩ : ∃ W4 : World, W4 = (w3.alloc (.cells #[.bool false, .slice none 0 0] 129)).alloc (.cells #[.bool false, .slice none 0 0] 129) := ⟨_, rfl⟩
 have B34 : Below w3.heap.size w3 W4 := hW4 ▸ more (more (Below.refl _ _) _) _
 have hbl3 : b < w3.heap.size := Nat.lt_of_lt_of_le hbl W3.size
 have ZA : Zc W4 w3.heap.size := by rw [hW4]; exact (zc_new w3 _ _ _).stay (more (Below.refl _ _) _)
 have ZB : Zc W4 (w3.heap.size + 1) := by
  have := zc_new (w3.alloc (.cells #[.bool false, .slice none 0 0] 129)) 129 (.bool false) (.slice none 0 0)
  rw [World.size_alloc] at this
  rw [hW4]
  exact this
 have W4b := next W3 B34
 have hs4 : W4.heap.size = w3.heap.size + 2 := by rw [hW4]; simp
 have HS4 := Lib.hid hs4
 clear hs4
 go_wp2_with fail
 rw [← hW4]
 clear hW4
 obtain ⟨A, hA⟩ : ∃ A, A = w3.heap.size := ⟨_, rfl⟩
 rw [← hA] at ZA ZB ⊢
 have HA := Lib.hid hA
 have V4 := B34
 have hAl : A < W4.heap.size := ZA.lt
 have hBl : A + 1 < W4.heap.size := ZB.lt
 have hA3 : w3.heap.size ≤ A := by rw [← hA]; exact Nat.le_refl _
 have d0' := cellStay d0 W4b
 have d1' := cellStay d1 W4b
 have hb1A : b1 ≠ A := by have := World.block_lt_of_cell? w ⟨b1, 0, none⟩ d0; have := W3.size; simp at *; omega
 have hb2A : b2 ≠ A + 1 := by have := World.block_lt_of_cell? w ⟨b2, 0, none⟩ e0; have := W3.size; simp at *; omega
 have hby1 : ∀ W, Below w3.heap.size w3 W → Calls Tryz.prog 197 #[.slice aq kq cq, .slice ag kg cg] W fun e w' => ∃ ao k c, e = .returned (.slice ao k c) ∧ Sl w' ao k c (limbs (E / g)) ∧ k ≤ kq ∧ Below W.heap.size W w' := fun W hW => bgBy_sl aq ag kq kg cq cg E g W (Sq3.below hW) (Sg3.below hW) (by omega) HG0.out
 have hby2 : ∀ W, Below w3.heap.size w3 W → Calls Tryz.prog 197 #[.slice ap kp cp, .slice ag kg cg] W fun e w' => ∃ ao k c, e = .returned (.slice ao k c) ∧ Sl w' ao k c (limbs (D / g)) ∧ k ≤ kp ∧ Below W.heap.size W w' := fun W hW => bgBy_sl ap ag kp kg cp cg D g W (Sp3.below hW) (Sg3.below hW) (by omega) HG0.out
 have hM1 : ∀ W a k c, Below w3.heap.size w3 W → Sl W a k c (limbs (E / g)) → k ≤ kq → Calls Tryz.prog 136 #[.slice a1 n1 c1, .slice a k c] W (Wd 75 (X * (E / g)) W) := fun W a k c hW hs hk => by
  have := bgMulW_any a1 a n1 k c1 c _ _ W (s1.below (next W3 hW)) hs (by omega) (by omega)
  rwa [val_limbs', val_limbs'] at this
 have hM2 : ∀ W a k c, Below w3.heap.size w3 W → Sl W a k c (limbs (D / g)) → k ≤ kp → Calls Tryz.prog 136 #[.slice a2 n2 c2, .slice a k c] W (Wd 75 (Y * (D / g)) W) := fun W a k c hW hs hk => by
  have := bgMulW_any a2 a n2 k c2 c _ _ W (s2.below (next W3 hW)) hs (by omega) (by omega)
  rwa [val_limbs', val_limbs'] at this
 clear hA
 generalize X * (E / g) = M1 at *
 generalize Y * (D / g) = M2 at *
 go_region_held3 (fun w' => w'.cell? ⟨b1, 0, none⟩ = some (.bool sx) ∧ w'.cell? ⟨b1, 1, none⟩ = some (.slice a1 n1 c1))
  ((first | exact ⟨p2, p3⟩ | exact ⟨o2, o3⟩ | exact ⟨f2, f3⟩ | (go_keep; done)))
  (first
    | (go_at_call 197; (with_reducible refine (hby1 _ ?_).mono ?_); (exact V4.drew); rintro en wA ⟨a3, k3, c3, rfl, S3, l3, hbA⟩; have f2 := cellStay d0' (undrew hbA); have f3 := cellStay d1' (undrew hbA); have VA := next V4.drew hbA; have ZA1 := ZA.stay (undrew hbA); have ZB1 := ZB.stay (undrew hbA))
    | (go_at_call 136; (with_reducible refine (hM1 _ _ _ _ ?_ ?_ ?_).mono ?_); (exact VA); (exact S3); (exact l3); rintro en wB ⟨a4, k4, c4, rfl, F4, hbB⟩; have o2 := cellStay f2 hbB; have o3 := cellStay f3 hbB; have VB := next VA hbB; have ZA2 := ZA1.stay hbB; have ZB2 := ZB1.stay hbB; have F4' := F4.mono (Nat.le_trans (show W4.heap.size ≤ W4.drew.heap.size from Nat.le_refl _) hbA.size))
    | (go_at_call 152; (with_reducible refine (bgSet_any A sx a4 k4 c4 M1 _ _ ZA2 F4').mono ?_); rintro en wC ⟨rfl, rfl⟩; have p2 := (setIn_other hb1A (nzB sx M1) (.slice a4 k4 c4)).trans o2; have p3 := (setIn_other hb1A (nzB sx M1) (.slice a4 k4 c4)).trans o3))
 have IA := setIn_in ZA2 (nzB sx M1) (F4'.mono (Nat.le_of_lt hAl)) (fr_ne F4' hAl) (Nat.le_refl _)
 have GA := setIn_grown wB A (nzB sx M1) (.slice a4 k4 c4)
 have FA := fr_grown F4' GA hAl
 have hs7 : W4.heap.size ≤ wB.heap.size := Nat.le_trans (Nat.le_trans (show W4.heap.size ≤ W4.drew.heap.size from Nat.le_refl _) hbA.size) hbB.size
 have hs7 := Nat.le_trans hs7 GA.size
 have VC := VB.grown GA VB.size (fun k hk => by cases hk; exact hA3)
 have ZB3 := ZB2.setOther (Nat.succ_ne_self A) (nzB sx M1) (.slice a4 k4 c4)
 generalize setIn wB A (nzB sx M1) (.slice a4 k4 c4) = wC at *
 clear p2 p3 o2 o3 f2 f3 VA VB ZA1 ZB1 ZA2 ZB2 F4 F4' GA hbA hbB S3 l3 hby1 hM1 d0' d1' hb1A
 have WC := next W3 VC
 have q0 := cellStay e0 WC
 have q1 := cellStay e1 WC
 go_wp2_with fail
 go_region_held3 (fun w' => w'.cell? ⟨b2, 0, none⟩ = some (.bool sy) ∧ w'.cell? ⟨b2, 1, none⟩ = some (.slice a2 n2 c2))
  ((first | exact ⟨p2, p3⟩ | exact ⟨o2, o3⟩ | exact ⟨f2, f3⟩ | (go_keep; done)))
  (first
    | (go_at_call 197; (with_reducible refine (hby2 _ ?_).mono ?_); (exact VC.drew); rintro en wD ⟨a5, k5, c5, rfl, S5, l5, hbD⟩; have f2 := cellStay q0 (undrew hbD); have f3 := cellStay q1 (undrew hbD); have VD := next VC.drew hbD; have ZB5 := ZB3.stay (undrew hbD); have IA5 := IA.stay (undrew hbD); have FA5 := FA.below (undrew hbD))
    | (go_at_call 136; (with_reducible refine (hM2 _ _ _ _ ?_ ?_ ?_).mono ?_); (exact VD); (exact S5); (exact l5); rintro en wE ⟨a6, k6, c6, rfl, F6, hbE⟩; have o2 := cellStay f2 hbE; have o3 := cellStay f3 hbE; have VE := next VD hbE; have ZB6 := ZB5.stay hbE; have IA6 := IA5.stay hbE; have FA6 := FA5.below hbE; have F6' := F6.mono (Nat.le_trans (Nat.le_trans hs7 (show wC.heap.size ≤ wC.drew.heap.size from Nat.le_refl _)) hbD.size))
    | (go_at_call 152; (with_reducible refine (bgSet_any (A + 1) (!(sy == t)) a6 k6 c6 M2 _ _ ZB6 F6').mono ?_); rintro en wF ⟨rfl, rfl⟩; have p2 := (setIn_other hb2A (nzB (!(sy == t)) M2) (.slice a6 k6 c6)).trans o2; have p3 := (setIn_other hb2A (nzB (!(sy == t)) M2) (.slice a6 k6 c6)).trans o3))
 have IB := setIn_in ZB6 (nzB (!(sy == t)) M2) (F6'.mono (Nat.le_of_lt hBl)) (fr_ne F6' hBl) (Nat.le_refl _)
 have GB := setIn_grown wE (A + 1) (nzB (!(sy == t)) M2) (.slice a6 k6 c6)
 have IA7 := IA6.other GB (Nat.ne_of_lt (Nat.lt_succ_self A)) (fr_ne FA6 hBl)
 have VF := VE.grown GB VE.size (fun k hk => by cases hk; omega)
 generalize setIn wE (A + 1) (nzB (!(sy == t)) M2) (.slice a6 k6 c6) = wF at *
 clear p2 p3 o2 o3 f2 f3 VC VD VE ZB3 ZB5 ZB6 IA IA5 IA6 FA FA5 FA6 F6 F6' GB hbD hbE S5 l5 hM2 q0 q1 hb2A
 have hIA : Iz 75 wF A A (sgv sx M1) := ⟨a4, k4, c4, by rw [(sgv_abs sx M1).1, (sgv_abs sx M1).2]; exact IA7⟩
 have hIB : Iz 75 wF (A + 1) (A + 1) (sgv (sy != t) M2) := ⟨a6, k6, c6, by rw [(sgv_abs (sy != t) M2).1, (sgv_abs (sy != t) M2).2]; exact IB⟩
 have hAdd := bgIAdd_any A A A (A + 1) A (A + 1) _ _ wF hIA.zc (Nat.le_of_lt hIA.lt) hIA hIB (by rw [(sgv_abs sx M1).1]; have := LX.out; omega) (by rw [(sgv_abs (sy != t) M2).1]; have := LY.out; omega)
 rw [← HZ.out] at hAdd
 have hzl : Hid (ln Z.natAbs ≤ 33554433) := Lib.hid (by
  rw [HZ.out]
  refine Nat.le_trans (ln_mono (Int.natAbs_add_le _ _)) ?_
  rw [(sgv_abs sx M1).1, (sgv_abs (sy != t) M2).1]
  exact Nat.le_trans (ln_add' _ _) (by have := LX.out; have := LY.out; omega))
 go_wp2_with fail
 refine hAdd.mono ?_
 rintro e w8 hS
 obtain ⟨rfl, hIZ, hgZ⟩ := hS.in_ hIA.zc (Nat.le_refl _)
 have V8 := VF.grown hgZ VF.size (fun k hk => by cases hk; exact hA3)
 clear hAdd hS hIA hIB hgZ VF IA7 IB
 have W8 := next W3 V8
 obtain ⟨az, kz, cz, iz⟩ := hIZ
 have hkz := iz.nil
 have R8 := hr.stay W8
 by_cases hZ0 : Z = 0
 · obtain rfl : kz = 0 := hkz.1 (by rw [hZ0]; rfl)
   have c1z := iz.c1
   have hq0 := HZ0.out hZ0
   obtain ⟨W9, hW9⟩ : ∃ W9 : World, W9 = w8.alloc (.cells #[.int .u32 1] 75) := ⟨_, rfl⟩
   have hb9 : Below w8.heap.size w8 W9 := hW9 ▸ more (Below.refl _ _) _
   have hF : Fr 75 W9 w8.heap.size (some ⟨w8.heap.size, 0, none⟩) 1 1 (limbs 1) := by
    have := fr_own (bgOwn_one w8 1) (by intro x hx; simp at hx; omega) (Nat.le_refl _) (Nat.le_refl _) (Nat.le_refl _)
    rw [hW9]
    exact this
   have hS := bgRSet_any b base w8.heap.size false none (some ⟨w8.heap.size, 0, none⟩) 0 1 0 1 0 1 W9 (R8.stay hb9) (fr_nil _ _ _) hF (by decide) (Nat.lt_of_lt_of_le hbl W8.size) hb9.size hbb (by decide) (by decide) (hT.below (next W8 hb9))
   rw [hW9] at hS
   clear hF hkz hZ0 iz HZ0
   go_wp2_with fail
   refine hS.mono ?_
   rintro e w10 ⟨rfl, hRa, hgR⟩
   go_wp2
   go_ret
   rw [hq0]
   rw [hW9] at hb9
   exact ⟨rfl, hRa, grown_trans (grown_below (next W8 hb9) _) hgR⟩
 · have hk0 : kz ≠ 0 := fun h => hZ0 (by have := hkz.2 h; omega)
   have j1 : ((kz : Int) == 0) = false := by simp [hk0]
   have hlz : kz ≤ 33554433 := by rw [iz.len]; exact hzl.out
   have sz := iz.fr.sl
   have c0z := iz.c0
   have c1z := iz.c1
   have hCm := bgCommon_any az ag kz kg cz cg (limbs Z.natAbs) (limbs g) w8 sz (Sg3.below V8) (fine_limbs _) (fine_limbs _) (by omega) (by rw [← Sg3.len]; exact Nat.le_trans (ln_mono (Nat.le_of_dvd HY0.out HGY.out)) (by have := L4.out; omega)) (hT.below W8)
   rw [val_limbs', val_limbs'] at hCm
   have hh0 : Nat.gcd Z.natAbs g ≠ 0 := Nat.ne_of_gt (Nat.gcd_pos_of_pos_right _ (Nat.pos_of_ne_zero HG0.out))
   have hZn : nzB (decide (Z < 0)) (Z.natAbs / Nat.gcd Z.natAbs g) = decide (Z < 0) := by
    unfold nzB
    have : Z.natAbs / Nat.gcd Z.natAbs g ≠ 0 := Nat.ne_of_gt (Nat.div_gcd_pos_of_pos_left _ (by omega))
    rw [decide_eq_true this, Bool.and_true]
   have hd0 : D / g * (E / Nat.gcd Z.natAbs g) ≠ 0 := by
    have := Nat.div_pos (Nat.le_of_dvd HY0.out (Nat.dvd_trans (Nat.gcd_dvd_right Z.natAbs g) HGY.out)) (Nat.pos_of_ne_zero hh0)
    exact Nat.ne_of_gt (Nat.mul_pos HDX.out this)
   have hbA : b ≠ A := by have := W3.size; omega
   have HP' := HP
   generalize Nat.gcd Z.natAbs g = h at *
   generalize decide (Z < 0) = s at *
   have HH := Lib.hid hh0
   have HD0 := Lib.hid hd0
   have HZN := Lib.hid hZn
   clear hZ0 hkz hk0 iz hh0 hd0 hZn HZ0 HP hzl
   go_wp2_with fail
   refine hCm.mono ?_
   rintro e w9 ⟨ah, kh, ch, rfl, Fh, hb9⟩
   have V9 := next V8 hb9
   have W9 := next W8 hb9
   have R9 := hr.stay W9
   have c0' := cellStay c0z hb9
   have c1' := cellStay c1z hb9
   have hby3 := bgBy_sl az ah kz kh cz ch Z.natAbs h w9.drew (sz.below hb9).drew Fh.sl.drew (by omega) HH.out
   clear hCm c0z c1z
   go_wp2_with fail
   go_region_held3 (fun w' => w'.cell? ⟨A, 0, none⟩ = some (.bool s) ∧ w'.cell? ⟨A, 1, none⟩ = some (.slice az kz cz))
    ((first | exact ⟨p2, p3⟩ | exact ⟨o2, o3⟩ | exact ⟨f2, f3⟩ | (go_keep; done)))
    (first
      | (go_at_call 197; (with_reducible refine hby3.mono ?_); rintro en wA ⟨a7, k7, c7, rfl, S7, l7, hbA'⟩; have f2 := cellStay c0' (undrew hbA'); have f3 := cellStay c1' (undrew hbA'); have XA := next (Below.refl _ _).drew hbA'; have hk7 : k7 ≤ 4294967296 := (by omega))
      | (go_at_call 149; (with_reducible refine (bgCopied_any a7 k7 c7 _ _ S7 hk7).mono ?_); rintro en wB ⟨g8, rfl, ho8, hbB⟩; have o2 := cellStay f2 hbB; have o3 := cellStay f3 hbB; have XB := next XA hbB; have F8 := fr_copied ho8 S7 (fine_limbs _); have RB := R9.stay XB)
      | (go_at_call 152; (with_reducible refine (bgSet_any b s _ k7 k7 (val (limbs (Z.natAbs / h))) _ _ RB.zc F8).mono ?_); rintro en wC ⟨rfl, rfl⟩; have p2 := (setIn_other (Ne.symm hbA) (nzB s (val (limbs (Z.natAbs / h)))) (.slice (some ⟨g8, 0, none⟩) k7 k7)).trans o2; have p3 := (setIn_other (Ne.symm hbA) (nzB s (val (limbs (Z.natAbs / h)))) (.slice (some ⟨g8, 0, none⟩) k7 k7)).trans o3))
   rw [val_limbs'] at *
   have hw9 : b < w9.heap.size := Nat.lt_of_lt_of_le hbl W9.size
   have F8' := F8.mono (Nat.le_trans (show w9.heap.size ≤ w9.drew.heap.size from Nat.le_refl _) hbA'.size)
   have IZ := setIn_in RB.zc (nzB s (Z.natAbs / h)) (F8'.mono (Nat.le_trans hbb (Nat.le_of_lt hw9))) (fr_ne F8' hw9) hbb
   have GZ := setIn_grown wB b (nzB s (Z.natAbs / h)) (.slice (some ⟨g8, 0, none⟩) k7 k7)
   have RZ := RB.setIn (nzB s (Z.natAbs / h)) (.slice (some ⟨g8, 0, none⟩) k7 k7)
   have VB := next V9 XB
   have Spz := (Sp3.below VB).grown GZ hpb
   have Sqz := (Sq3.below VB).grown GZ hqb
   have Sgz := fr_grown (Fg3.below VB) GZ (Nat.lt_of_lt_of_le hbl W2s)
   have Shz := fr_grown (Fh.below XB) GZ (Nat.lt_of_lt_of_le hbl W8.size)
   have WB := next W9 XB
   generalize setIn wB b (nzB s (Z.natAbs / h)) (.slice (some ⟨g8, 0, none⟩) k7 k7) = wZ at *
   clear p2 p3 o2 o3 f2 f3 XA S7 F8 ho8 hbA' hbB hby3 c0' c1' hby2
   go_wp2_with fail
   refine (bgBy_sl ap ag kp kg cp cg D g wZ Spz Sgz.sl (by omega) HG0.out).mono ?_
   rintro e wP ⟨aP, kP, cP, rfl, SP, lP, hbP⟩
   go_wp2_with fail
   refine (bgBy_sl aq ah kq kh cq ch E h wP (Sqz.below hbP) (Shz.below hbP).sl (by omega) HH.out).mono ?_
   rintro e wQ ⟨aQ, kQ, cQ, rfl, SQ, lQ, hbQ⟩
   go_wp2_with fail
   refine (bgMulW_any aP aQ kP kQ cP cQ _ _ wQ (SP.below hbQ) SQ (by omega) (by omega)).mono ?_
   rintro e wR ⟨aR, kR, cR, rfl, FR, hbR⟩
   rw [val_limbs', val_limbs'] at FR
   have YR := next (next hbP hbQ) hbR
   have RR := RZ.stay YR
   have cc2 := RR.c2
   have cz2 := RR.z2
   have hwz : b < wZ.heap.size := RZ.lt
   have FR' := FR.mono (next hbP hbQ).size
   go_wp2
   go_ret
   refine ⟨rfl, ?_, grown_trans (grown_trans (grown_below WB _) (grown_trans GZ (grown_below YR _))) (grown_set _ _ _ _)⟩
   unfold Rq
   rw [HP'.out.1, HP'.out.2.1, HP'.out.2.2, ← HZN.out]
   exact ra_of (IZ.stay YR) RR (FR'.mono (Nat.le_trans hbb (Nat.le_of_lt hwz))) (DenW.limbs HD0.out) (fr_ne FR' hwz)
theorem bgRSub_any (b base B1 B2 b1 b2 : Nat) (x y : Rat) (w : World) (hr : Res3 w b) (hnw : Hd 75 w b) (hbb : base ≤ b) (h1 : Rq 75 w B1 b1 x) (h2 : Rq 75 w B2 b2 y) (l1 : ln x.num.natAbs ≤ 8388608) (l2 : ln x.den ≤ 8388608) (l3 : ln y.num.natAbs ≤ 8388608) (l4 : ln y.den ≤ 8388608) (hT : Tab w) :
 Calls Tryz.prog 106 #[.pointer (some ⟨b, 0, none⟩), .pointer (some ⟨b1, 0, none⟩), .pointer (some ⟨b2, 0, none⟩)] w (StQ 75 b base (x - y) w) := by
 have hA := bgRAdded_any b base B1 B2 b1 b2 true x y (-y) w hr hnw hbb h1 h2 rfl (by rw [Bool.bne_true, sgv_not, Rat.neg_num]) l1 l2 l3 l4 hT
 rw [← neg_sub_z] at hA
 go_enter Tryz.func106, Tryz.ntmps106
 go_wp2_with fail
 refine hA.mono ?_
 rintro e w1 ⟨rfl, hQ⟩
 go_wp2
 go_ret
 exact ⟨rfl, hQ⟩
end
end Go.Proofs.YtfjgmpfpadfknaaGreatDoor
