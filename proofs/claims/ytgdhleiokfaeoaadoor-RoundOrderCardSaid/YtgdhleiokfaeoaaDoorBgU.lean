/-
  Contracts of numeral/big: Rat: times, Mul, Quo. (Printed by wip/gen/bigR.py.) Contracts of numeral/big: Rat: SetInt, SetInt64, Inv, Set, Abs, Neg, IsInt, Cmp, SetFrac, NewRat, Num, Denom, Sign. (Printed by wip/gen/bigS.py.) Contracts of numeral/big: Rat: Cmp, added, Add, Sub. (Printed by wip/gen/bigU.py.)
-/
import Derived.Test.YtgdhleiokfaeoaaDoorBgV
import Derived.Test.YtgdhleiokfaeoaaDoorRatM
namespace Go.Proofs.YtgdhleiokfaeoaaDoor
open Go.RowKit Go.Lb

attribute [local go_sem ↓] Go.wp_at_zero Go.wp_at_succ

/-- by, whose answer is read alone. -/
theorem bgBy_sl (a1 a2 : Option Addr) (n1 n2 c1 c2 N G : Nat) (w : World) (h1 : Sl w a1 n1 c1 (limbs N)) (h2 : Sl w a2 n2 c2 (limbs G)) (hn : n1 ≤ 1073741824) (h0 : G ≠ 0) :
    Calls Tryd.prog 140 #[.slice a1 n1 c1, .slice a2 n2 c2] w fun e w' => ∃ ao k c, e = .returned (.slice ao k c) ∧ Sl w' ao k c (limbs (N / G)) ∧ k ≤ n1 ∧ Below w.heap.size w w' := by
  have hG : val (limbs G) = G := val_limbs' G
  have hN : val (limbs N) = N := val_limbs' N
  refine (bgBy_any a1 a2 n1 n2 c1 c2 (limbs N) (limbs G) w h1 h2 (fine_limbs _) (fine_limbs _) hn (by rw [hG]; exact h0)).mono ?_
  rintro e w' ⟨ao, k, c, rfl, hS, _, hb⟩
  rw [hN, hG] at hS
  refine ⟨ao, k, c, rfl, hS, ?_, hb⟩
  rw [← hS.len, ← h1.len]
  exact ln_div N G

end Go.Proofs.YtgdhleiokfaeoaaDoor

namespace Go.Proofs.YtgdhleiokfaeoaaDoor
open Go.RowKit Go.Lb

attribute [local go_sem ↓] Go.wp_at_zero Go.wp_at_succ

theorem bgRNumZ_any (b base : Nat) (x : Rat) (w : World) (h : Rq 31 w base b x) (l : ln x.num.natAbs ≤ 4294967296) :
    Calls Tryd.prog 101 #[.pointer (some ⟨b, 0, none⟩)] w (MkZ 31 x.num w) :=
  (bgRNum_any b base _ _ _ w h l).mono fun _ _ h => h.z (nzB_nat _ _ rfl) rfl

theorem bgRDenomZ_any (b base : Nat) (x : Rat) (w : World) (h : Rq 31 w base b x) (l : ln x.den ≤ 4294967296) :
    Calls Tryd.prog 62 #[.pointer (some ⟨b, 0, none⟩)] w (MkZ 31 (x.den : Int) w) :=
  (bgRDenom_any b base _ _ _ w h l).mono fun _ _ h => h.z (nonneg_nat _).symm (Int.natAbs_natCast _).symm

theorem bgRSignZ_any (b base : Nat) (x : Rat) (w : World) (h : Rq 31 w base b x) :
    Calls Tryd.prog 64 #[.pointer (some ⟨b, 0, none⟩)] w fun e w' => e = .returned (.int .i64 x.num.sign) ∧ w = w' := by
  have := bgRSign_any b base _ _ _ w h
  rwa [sgnI_z] at this

theorem bgSetFracZ_any (b base B1 B2 b1 b2 : Nat) (x : Int) (y : Nat) (w : World) (hr : Res3 w b) (h1 : Iz 31 w B1 b1 x) (h2 : Iz 31 w B2 b2 (y : Int)) (ne1 : b1 ≠ b) (ne2 : b2 ≠ b) (hy : y ≠ 0) (hbb : base ≤ b) (l1 : ln x.natAbs ≤ 67108864) (l2 : ln y ≤ 67108864) (hT : Tab w) :
    Calls Tryd.prog 54 #[.pointer (some ⟨b, 0, none⟩), .pointer (some ⟨b1, 0, none⟩), .pointer (some ⟨b2, 0, none⟩)] w (StQ 31 b base (mkRat x y) w) := by
  obtain ⟨a1, n1, c1, i1⟩ := h1
  obtain ⟨a2, n2, c2, i2⟩ := iz_nat h2
  refine (bgSetFrac_any b base B1 B2 b1 b2 _ false a1 a2 n1 n2 c1 c2 _ y w hr i1 i2 ne1 ne2 hy hbb (by rw [i1.len]; exact l1) (by rw [i2.len]; exact l2) hT).mono ?_
  rintro e w' ⟨he, hra, hg⟩
  refine ⟨he, ?_, hg⟩
  obtain ⟨p1, p2, p3⟩ := mk_parts x hy
  unfold Rq
  rw [p1, p2, p3]
  rwa [Bool.bne_false, nzB_nat _ _ rfl] at hra

end Go.Proofs.YtgdhleiokfaeoaaDoor

namespace Go.Proofs.YtgdhleiokfaeoaaDoor
open Go.RowKit Go.Lb

attribute [local go_sem ↓] Go.wp_at_zero Go.wp_at_succ

set_option maxHeartbeats 1600000 in
theorem bgRCmp_nz (b1 b2 : Nat) (w : World) (h1 : Calls Tryd.prog 64 #[.pointer (some ⟨b1, 0, none⟩)] w fun e w' => e = .returned (.int .i64 (-1)) ∧ w = w') (h2 : Calls Tryd.prog 64 #[.pointer (some ⟨b2, 0, none⟩)] w fun e w' => e = .returned (.int .i64 0) ∧ w = w') :
    Calls Tryd.prog 30 #[.pointer (some ⟨b1, 0, none⟩), .pointer (some ⟨b2, 0, none⟩)] w fun e w' => e = .returned (.int .i64 (-1)) ∧ Below w.heap.size w w' := by
  go_enter Tryd.func30, Tryd.ntmps30
  go_wp2_with (first
    | (go_at_call 64; (with_reducible refine h1.mono ?_); rintro e w1 ⟨rfl, rfl⟩)
    | (go_at_call 64; (with_reducible refine h2.mono ?_); rintro e w1 ⟨rfl, rfl⟩))
  go_ret
  exact ⟨rfl, Below.refl _ _⟩

set_option maxHeartbeats 1600000 in
theorem bgRCmp_np (b1 b2 : Nat) (w : World) (h1 : Calls Tryd.prog 64 #[.pointer (some ⟨b1, 0, none⟩)] w fun e w' => e = .returned (.int .i64 (-1)) ∧ w = w') (h2 : Calls Tryd.prog 64 #[.pointer (some ⟨b2, 0, none⟩)] w fun e w' => e = .returned (.int .i64 1) ∧ w = w') :
    Calls Tryd.prog 30 #[.pointer (some ⟨b1, 0, none⟩), .pointer (some ⟨b2, 0, none⟩)] w fun e w' => e = .returned (.int .i64 (-1)) ∧ Below w.heap.size w w' := by
  go_enter Tryd.func30, Tryd.ntmps30
  go_wp2_with (first
    | (go_at_call 64; (with_reducible refine h1.mono ?_); rintro e w1 ⟨rfl, rfl⟩)
    | (go_at_call 64; (with_reducible refine h2.mono ?_); rintro e w1 ⟨rfl, rfl⟩))
  go_ret
  exact ⟨rfl, Below.refl _ _⟩

set_option maxHeartbeats 1600000 in
theorem bgRCmp_zn (b1 b2 : Nat) (w : World) (h1 : Calls Tryd.prog 64 #[.pointer (some ⟨b1, 0, none⟩)] w fun e w' => e = .returned (.int .i64 0) ∧ w = w') (h2 : Calls Tryd.prog 64 #[.pointer (some ⟨b2, 0, none⟩)] w fun e w' => e = .returned (.int .i64 (-1)) ∧ w = w') :
    Calls Tryd.prog 30 #[.pointer (some ⟨b1, 0, none⟩), .pointer (some ⟨b2, 0, none⟩)] w fun e w' => e = .returned (.int .i64 1) ∧ Below w.heap.size w w' := by
  go_enter Tryd.func30, Tryd.ntmps30
  go_wp2_with (first
    | (go_at_call 64; (with_reducible refine h1.mono ?_); rintro e w1 ⟨rfl, rfl⟩)
    | (go_at_call 64; (with_reducible refine h2.mono ?_); rintro e w1 ⟨rfl, rfl⟩))
  go_ret
  exact ⟨rfl, Below.refl _ _⟩

set_option maxHeartbeats 1600000 in
theorem bgRCmp_zz (b1 b2 : Nat) (w : World) (h1 : Calls Tryd.prog 64 #[.pointer (some ⟨b1, 0, none⟩)] w fun e w' => e = .returned (.int .i64 0) ∧ w = w') (h2 : Calls Tryd.prog 64 #[.pointer (some ⟨b2, 0, none⟩)] w fun e w' => e = .returned (.int .i64 0) ∧ w = w') :
    Calls Tryd.prog 30 #[.pointer (some ⟨b1, 0, none⟩), .pointer (some ⟨b2, 0, none⟩)] w fun e w' => e = .returned (.int .i64 0) ∧ Below w.heap.size w w' := by
  go_enter Tryd.func30, Tryd.ntmps30
  go_wp2_with (first
    | (go_at_call 64; (with_reducible refine h1.mono ?_); rintro e w1 ⟨rfl, rfl⟩)
    | (go_at_call 64; (with_reducible refine h2.mono ?_); rintro e w1 ⟨rfl, rfl⟩))
  go_ret
  exact ⟨rfl, Below.refl _ _⟩

set_option maxHeartbeats 1600000 in
theorem bgRCmp_zp (b1 b2 : Nat) (w : World) (h1 : Calls Tryd.prog 64 #[.pointer (some ⟨b1, 0, none⟩)] w fun e w' => e = .returned (.int .i64 0) ∧ w = w') (h2 : Calls Tryd.prog 64 #[.pointer (some ⟨b2, 0, none⟩)] w fun e w' => e = .returned (.int .i64 1) ∧ w = w') :
    Calls Tryd.prog 30 #[.pointer (some ⟨b1, 0, none⟩), .pointer (some ⟨b2, 0, none⟩)] w fun e w' => e = .returned (.int .i64 (-1)) ∧ Below w.heap.size w w' := by
  go_enter Tryd.func30, Tryd.ntmps30
  go_wp2_with (first
    | (go_at_call 64; (with_reducible refine h1.mono ?_); rintro e w1 ⟨rfl, rfl⟩)
    | (go_at_call 64; (with_reducible refine h2.mono ?_); rintro e w1 ⟨rfl, rfl⟩))
  go_ret
  exact ⟨rfl, Below.refl _ _⟩

set_option maxHeartbeats 1600000 in
theorem bgRCmp_pn (b1 b2 : Nat) (w : World) (h1 : Calls Tryd.prog 64 #[.pointer (some ⟨b1, 0, none⟩)] w fun e w' => e = .returned (.int .i64 1) ∧ w = w') (h2 : Calls Tryd.prog 64 #[.pointer (some ⟨b2, 0, none⟩)] w fun e w' => e = .returned (.int .i64 (-1)) ∧ w = w') :
    Calls Tryd.prog 30 #[.pointer (some ⟨b1, 0, none⟩), .pointer (some ⟨b2, 0, none⟩)] w fun e w' => e = .returned (.int .i64 1) ∧ Below w.heap.size w w' := by
  go_enter Tryd.func30, Tryd.ntmps30
  go_wp2_with (first
    | (go_at_call 64; (with_reducible refine h1.mono ?_); rintro e w1 ⟨rfl, rfl⟩)
    | (go_at_call 64; (with_reducible refine h2.mono ?_); rintro e w1 ⟨rfl, rfl⟩))
  go_ret
  exact ⟨rfl, Below.refl _ _⟩

set_option maxHeartbeats 1600000 in
theorem bgRCmp_pz (b1 b2 : Nat) (w : World) (h1 : Calls Tryd.prog 64 #[.pointer (some ⟨b1, 0, none⟩)] w fun e w' => e = .returned (.int .i64 1) ∧ w = w') (h2 : Calls Tryd.prog 64 #[.pointer (some ⟨b2, 0, none⟩)] w fun e w' => e = .returned (.int .i64 0) ∧ w = w') :
    Calls Tryd.prog 30 #[.pointer (some ⟨b1, 0, none⟩), .pointer (some ⟨b2, 0, none⟩)] w fun e w' => e = .returned (.int .i64 1) ∧ Below w.heap.size w w' := by
  go_enter Tryd.func30, Tryd.ntmps30
  go_wp2_with (first
    | (go_at_call 64; (with_reducible refine h1.mono ?_); rintro e w1 ⟨rfl, rfl⟩)
    | (go_at_call 64; (with_reducible refine h2.mono ?_); rintro e w1 ⟨rfl, rfl⟩))
  go_ret
  exact ⟨rfl, Below.refl _ _⟩

set_option maxRecDepth 100000 in
set_option maxHeartbeats 3000000 in
theorem bgRCmp_pp (b1 b2 B1 B2 : Nat) (x y : Rat) (w : World) (h1 : Rq 31 w B1 b1 x) (h2 : Rq 31 w B2 b2 y) (hx : x.num.sign = 1) (hy : y.num.sign = 1) (l1 : ln x.num.natAbs ≤ 67108864) (l2 : ln x.den ≤ 67108864) (l3 : ln y.num.natAbs ≤ 67108864) (l4 : ln y.den ≤ 67108864) :
    Calls Tryd.prog 30 #[.pointer (some ⟨b1, 0, none⟩), .pointer (some ⟨b2, 0, none⟩)] w fun e w' => e = .returned (.int .i64 (cmpQ x y)) ∧ Below w.heap.size w w' := by
  have hn0 : x.num ≠ 0 := by intro h; rw [h] at hx; exact absurd hx (by decide)
  have hS1 := bgRSignZ_any b1 B1 x w h1
  have hS2 := bgRSignZ_any b2 B2 y w h2
  have hC := Lib.hid (cmpQ_sizes hn0 (hx.trans hy.symm))
  have hdec : decide (x.num < 0) = false := decide_eq_false (by intro h; rw [Int.sign_eq_neg_one_of_neg h] at hx; exact absurd hx (by decide))
  rw [hx] at hS1
  rw [hy] at hS2
  have hB1 : ∀ W, Below w.heap.size w W → Calls Tryd.prog 67 #[.pointer (some ⟨b1, 0, none⟩)] W fun e w' => ∃ ao k c, e = .returned (.slice ao k c) ∧ Sl w' ao k c (limbs x.den) ∧ Below W.heap.size W w' := fun W hW => bgRbelow_any b1 B1 _ _ _ W (Ra.stay h1 hW)
  have hB2 : ∀ W, Below w.heap.size w W → Calls Tryd.prog 67 #[.pointer (some ⟨b2, 0, none⟩)] W fun e w' => ∃ ao k c, e = .returned (.slice ao k c) ∧ Sl w' ao k c (limbs y.den) ∧ Below W.heap.size W w' := fun W hW => bgRbelow_any b2 B2 _ _ _ W (Ra.stay h2 hW)
  obtain ⟨⟨a1, n1, c1, i1⟩, _, _⟩ := h1
  obtain ⟨⟨a2, n2, c2, i2⟩, _, _⟩ := h2
  have hn1 : n1 ≤ 67108864 := by rw [i1.len]; exact l1
  have hn2 : n2 ≤ 67108864 := by rw [i2.len]; exact l3
  have s1 := i1.fr.sl
  have s2 := i2.fr.sl
  obtain ⟨d0, d1, _, _, _, _, _⟩ := i1
  obtain ⟨_, e1, _, _, _, _, _⟩ := i2
  rw [hdec] at d0
  have hM1 : ∀ W a k c, Below w.heap.size w W → Sl W a k c (limbs y.den) → Calls Tryd.prog 66 #[.slice a1 n1 c1, .slice a k c] W (Wd 31 (x.num.natAbs * y.den) W) := fun W a k c hW hs => by
    have := bgMulW_any a1 a n1 k c1 c _ _ W (s1.below hW) hs (by omega) (by rw [← hs.len]; exact Nat.le_trans l4 (by decide))
    rwa [val_limbs', val_limbs'] at this
  have hM2 : ∀ W a k c, Below w.heap.size w W → Sl W a k c (limbs x.den) → Calls Tryd.prog 66 #[.slice a2 n2 c2, .slice a k c] W (Wd 31 (y.num.natAbs * x.den) W) := fun W a k c hW hs => by
    have := bgMulW_any a2 a n2 k c2 c _ _ W (s2.below hW) hs (by omega) (by rw [← hs.len]; exact Nat.le_trans l2 (by decide))
    rwa [val_limbs', val_limbs'] at this
  have hQ : ∀ W a k c a' k' c', Sl W a k c (limbs (x.num.natAbs * y.den)) → Sl W a' k' c' (limbs (y.num.natAbs * x.den)) → Calls Tryd.prog 65 #[.slice a k c, .slice a' k' c'] W fun e w' => e = .returned (.int .i64 (cmpN (x.num.natAbs * y.den) (y.num.natAbs * x.den))) ∧ Below W.heap.size W w' := fun W a k c a' k' c' hs hs' => by
    have := bgCmp_any a a' k k' c c' _ _ W hs hs' (fine_limbs _) (fine_limbs _)
    rwa [val_limbs', val_limbs'] at this
  have hcb : -1 ≤ cmpN (x.num.natAbs * y.den) (y.num.natAbs * x.den) ∧ cmpN (x.num.natAbs * y.den) (y.num.natAbs * x.den) ≤ 1 := by unfold cmpN; split <;> (try split) <;> decide
  generalize cmpN (x.num.natAbs * y.den) (y.num.natAbs * x.den) = q at *
  obtain ⟨hcb1, hcb2⟩ := hcb
  rw [if_neg (of_decide_eq_false hdec)] at hC
  clear l1 l2 l3 l4 hn1 hn2 s1 s2 hdec hx hy hn0
  go_enter Tryd.func30, Tryd.ntmps30
  go_wp2_with (first
    | (go_at_call 64; (with_reducible refine hS1.mono ?_); rintro e w1 ⟨rfl, rfl⟩)
    | (go_at_call 64; (with_reducible refine hS2.mono ?_); rintro e w1 ⟨rfl, rfl⟩))
  go_region_held3 (fun w' => w'.cell? ⟨b1, 1, none⟩ = some (.slice a1 n1 c1) ∧ w'.cell? ⟨b2, 1, none⟩ = some (.slice a2 n2 c2))
    ((first | exact ⟨cellStay d1 WE, cellStay e1 WE⟩ | exact ⟨cellStay d1 WD, cellStay e1 WD⟩ | exact ⟨cellStay d1 WC, cellStay e1 WC⟩ | exact ⟨cellStay d1 WB, cellStay e1 WB⟩ | exact ⟨cellStay d1 WA, cellStay e1 WA⟩ | (go_keep; done)))
    (first
      | (go_at_call 67; (with_reducible refine (hB2 _ ?_).mono ?_); (exact (Below.refl _ _).drew); rintro en wA ⟨a3, n3, c3, rfl, s3, hbA⟩; have WA : Below w.heap.size w wA := undrew hbA)
      | (go_at_call 66; (with_reducible refine (hM1 _ _ _ _ ?_ ?_).mono ?_); (exact WA); (exact s3); rintro en wB ⟨a4, n4, c4, rfl, F4, hbB⟩; have WB := next WA hbB)
      | (go_at_call 67; (with_reducible refine (hB1 _ ?_).mono ?_); (exact WB); rintro en wC ⟨a5, n5, c5, rfl, s5, hbC⟩; have WC := next WB hbC)
      | (go_at_call 66; (with_reducible refine (hM2 _ _ _ _ ?_ ?_).mono ?_); (exact WC); (exact s5); rintro en wD ⟨a6, n6, c6, rfl, F6, hbD⟩; have WD := next WC hbD)
      | (go_at_call 65; (with_reducible refine (hQ _ _ _ _ _ _ _ ?_ ?_).mono ?_); (exact (F4.below (next hbC hbD)).sl); (exact F6.sl); rintro en wE ⟨rfl, hbE⟩; have WE := next WD hbE))
  all_goals have f0 := cellStay d0 WE
  all_goals go_wp2
  all_goals go_ret
  all_goals exact ⟨by rw [hC.out]; rfl, WE⟩

set_option maxRecDepth 100000 in
set_option maxHeartbeats 3000000 in
theorem bgRCmp_nn (b1 b2 B1 B2 : Nat) (x y : Rat) (w : World) (h1 : Rq 31 w B1 b1 x) (h2 : Rq 31 w B2 b2 y) (hx : x.num.sign = (-1)) (hy : y.num.sign = (-1)) (l1 : ln x.num.natAbs ≤ 67108864) (l2 : ln x.den ≤ 67108864) (l3 : ln y.num.natAbs ≤ 67108864) (l4 : ln y.den ≤ 67108864) :
    Calls Tryd.prog 30 #[.pointer (some ⟨b1, 0, none⟩), .pointer (some ⟨b2, 0, none⟩)] w fun e w' => e = .returned (.int .i64 (cmpQ x y)) ∧ Below w.heap.size w w' := by
  have hn0 : x.num ≠ 0 := by intro h; rw [h] at hx; exact absurd hx (by decide)
  have hS1 := bgRSignZ_any b1 B1 x w h1
  have hS2 := bgRSignZ_any b2 B2 y w h2
  have hC := Lib.hid (cmpQ_sizes hn0 (hx.trans hy.symm))
  have hdec : decide (x.num < 0) = true := decide_eq_true (by rcases Int.lt_or_le x.num 0 with h | h; exact h; exfalso; have := Int.sign_nonneg_iff.2 h; omega)
  rw [hx] at hS1
  rw [hy] at hS2
  have hB1 : ∀ W, Below w.heap.size w W → Calls Tryd.prog 67 #[.pointer (some ⟨b1, 0, none⟩)] W fun e w' => ∃ ao k c, e = .returned (.slice ao k c) ∧ Sl w' ao k c (limbs x.den) ∧ Below W.heap.size W w' := fun W hW => bgRbelow_any b1 B1 _ _ _ W (Ra.stay h1 hW)
  have hB2 : ∀ W, Below w.heap.size w W → Calls Tryd.prog 67 #[.pointer (some ⟨b2, 0, none⟩)] W fun e w' => ∃ ao k c, e = .returned (.slice ao k c) ∧ Sl w' ao k c (limbs y.den) ∧ Below W.heap.size W w' := fun W hW => bgRbelow_any b2 B2 _ _ _ W (Ra.stay h2 hW)
  obtain ⟨⟨a1, n1, c1, i1⟩, _, _⟩ := h1
  obtain ⟨⟨a2, n2, c2, i2⟩, _, _⟩ := h2
  have hn1 : n1 ≤ 67108864 := by rw [i1.len]; exact l1
  have hn2 : n2 ≤ 67108864 := by rw [i2.len]; exact l3
  have s1 := i1.fr.sl
  have s2 := i2.fr.sl
  obtain ⟨d0, d1, _, _, _, _, _⟩ := i1
  obtain ⟨_, e1, _, _, _, _, _⟩ := i2
  rw [hdec] at d0
  have hM1 : ∀ W a k c, Below w.heap.size w W → Sl W a k c (limbs y.den) → Calls Tryd.prog 66 #[.slice a1 n1 c1, .slice a k c] W (Wd 31 (x.num.natAbs * y.den) W) := fun W a k c hW hs => by
    have := bgMulW_any a1 a n1 k c1 c _ _ W (s1.below hW) hs (by omega) (by rw [← hs.len]; exact Nat.le_trans l4 (by decide))
    rwa [val_limbs', val_limbs'] at this
  have hM2 : ∀ W a k c, Below w.heap.size w W → Sl W a k c (limbs x.den) → Calls Tryd.prog 66 #[.slice a2 n2 c2, .slice a k c] W (Wd 31 (y.num.natAbs * x.den) W) := fun W a k c hW hs => by
    have := bgMulW_any a2 a n2 k c2 c _ _ W (s2.below hW) hs (by omega) (by rw [← hs.len]; exact Nat.le_trans l2 (by decide))
    rwa [val_limbs', val_limbs'] at this
  have hQ : ∀ W a k c a' k' c', Sl W a k c (limbs (x.num.natAbs * y.den)) → Sl W a' k' c' (limbs (y.num.natAbs * x.den)) → Calls Tryd.prog 65 #[.slice a k c, .slice a' k' c'] W fun e w' => e = .returned (.int .i64 (cmpN (x.num.natAbs * y.den) (y.num.natAbs * x.den))) ∧ Below W.heap.size W w' := fun W a k c a' k' c' hs hs' => by
    have := bgCmp_any a a' k k' c c' _ _ W hs hs' (fine_limbs _) (fine_limbs _)
    rwa [val_limbs', val_limbs'] at this
  have hcb : -1 ≤ cmpN (x.num.natAbs * y.den) (y.num.natAbs * x.den) ∧ cmpN (x.num.natAbs * y.den) (y.num.natAbs * x.den) ≤ 1 := by unfold cmpN; split <;> (try split) <;> decide
  generalize cmpN (x.num.natAbs * y.den) (y.num.natAbs * x.den) = q at *
  obtain ⟨hcb1, hcb2⟩ := hcb
  rw [if_pos (of_decide_eq_true hdec)] at hC
  clear l1 l2 l3 l4 hn1 hn2 s1 s2 hdec hx hy hn0
  go_enter Tryd.func30, Tryd.ntmps30
  go_wp2_with (first
    | (go_at_call 64; (with_reducible refine hS1.mono ?_); rintro e w1 ⟨rfl, rfl⟩)
    | (go_at_call 64; (with_reducible refine hS2.mono ?_); rintro e w1 ⟨rfl, rfl⟩))
  go_region_held3 (fun w' => w'.cell? ⟨b1, 1, none⟩ = some (.slice a1 n1 c1) ∧ w'.cell? ⟨b2, 1, none⟩ = some (.slice a2 n2 c2))
    ((first | exact ⟨cellStay d1 WE, cellStay e1 WE⟩ | exact ⟨cellStay d1 WD, cellStay e1 WD⟩ | exact ⟨cellStay d1 WC, cellStay e1 WC⟩ | exact ⟨cellStay d1 WB, cellStay e1 WB⟩ | exact ⟨cellStay d1 WA, cellStay e1 WA⟩ | (go_keep; done)))
    (first
      | (go_at_call 67; (with_reducible refine (hB2 _ ?_).mono ?_); (exact (Below.refl _ _).drew); rintro en wA ⟨a3, n3, c3, rfl, s3, hbA⟩; have WA : Below w.heap.size w wA := undrew hbA)
      | (go_at_call 66; (with_reducible refine (hM1 _ _ _ _ ?_ ?_).mono ?_); (exact WA); (exact s3); rintro en wB ⟨a4, n4, c4, rfl, F4, hbB⟩; have WB := next WA hbB)
      | (go_at_call 67; (with_reducible refine (hB1 _ ?_).mono ?_); (exact WB); rintro en wC ⟨a5, n5, c5, rfl, s5, hbC⟩; have WC := next WB hbC)
      | (go_at_call 66; (with_reducible refine (hM2 _ _ _ _ ?_ ?_).mono ?_); (exact WC); (exact s5); rintro en wD ⟨a6, n6, c6, rfl, F6, hbD⟩; have WD := next WC hbD)
      | (go_at_call 65; (with_reducible refine (hQ _ _ _ _ _ _ _ ?_ ?_).mono ?_); (exact (F4.below (next hbC hbD)).sl); (exact F6.sl); rintro en wE ⟨rfl, hbE⟩; have WE := next WD hbE))
  all_goals have f0 := cellStay d0 WE
  all_goals go_wp2
  all_goals go_ret
  all_goals exact ⟨by rw [hC.out]; rfl, WE⟩

/-- How two fractions stand. -/
theorem bgRCmp_any (b1 b2 B1 B2 : Nat) (x y : Rat) (w : World) (h1 : Rq 31 w B1 b1 x) (h2 : Rq 31 w B2 b2 y) (l1 : ln x.num.natAbs ≤ 67108864) (l2 : ln x.den ≤ 67108864) (l3 : ln y.num.natAbs ≤ 67108864) (l4 : ln y.den ≤ 67108864) :
    Calls Tryd.prog 30 #[.pointer (some ⟨b1, 0, none⟩), .pointer (some ⟨b2, 0, none⟩)] w fun e w' => e = .returned (.int .i64 (cmpQ x y)) ∧ Below w.heap.size w w' := by
  have hS1 := bgRSignZ_any b1 B1 x w h1
  have hS2 := bgRSignZ_any b2 B2 y w h2
  have sg : ∀ z : Int, z.sign = -1 ∨ z.sign = 0 ∨ z.sign = 1 := fun z => by
    rcases Int.lt_trichotomy z 0 with h | h | h
    · exact .inl (Int.sign_eq_neg_one_of_neg h)
    · subst h; exact .inr (.inl rfl)
    · exact .inr (.inr (Int.sign_eq_one_of_pos h))
  rcases sg x.num with u | u | u <;> rcases sg y.num with v | v | v
  · exact bgRCmp_nn b1 b2 B1 B2 x y w h1 h2 u v l1 l2 l3 l4
  · have hq := cmpQ_signs (x := x) (y := y) (by rw [u, v]; decide)
    rw [u, v] at hq
    rw [u] at hS1
    rw [v] at hS2
    rw [show cmpQ x y = _ from hq]
    exact bgRCmp_nz b1 b2 w hS1 hS2
  · have hq := cmpQ_signs (x := x) (y := y) (by rw [u, v]; decide)
    rw [u, v] at hq
    rw [u] at hS1
    rw [v] at hS2
    rw [show cmpQ x y = _ from hq]
    exact bgRCmp_np b1 b2 w hS1 hS2
  · have hq := cmpQ_signs (x := x) (y := y) (by rw [u, v]; decide)
    rw [u, v] at hq
    rw [u] at hS1
    rw [v] at hS2
    rw [show cmpQ x y = _ from hq]
    exact bgRCmp_zn b1 b2 w hS1 hS2
  · have hq := cmpQ_signs (x := x) (y := y) (by rw [u, v]; decide)
    rw [u, v] at hq
    rw [u] at hS1
    rw [v] at hS2
    rw [show cmpQ x y = _ from hq]
    exact bgRCmp_zz b1 b2 w hS1 hS2
  · have hq := cmpQ_signs (x := x) (y := y) (by rw [u, v]; decide)
    rw [u, v] at hq
    rw [u] at hS1
    rw [v] at hS2
    rw [show cmpQ x y = _ from hq]
    exact bgRCmp_zp b1 b2 w hS1 hS2
  · have hq := cmpQ_signs (x := x) (y := y) (by rw [u, v]; decide)
    rw [u, v] at hq
    rw [u] at hS1
    rw [v] at hS2
    rw [show cmpQ x y = _ from hq]
    exact bgRCmp_pn b1 b2 w hS1 hS2
  · have hq := cmpQ_signs (x := x) (y := y) (by rw [u, v]; decide)
    rw [u, v] at hq
    rw [u] at hS1
    rw [v] at hS2
    rw [show cmpQ x y = _ from hq]
    exact bgRCmp_pz b1 b2 w hS1 hS2
  · exact bgRCmp_pp b1 b2 B1 B2 x y w h1 h2 u v l1 l2 l3 l4

/-- What stands below the line, and where. -/
theorem bgRbelow2_any (b base : Nat) (s : Bool) (N D : Nat) (w : World) (h : Ra 31 w base b s N D) :
    Calls Tryd.prog 67 #[.pointer (some ⟨b, 0, none⟩)] w fun e w' => ∃ ao k c, e = .returned (.slice ao k c) ∧ Sl w' ao k c (limbs D) ∧ Below w.heap.size w w' ∧ ∀ p, p < w.heap.size → Hd 31 w p → blkOf ao ≠ some p := by
  obtain ⟨_, ⟨ad, kd, cd, ds, h2, hf, ⟨hD, hd⟩, hn⟩, _⟩ := h
  by_cases hk : kd = 0
  · have hl : ds = [] := List.length_eq_zero_iff.1 (by rw [hf.sl.len]; exact hk)
    have hD1 : D = 1 := by
      rcases hd with hd | ⟨_, hd⟩
      · have := val_limbs' D
        rw [← hd, hl] at this
        exact absurd this (by simp [val]; omega)
      · exact hd
    subst hk
    have hl1 : Hid (limbs D = [1]) := Lib.hid (by rw [hD1]; decide)
    have ho := own_sl (bgOwn_one w 1) (by intro x hx; simp at hx; omega)
    clear hf hd hl hD1
    go_enter Tryd.func67, Tryd.ntmps67
    go_wp2
    go_ret
    exact ⟨_, _, _, rfl, by rw [hl1.out]; exact ho, more (Below.refl _ _) _, fun p hp _ h => by have : w.heap.size = p := Option.some.inj h; omega⟩
  · have hk1 : ((kd : Int) == 0) = false := by simp [hk]
    have hds : ds = limbs D := by
      rcases hd with hd | ⟨hd, _⟩
      · exact hd
      · exact absurd (by rw [← hf.sl.len, hd]; rfl) hk
    subst hds
    have hs := hf.sl
    have HB : Hid (∀ p, Hd 31 w p → blkOf ad ≠ some p) := Lib.hid (fun p hp => fr_hd hf hp)
    clear hf hd hk
    go_enter Tryd.func67, Tryd.ntmps67
    go_wp2
    go_ret
    exact ⟨_, _, _, rfl, hs, Below.refl _ _, fun p _ hp => HB.out p hp⟩

end Go.Proofs.YtgdhleiokfaeoaaDoor
