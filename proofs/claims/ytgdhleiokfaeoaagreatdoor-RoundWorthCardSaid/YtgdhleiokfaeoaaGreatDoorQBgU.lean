/-
  Contracts of numeral/big: Rat: times, Mul, Quo. (Printed by wip/gen/bigR.py.) Contracts of numeral/big: Rat: SetInt, SetInt64, Inv, Set, Abs, Neg, IsInt, Cmp, SetFrac, NewRat, Num, Denom, Sign. (Printed by wip/gen/bigS.py.) Contracts of numeral/big: Rat: Cmp, added, Add, Sub. (Printed by wip/gen/bigU.py.)
-/
import Derived.Test.YtgdhleiokfaeoaaGreatDoorQBgV
import Derived.Test.YtgdhleiokfaeoaaGreatDoorQRatM
namespace Go.Proofs.YtgdhleiokfaeoaaGreatDoor

open Go.RowKit Go.Lb

attribute [local go_sem ↓] Go.wp_at_zero Go.wp_at_succ

/-- by, whose answer is read alone. -/
theorem bgBy_sl (a1 a2 : Option Addr) (n1 n2 c1 c2 N G : Nat) (w : World) (h1 : Sl w a1 n1 c1 (limbs N)) (h2 : Sl w a2 n2 c2 (limbs G)) (hn : n1 ≤ 1073741824) (h0 : G ≠ 0) :
    Calls Tryz.prog 209 #[.slice a1 n1 c1, .slice a2 n2 c2] w fun e w' => ∃ ao k c, e = .returned (.slice ao k c) ∧ Sl w' ao k c (limbs (N / G)) ∧ k ≤ n1 ∧ Below w.heap.size w w' := by
  have hG : val (limbs G) = G := val_limbs' G
  have hN : val (limbs N) = N := val_limbs' N
  refine (bgBy_any a1 a2 n1 n2 c1 c2 (limbs N) (limbs G) w h1 h2 (fine_limbs _) (fine_limbs _) hn (by rw [hG]; exact h0)).mono ?_
  rintro e w' ⟨ao, k, c, rfl, hS, _, hb⟩
  rw [hN, hG] at hS
  refine ⟨ao, k, c, rfl, hS, ?_, hb⟩
  rw [← hS.len, ← h1.len]
  exact ln_div N G

set_option maxRecDepth 100000 in
set_option maxHeartbeats 3000000 in
theorem bgTimes_zero (b base : Nat) (s : Bool) (aa ad ab ac : Option Addr) (na nd nb nc ca cd cb cc A D B C : Nat) (w : World) (hr : Res3 w b) (hbb : base ≤ b) (h1 : Sl w aa na ca (limbs A)) (h3 : Sl w ab nb cb (limbs B)) (hT : Tab w) (h0 : na = 0 ∨ nb = 0) :
    Calls Tryz.prog 159 #[.pointer (some ⟨b, 0, none⟩), .bool s, .slice aa na ca, .slice ad nd cd, .slice ab nb cb, .slice ac nc cc] w (StQ 43 b base (mkRat (sgv s (A * B)) (D * C)) w) := by
  have hAB : A * B = 0 := by
    rcases h0 with h0 | h0
    · have : A = 0 := by rw [← val_limbs' A, List.length_eq_zero_iff.1 (h1.len.trans h0)]; rfl
      rw [this, Nat.zero_mul]
    · have : B = 0 := by rw [← val_limbs' B, List.length_eq_zero_iff.1 (h3.len.trans h0)]; rfl
      rw [this, Nat.mul_zero]
  have hq : mkRat (sgv s (A * B)) (D * C) = 0 := by
    rw [hAB, show sgv s 0 = 0 by cases s <;> rfl, Rat.zero_mkRat]
  rw [hq]
  clear hq hAB
  have hbl := hr.lt
  obtain ⟨W1, hW1⟩ : ∃ W1 : World, W1 = w.alloc (.cells #[.int .u32 1] 43) := ⟨_, rfl⟩
  have hb1 : Below w.heap.size w W1 := hW1 ▸ more (Below.refl _ _) _
  have hF : Fr 43 W1 w.heap.size (some ⟨w.heap.size, 0, none⟩) 1 1 (limbs 1) := by
    have ho := bgOwn_one w 1
    have := fr_own ho (by intro x hx; simp at hx; omega) (Nat.le_refl _) (Nat.le_refl _) (Nat.le_refl _)
    rw [hW1]
    exact this
  have hS := bgRSet_any b base w.heap.size false none (some ⟨w.heap.size, 0, none⟩) 0 1 0 1 0 1 W1 (hr.stay hb1) (fr_nil _ _ _) hF (by decide) hbl hb1.size hbb (by decide) (by decide) (hT.below hb1)
  have hS2 : Calls Tryz.prog 154 #[.pointer (some ⟨b, 0, none⟩), .bool false, .slice none 0 0, .slice (some ⟨w.heap.size, 0, none⟩) 1 1] W1 (StQ 43 b base 0 w) := hS.mono fun e w' h => ⟨h.1, h.2.1, grown_trans (grown_below hb1 _) h.2.2⟩
  clear hS hF h1 h3
  rw [hW1] at hS2
  clear hW1 hb1
  by_cases ha : na = 0
  · subst ha
    go_enter Tryz.func159, Tryz.ntmps159
    go_wp2_with fail
    refine hS2.mono ?_
    rintro e w2 ⟨rfl, hQ⟩
    go_wp2
    go_ret
    exact ⟨rfl, hQ⟩
  · obtain rfl : nb = 0 := by omega
    have ha1 : ((na : Int) == 0) = false := by simp [ha]
    go_enter Tryz.func159, Tryz.ntmps159
    go_wp2_with fail
    refine hS2.mono ?_
    rintro e w2 ⟨rfl, hQ⟩
    go_wp2
    go_ret
    exact ⟨rfl, hQ⟩

set_option maxRecDepth 100000 in
set_option maxHeartbeats 3000000 in
theorem bgTimes_pos (b base : Nat) (s : Bool) (aa ad ab ac : Option Addr) (na nd nb nc ca cd cb cc A D B C : Nat) (w : World) (hr : Res3 w b) (hbb : base ≤ b) (h1 : Sl w aa na ca (limbs A)) (h2 : Sl w ad nd cd (limbs D)) (h3 : Sl w ab nb cb (limbs B)) (h4 : Sl w ac nc cc (limbs C)) (hAD : Nat.Coprime A D) (hBC : Nat.Coprime B C) (hC : C ≠ 0) (hD : D ≠ 0) (l1 : na ≤ 67108864) (l2 : nd ≤ 67108864) (l3 : nb ≤ 67108864) (l4 : nc ≤ 67108864) (hT : Tab w) (h01 : na ≠ 0) (h02 : nb ≠ 0) :
    Calls Tryz.prog 159 #[.pointer (some ⟨b, 0, none⟩), .bool s, .slice aa na ca, .slice ad nd cd, .slice ab nb cb, .slice ac nc cc] w (StQ 43 b base (mkRat (sgv s (A * B)) (D * C)) w) := by
  have hbl := hr.lt
  have hP := Lib.hid (times_parts s hAD hBC hC hD)
  have hg0 : Nat.gcd A C ≠ 0 := Nat.ne_of_gt (Nat.gcd_pos_of_pos_right _ (Nat.pos_of_ne_zero hC))
  have hh0 : Nat.gcd B D ≠ 0 := Nat.ne_of_gt (Nat.gcd_pos_of_pos_right _ (Nat.pos_of_ne_zero hD))
  have hd0 : D / Nat.gcd B D * (C / Nat.gcd A C) ≠ 0 := by
    have e1 : 0 < D / Nat.gcd B D := Nat.div_pos (Nat.le_of_dvd (Nat.pos_of_ne_zero hD) (Nat.gcd_dvd_right B D)) (Nat.pos_of_ne_zero hh0)
    have e2 : 0 < C / Nat.gcd A C := Nat.div_pos (Nat.le_of_dvd (Nat.pos_of_ne_zero hC) (Nat.gcd_dvd_right A C)) (Nat.pos_of_ne_zero hg0)
    exact Nat.ne_of_gt (Nat.mul_pos e1 e2)
  have hCg : Calls Tryz.prog 208 #[.slice aa na ca, .slice ac nc cc] w (Wd 43 (Nat.gcd A C) w) := by
    have := bgCommon_any aa ac na nc ca cc (limbs A) (limbs C) w h1 h4 (fine_limbs _) (fine_limbs _) l1 l4 hT
    rwa [val_limbs', val_limbs'] at this
  have hCh : ∀ W, Below w.heap.size w W → Calls Tryz.prog 208 #[.slice ab nb cb, .slice ad nd cd] W (Wd 43 (Nat.gcd B D) W) := fun W hW => by
    have := bgCommon_any ab ad nb nd cb cd (limbs B) (limbs D) W (h3.below hW) (h2.below hW) (fine_limbs _) (fine_limbs _) l3 l2 (hT.below hW)
    rwa [val_limbs', val_limbs'] at this
  generalize Nat.gcd A C = g at *
  generalize Nat.gcd B D = h at *
  have HG := Lib.hid hg0
  have HH := Lib.hid hh0
  have HD0 := Lib.hid hd0
  have j1 : ((na : Int) == 0) = false := by simp [h01]
  have j2 : ((nb : Int) == 0) = false := by simp [h02]
  clear hAD hBC hC hD hg0 hh0 hd0 h01 h02 hT
  go_enter Tryz.func159, Tryz.ntmps159
  go_wp2_with fail
  refine hCg.mono ?_
  rintro e w1 ⟨ag, kg, cg, rfl, Fg, hb1⟩
  go_wp2_with fail
  refine (hCh _ hb1).mono ?_
  rintro e w2 ⟨ah, kh, ch, rfl, Fh, hb2⟩
  have W2 := next hb1 hb2
  go_wp2_with fail
  refine (bgBy_sl aa ag na kg ca cg A g _ (h1.below W2) (Fg.below hb2).sl (by omega) HG.out).mono ?_
  rintro e w3 ⟨a3, k3, c3, rfl, S3, le3, hb3⟩
  have W3 := next W2 hb3
  go_wp2_with fail
  refine (bgBy_sl ab ah nb kh cb ch B h _ (h3.below W3) (Fh.below hb3).sl (by omega) HH.out).mono ?_
  rintro e w4 ⟨a4, k4, c4, rfl, S4, le4, hb4⟩
  have W4 := next W3 hb4
  go_wp2_with fail
  refine (bgMulW_any a3 a4 k3 k4 c3 c4 _ _ _ (S3.below hb4) S4 (by omega) (by omega)).mono ?_
  rintro e w5 ⟨a5, k5, c5, rfl, F5, hb5⟩
  rw [val_limbs', val_limbs'] at F5
  have W5 := next W4 hb5
  have B25 := next (next hb3 hb4) hb5
  go_wp2_with fail
  refine (bgBy_sl ad ah nd kh cd ch D h _ (h2.below W5) (Fh.below B25).sl (by omega) HH.out).mono ?_
  rintro e w6 ⟨a6, k6, c6, rfl, S6, le6, hb6⟩
  have W6 := next W5 hb6
  go_wp2_with fail
  refine (bgBy_sl ac ag nc kg cc cg C g _ (h4.below W6) (Fg.below (next (next hb2 B25) hb6)).sl (by omega) HG.out).mono ?_
  rintro e w7 ⟨a7, k7, c7, rfl, S7, le7, hb7⟩
  have W7 := next W6 hb7
  go_wp2_with fail
  refine (bgMulW_any a6 a7 k6 k7 c6 c7 _ _ _ (S6.below hb7) S7 (by omega) (by omega)).mono ?_
  rintro e w8 ⟨a8, k8, c8, rfl, F8, hb8⟩
  rw [val_limbs', val_limbs'] at F8
  have W8 := next W7 hb8
  have F5' := (F5.below (next (next hb6 hb7) hb8)).mono W4.size
  have F8' := F8.mono W7.size
  have R8 := hr.stay W8
  have l5 := F5'.sl.len
  clear h1 h2 h3 h4 hb1 hb2 hb3 hb4 hb5 hb6 hb7 hb8 B25 W2 W3 W4 W5 W6 W7 S3 S4 S6 S7 Fg Fh F5 F8 hCg hCh
  go_wp2_with fail
  refine (bgSet_any b s a5 k5 c5 (A / g * (B / h)) w.heap.size _ R8.zc F5').mono ?_
  rintro e w9 ⟨rfl, rfl⟩
  have hI := setIn_in R8.zc (nzB s (A / g * (B / h))) (F5'.mono (Nat.le_trans hbb (Nat.le_of_lt hbl))) (fr_ne F5' hbl) hbb
  have G3 := setIn_grown w8 b (nzB s (A / g * (B / h))) (.slice a5 k5 c5)
  have R9 := R8.setIn (nzB s (A / g * (B / h))) (.slice a5 k5 c5)
  have F9 := fr_grown F8' G3 hbl
  generalize setIn w8 b (nzB s (A / g * (B / h))) (.slice a5 k5 c5) = w9 at *
  have cc2 := R9.c2
  have cz2 := R9.z2
  go_wp2
  go_ret
  refine ⟨rfl, ?_, grown_trans (grown_below W8 _) (grown_trans G3 (grown_set _ _ _ _))⟩
  unfold Rq
  rw [hP.out.1, hP.out.2.1, hP.out.2.2]
  exact ra_of hI R9 (F9.mono (Nat.le_trans hbb (Nat.le_of_lt hbl))) (DenW.limbs HD0.out) (fr_ne F9 hbl)

theorem bgTimes_any (b base : Nat) (s : Bool) (aa ad ab ac : Option Addr) (na nd nb nc ca cd cb cc A D B C : Nat) (w : World) (hr : Res3 w b) (hbb : base ≤ b) (h1 : Sl w aa na ca (limbs A)) (h2 : Sl w ad nd cd (limbs D)) (h3 : Sl w ab nb cb (limbs B)) (h4 : Sl w ac nc cc (limbs C)) (hAD : Nat.Coprime A D) (hBC : Nat.Coprime B C) (hC : C ≠ 0) (hD : D ≠ 0) (l1 : na ≤ 67108864) (l2 : nd ≤ 67108864) (l3 : nb ≤ 67108864) (l4 : nc ≤ 67108864) (hT : Tab w) :
    Calls Tryz.prog 159 #[.pointer (some ⟨b, 0, none⟩), .bool s, .slice aa na ca, .slice ad nd cd, .slice ab nb cb, .slice ac nc cc] w (StQ 43 b base (mkRat (sgv s (A * B)) (D * C)) w) := by
  by_cases h : na = 0 ∨ nb = 0
  · exact bgTimes_zero b base s aa ad ab ac na nd nb nc ca cd cb cc A D B C w hr hbb h1 h3 hT h
  · exact bgTimes_pos b base s aa ad ab ac na nd nb nc ca cd cb cc A D B C w hr hbb h1 h2 h3 h4 hAD hBC hC hD l1 l2 l3 l4 hT (by omega) (by omega)

end Go.Proofs.YtgdhleiokfaeoaaGreatDoor

namespace Go.Proofs.YtgdhleiokfaeoaaGreatDoor

open Go.RowKit Go.Lb

attribute [local go_sem ↓] Go.wp_at_zero Go.wp_at_succ

set_option maxHeartbeats 1600000 in
theorem bgRSetInt_any (b base B1 b1 : Nat) (x : Int) (w : World) (hr : Res3 w b) (hbb : base ≤ b) (h1 : Iz 43 w B1 b1 x) (l1 : ln x.natAbs ≤ 4294967296) :
    Calls Tryz.prog 86 #[.pointer (some ⟨b, 0, none⟩), .pointer (some ⟨b1, 0, none⟩)] w (StQ 43 b base (x : Rat) w) := by
  have hbl := hr.lt
  have hS := bgSetZ_any b base B1 b1 x w hr.zc (by omega) h1 l1
  go_enter Tryz.func86, Tryz.ntmps86
  go_wp2_with fail
  refine hS.mono ?_
  rintro e w2 hS
  obtain ⟨ao, k, c, w1, rfl, hb1, hF, hne, rfl⟩ := hS
  have R1 := hr.stay hb1
  have hI := setIn_in R1.zc (decide (x < 0)) hF hne hbb
  have R2 := R1.setIn (decide (x < 0)) (.slice ao k c)
  have G := grown_trans (grown_below hb1 (some b)) (setIn_grown w1 b (decide (x < 0)) (.slice ao k c))
  generalize setIn w1 b (decide (x < 0)) (.slice ao k c) = w2 at *
  have cc2 := R2.c2
  have cz2 := R2.z2
  go_wp2
  go_ret
  refine ⟨rfl, ?_, grown_trans G (grown_set _ _ _ _)⟩
  exact ra_of (s := decide (x < 0)) (N := x.natAbs) (D := 1) hI R2 (ds := []) (fr_nil _ _ _) ⟨by decide, .inr ⟨rfl, rfl⟩⟩ (by simp [blkOf])

set_option maxHeartbeats 1600000 in
theorem bgRSetInt64_any (b base : Nat) (x : Int) (w : World) (hr : Res3 w b) (hbb : base ≤ b) (hx : -9223372036854775808 ≤ x ∧ x ≤ 9223372036854775807) :
    Calls Tryz.prog 83 #[.pointer (some ⟨b, 0, none⟩), .int .i64 x] w (StQ 43 b base (x : Rat) w) := by
  have hN := bgNewZ_any x w hx
  have hl : Hid (ln x.natAbs ≤ 4294967296) := Lib.hid (Nat.le_trans (ln_small2 (by omega)) (by decide))
  clear hx
  go_enter Tryz.func83, Tryz.ntmps83
  go_wp2_with fail
  refine hN.mono ?_
  rintro e w1 ⟨b1, rfl, hI, hb1⟩
  go_wp2_with fail
  refine (bgRSetInt_any b base _ b1 x w1 (hr.stay hb1) hbb hI hl.out).mono ?_
  rintro e w2 hS
  obtain rfl := hS.1
  go_wp2
  go_ret
  exact hS.pre hb1

set_option maxRecDepth 100000 in
set_option maxHeartbeats 1600000 in
theorem bgRInv_any (b base B1 b1 : Nat) (x : Rat) (w : World) (hr : Res3 w b) (hbb : base ≤ b) (h1 : Rq 43 w B1 b1 x) (hx : x ≠ 0) (l1 : ln x.num.natAbs ≤ 4294967296) (l2 : ln x.den ≤ 4294967296) :
    Calls Tryz.prog 87 #[.pointer (some ⟨b, 0, none⟩), .pointer (some ⟨b1, 0, none⟩)] w (StQ 43 b base x⁻¹ w) := by
  have hbl := hr.lt
  have hP := Lib.hid (inv_parts hx)
  have hn0 : x.num.natAbs ≠ 0 := fun h => hx (Rat.num_eq_zero.1 (Int.natAbs_eq_zero.1 h))
  have hB1 := bgRbelow_any b1 B1 _ _ _ w h1
  obtain ⟨⟨a1, n1, c1, i1⟩, _, _⟩ := h1
  have hn1 : n1 ≤ 4294967296 := by rw [i1.len]; exact l1
  have s1 := i1.fr.sl
  obtain ⟨d0, d1, _, _, _, _, _⟩ := i1
  have hz : Hid (∀ t : Bool, nzB t x.den = t) := Lib.hid (by intro t; unfold nzB; rw [decide_eq_true x.den_nz, Bool.and_true])
  have L2 := Lib.hid l2
  have HN0 := Lib.hid hn0
  clear l1 l2 hx hn0
  generalize decide (x.num < 0) = sg at *
  go_enter Tryz.func87, Tryz.ntmps87
  go_wp2_with fail
  refine hB1.mono ?_
  rintro e w1 ⟨a2, k2, c2, rfl, s2, hb1⟩
  have hk2 : k2 ≤ 4294967296 := by rw [← s2.len]; exact L2.out
  have f1 := cellStay d1 hb1
  go_wp2_with fail
  refine (bgCopied_any a2 k2 c2 _ _ s2 hk2).mono ?_
  rintro e w2 ⟨g2, rfl, ho2, hb2⟩
  have F2 := fr_copied ho2 s2 (fine_limbs _)
  rw [val_limbs'] at F2
  have W2 := next hb1 hb2
  have f2 := cellStay f1 hb2
  go_wp2_with fail
  refine (bgCopied_any a1 n1 c1 _ _ (s1.below W2) hn1).mono ?_
  rintro e w3 ⟨g3, rfl, ho3, hb3⟩
  have F3 := fr_copied ho3 (s1.below W2) (fine_limbs _)
  rw [val_limbs'] at F3
  have W3 := next W2 hb3
  have F2' := (F2.below hb3).mono hb1.size
  have F3' := F3.mono W2.size
  have R3 := hr.stay W3
  clear hb1 hb2 hb3 W2 F2 F3 ho2 ho3 s2 s1 f1 f2
  go_wp2_with fail
  refine (bgSet_any b sg _ k2 k2 x.den w.heap.size _ R3.zc F2').mono ?_
  rintro e w4 ⟨rfl, rfl⟩
  have hI := setIn_in R3.zc (nzB sg x.den) (F2'.mono (Nat.le_trans hbb (Nat.le_of_lt hbl))) (fr_ne F2' hbl) hbb
  have G := setIn_grown w3 b (nzB sg x.den) (.slice (some ⟨g2, 0, none⟩) k2 k2)
  have R4 := R3.setIn (nzB sg x.den) (.slice (some ⟨g2, 0, none⟩) k2 k2)
  have F4 := fr_grown F3' G hbl
  generalize setIn w3 b (nzB sg x.den) (.slice (some ⟨g2, 0, none⟩) k2 k2) = w4 at *
  have cc2 := R4.c2
  have cz2 := R4.z2
  go_wp2
  go_ret
  refine ⟨rfl, ?_, grown_trans (grown_below W3 _) (grown_trans G (grown_set _ _ _ _))⟩
  unfold Rq
  rw [hP.out.1, hP.out.2.1, hP.out.2.2, ← hz.out sg]
  exact ra_of hI R4 (F4.mono (Nat.le_trans hbb (Nat.le_of_lt hbl))) (DenW.limbs HN0.out) (fr_ne F4 hbl)

theorem bgRSignZ_any (b base : Nat) (x : Rat) (w : World) (h : Rq 43 w base b x) :
    Calls Tryz.prog 84 #[.pointer (some ⟨b, 0, none⟩)] w fun e w' => e = .returned (.int .i64 x.num.sign) ∧ w = w' := by
  have := bgRSign_any b base _ _ _ w h
  rwa [sgnI_z] at this

end Go.Proofs.YtgdhleiokfaeoaaGreatDoor

namespace Go.Proofs.YtgdhleiokfaeoaaGreatDoor

open Go.RowKit Go.Lb

attribute [local go_sem ↓] Go.wp_at_zero Go.wp_at_succ

end Go.Proofs.YtgdhleiokfaeoaaGreatDoor

