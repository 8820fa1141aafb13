/-
  Contracts of big: by, common. (Printed by wip/gen/big.py.) Contracts of big: common whole. (Printed by wip/gen/big.py.)
-/
import Derived.Test.YtpmncmglmobjoaaGreatDoorQbTBgE
import Derived.Deep.CutRange
set_option maxHeartbeats 8000000
set_option maxRecDepth 100000
namespace Go.Proofs.YtpmncmglmobjoaaGreatDoor
open Go.RowKit Go.Lb
theorem bgBy_any (a1 a2 : Option Addr) (n1 n2 c1 c2 : Nat) (xs ys : List Nat) (w : World) (h1 : Sl w a1 n1 c1 xs) (h2 : Sl w a2 n2 c2 ys) (f1 : Fine xs) (f2 : Fine ys) (hn : n1 ≤ 1073741824) (h0 : val ys ≠ 0) :
 Calls Tryz.prog 134 #[.slice a1 n1 c1, .slice a2 n2 c2] w fun e w' => ∃ ao k c, e = .returned (.slice ao k c) ∧ Sl w' ao k c (limbs (val xs / val ys)) ∧ ((ao = a1 ∧ k = n1 ∧ c = c1 ∧ val ys = 1) ∨ Fr 40 w' w.heap.size ao k c (limbs (val xs / val ys))) ∧ Below w.heap.size w w' := by
 by_cases h : val ys = 1 ∧ n2 = 1
 · have hd : decide (val ys = 1 ∧ n2 = 1) = true := decide_eq_true h
   have hd1 := Lib.hid hd
   have hv := Lib.hid (show limbs (val xs / val ys) = xs by rw [h.1, Nat.div_one, limbs_val f1])
   have hy := Lib.hid h.1
   clear hd h h0
   go_enter Tryz.func134, Tryz.ntmps134
   go_wp2_with (go_at_call 167; refine (bgOne_any a2 n2 c2 ys _ h2).mono ?_; rintro e w1 ⟨rfl, rfl⟩; rw [hd1.out])
   go_ret
   exact ⟨a1, n1, c1, rfl, by rw [hv.out]; exact h1, .inl ⟨rfl, rfl, rfl, hy.out⟩, Below.refl _ _⟩
 · have hd : decide (val ys = 1 ∧ n2 = 1) = false := decide_eq_false h
   have hd1 := Lib.hid hd
   clear hd h
   go_enter Tryz.func134, Tryz.ntmps134
   go_wp2_with (first | (go_at_call 167; refine (bgOne_any a2 n2 c2 ys _ h2).mono ?_; rintro e w1 ⟨rfl, rfl⟩; rw [hd1.out]) | (go_at_call 164; refine (bgDiv_any a1 a2 n1 n2 c1 c2 xs ys _ h1 h2 f1 f2 hn h0).mono ?_; rintro e w2 ⟨aq, kq, cq, ar, kr, cr, rfl, hq, hr, hb⟩))
   go_ret
   exact ⟨aq, kq, cq, rfl, hq.sl, .inr hq, hb⟩
theorem bgCommon_zeroG (a1 a2 : Option Addr) (n1 n2 c1 c2 : Nat) (xs ys : List Nat) (w : World) (h1 : Sl w a1 n1 c1 xs) (h2 : Sl w a2 n2 c2 ys) (f1 : Fine xs) (f2 : Fine ys) (hn : n1 ≤ 67108864) (hm : n2 ≤ 67108864) (hT : Tab w) (hl : val ys ≤ val xs) (h0 : val ys = 0) :
 Calls Tryz.prog 133 #[.slice a1 n1 c1, .slice a2 n2 c2] w (Wd 40 (Nat.gcd (val xs) (val ys)) w) := by
 obtain rfl : n2 = 0 := (fine_zero f2 h2.len).1 h0
 have HG : Hid (limbs (Nat.gcd (val xs) (val ys)) = xs) := Lib.hid (by rw [h0, Nat.gcd_zero_right, limbs_val f1])
 by_cases hx : val xs = 0
 · obtain rfl : n1 = 0 := (fine_zero f1 h1.len).1 hx
   have hcn : cmpN (val xs) (val ys) = 0 ∨ cmpN (val xs) (val ys) = 1 := by
    unfold cmpN
    rw [if_neg (by omega)]
    split
    · exact .inr rfl
    · exact .inl rfl
   obtain ⟨cv, hcv⟩ : ∃ cv, cv = cmpN (val xs) (val ys) := ⟨_, rfl⟩
   rw [← hcv] at hcn
   have Hcv := Lib.hid hcv
   have g1 : ¬ cv < 0 := by omega
   have g2 : decide (cv < 0) = false := decide_eq_false g1
   clear hcv hcn
   go_enter Tryz.func133, Tryz.ntmps133
   go_wp2_with fail
   refine (bgCmp_any a1 a2 (0 : Nat) (0 : Nat) c1 c2 xs ys _ h1 h2 f1 f2).mono ?_
   rintro e w1 ⟨rfl, W1⟩
   rw [← Hcv.out]
   go_wp2_with fail
   go_loopw [0, 1] (fun av bv wr => av = .slice a1 (0 : Nat) c1 ∧ bv = .slice a2 (0 : Nat) c2 ∧ wr = w1) (fun _ _ _ => 0)
   case atStart => exact ⟨rfl, rfl, rfl⟩
   case round =>
    obtain ⟨rfl, rfl, rfl⟩ := hrel
    go_wp2_with fail
    refine (bgCopied_any a1 (0 : Nat) c1 xs _ (h1.below W1) (by omega)).mono ?_
    rintro e w3 ⟨g, rfl, ho, hb3⟩
    go_wp2
    go_ret
    have hF := fr_own ho (h1.below W1).ok (Nat.le_refl _) (Nat.le_refl _) (Nat.le_refl _)
    rw [List.take_of_length_le (by rw [(h1.below W1).len]; exact Nat.le_refl _)] at hF
    exact ⟨_, _, _, rfl, by rw [HG.out]; exact hF.mono W1.size, next W1 hb3⟩
 · have hn1 : 0 < n1 := Nat.pos_of_ne_zero fun hh => hx ((fine_zero f1 h1.len).2 hh)
   obtain ⟨b1, b2⟩ := tz_size f1 h1.len hn hx
   obtain ⟨T, hTe⟩ : ∃ T, T = tz (val xs) := ⟨_, rfl⟩
   obtain ⟨S, hSe⟩ : ∃ S, S = szN xs := ⟨_, rfl⟩
   rw [← hTe, ← hSe] at b1
   rw [← hSe] at b2
   have HTe := Lib.hid hTe
   have HSe := Lib.hid hSe
   clear hTe hSe
   have j1 : (n1 : Int) > 0 := by omega
   have z1 : wrap64 ((T : Int) + 1) = (T : Int) + 1 := IntWalk.wrap64_in _ (by omega)
   have hcn : cmpN (val xs) (val ys) = 0 ∨ cmpN (val xs) (val ys) = 1 := by
    unfold cmpN
    rw [if_neg (by omega)]
    split
    · exact .inr rfl
    · exact .inl rfl
   obtain ⟨cv, hcv⟩ : ∃ cv, cv = cmpN (val xs) (val ys) := ⟨_, rfl⟩
   rw [← hcv] at hcn
   have Hcv := Lib.hid hcv
   have g1 : ¬ cv < 0 := by omega
   have g2 : decide (cv < 0) = false := decide_eq_false g1
   clear hcv hcn
   go_enter Tryz.func133, Tryz.ntmps133
   go_wp2_with fail
   refine (bgCmp_any a1 a2 n1 (0 : Nat) c1 c2 xs ys _ h1 h2 f1 f2).mono ?_
   rintro e w1 ⟨rfl, W1⟩
   rw [← Hcv.out]
   have hA := h1.below W1
   have hT1 := hT.below W1
   go_wp2_with fail
   refine (bgZeros_any a1 n1 c1 xs _ hA hx (by omega) hT1).mono ?_
   rintro e w2 ⟨rfl, rfl⟩
   rw [← HTe.out]
   go_wp2_with fail
   refine (bgBitLen_any a1 n1 c1 xs _ hA (by omega)).mono ?_
   rintro e w2 ⟨rfl, rfl⟩
   rw [← HSe.out]
   by_cases q2 : (T : Int) + 1 = (S : Int)
   · have q1 : decide ((T : Int) + 1 = (S : Int)) = true := decide_eq_true q2
     go_wp2_with fail
     go_loopw [0, 1] (fun av bv wr => av = .slice a1 n1 c1 ∧ bv = .slice a2 (0 : Nat) c2 ∧ wr = w1) (fun _ _ _ => 0)
     case atStart => exact ⟨rfl, rfl, rfl⟩
     case round =>
      obtain ⟨rfl, rfl, rfl⟩ := hrel
      go_wp2_with fail
      refine (bgCopied_any a1 n1 c1 xs _ (h1.below W1) (by omega)).mono ?_
      rintro e w3 ⟨g, rfl, ho, hb3⟩
      go_wp2
      go_ret
      have hF := fr_own ho (h1.below W1).ok (Nat.le_refl _) (Nat.le_refl _) (Nat.le_refl _)
      rw [List.take_of_length_le (by rw [(h1.below W1).len]; exact Nat.le_refl _)] at hF
      exact ⟨_, _, _, rfl, by rw [HG.out]; exact hF.mono W1.size, next W1 hb3⟩
   · have q1 : decide ((T : Int) + 1 = (S : Int)) = false := decide_eq_false q2
     go_wp2_with fail
     go_loopw [0, 1] (fun av bv wr => av = .slice a1 n1 c1 ∧ bv = .slice a2 (0 : Nat) c2 ∧ wr = w1) (fun _ _ _ => 0)
     case atStart => exact ⟨rfl, rfl, rfl⟩
     case round =>
      obtain ⟨rfl, rfl, rfl⟩ := hrel
      go_wp2_with fail
      refine (bgCopied_any a1 n1 c1 xs _ (h1.below W1) (by omega)).mono ?_
      rintro e w3 ⟨g, rfl, ho, hb3⟩
      go_wp2
      go_ret
      have hF := fr_own ho (h1.below W1).ok (Nat.le_refl _) (Nat.le_refl _) (Nat.le_refl _)
      rw [List.take_of_length_le (by rw [(h1.below W1).len]; exact Nat.le_refl _)] at hF
      exact ⟨_, _, _, rfl, by rw [HG.out]; exact hF.mono W1.size, next W1 hb3⟩
theorem bgCommon_twoG (a1 a2 : Option Addr) (n1 n2 c1 c2 : Nat) (xs ys : List Nat) (w : World) (h1 : Sl w a1 n1 c1 xs) (h2 : Sl w a2 n2 c2 ys) (f1 : Fine xs) (f2 : Fine ys) (hn : n1 ≤ 67108864) (hm : n2 ≤ 67108864) (hT : Tab w) (hl : val ys ≤ val xs) (h0 : val ys ≠ 0) (hq2 : tz (val ys) + 1 = szN ys) :
 Calls Tryz.prog 133 #[.slice a1 n1 c1, .slice a2 n2 c2] w (Wd 40 (Nat.gcd (val xs) (val ys)) w) := by
 have hx : val xs ≠ 0 := fun hh => h0 (Nat.eq_zero_of_le_zero (hh ▸ hl))
 have HG := Lib.hid (gcd_two (A := val xs) (B := val ys) hx h0 (.inr (two_of_sz f2 h0 hq2)))
 have hn2 : 0 < n2 := Nat.pos_of_ne_zero fun hh => h0 ((fine_zero f2 h2.len).2 hh)
 have hn1 : 0 < n1 := Nat.pos_of_ne_zero fun hh => hx ((fine_zero f1 h1.len).2 hh)
 obtain ⟨b1, b2⟩ := tz_size f1 h1.len hn hx
 obtain ⟨b3, b4⟩ := tz_size f2 h2.len hm h0
 obtain ⟨T1, hT1e⟩ : ∃ T, T = tz (val xs) := ⟨_, rfl⟩
 obtain ⟨S1, hS1e⟩ : ∃ S, S = szN xs := ⟨_, rfl⟩
 obtain ⟨T2, hT2e⟩ : ∃ T, T = tz (val ys) := ⟨_, rfl⟩
 obtain ⟨S2, hS2e⟩ : ∃ S, S = szN ys := ⟨_, rfl⟩
 rw [← hT1e, ← hS1e] at b1
 rw [← hS1e] at b2
 rw [← hT2e, ← hS2e] at b3
 rw [← hS2e] at b4
 rw [← hT2e, ← hS2e] at hq2
 have HT1 := Lib.hid hT1e
 have HS1 := Lib.hid hS1e
 have HT2 := Lib.hid hT2e
 have HS2 := Lib.hid hS2e
 clear hT1e hS1e hT2e hS2e
 have j1 : (n1 : Int) > 0 := by omega
 have j2 : (n2 : Int) > 0 := by omega
 have z1 : wrap64 ((T1 : Int) + 1) = (T1 : Int) + 1 := IntWalk.wrap64_in _ (by omega)
 have z2 : wrap64 ((T2 : Int) + 1) = (T2 : Int) + 1 := IntWalk.wrap64_in _ (by omega)
 have q2 : (T2 : Int) + 1 = (S2 : Int) := by omega
 have q2d : decide ((T2 : Int) + 1 = (S2 : Int)) = true := decide_eq_true q2
 have hcn : cmpN (val xs) (val ys) = 0 ∨ cmpN (val xs) (val ys) = 1 := by
  unfold cmpN
  rw [if_neg (by omega)]
  split
  · exact .inr rfl
  · exact .inl rfl
 obtain ⟨cv, hcv⟩ : ∃ cv, cv = cmpN (val xs) (val ys) := ⟨_, rfl⟩
 rw [← hcv] at hcn
 have Hcv := Lib.hid hcv
 have g1 : ¬ cv < 0 := by omega
 have g2 : decide (cv < 0) = false := decide_eq_false g1
 clear hcv hcn
 go_enter Tryz.func133, Tryz.ntmps133
 go_wp2_with fail
 refine (bgCmp_any a1 a2 n1 n2 c1 c2 xs ys _ h1 h2 f1 f2).mono ?_
 rintro e w1 ⟨rfl, W1⟩
 rw [← Hcv.out]
 have hA := h1.below W1
 have hB := h2.below W1
 have hT1 := hT.below W1
 go_wp2_with fail
 with_reducible refine (bgZeros_any a2 n2 c2 ys _ hB h0 (by omega) hT1).mono ?_
 rintro e w2 ⟨rfl, rfl⟩
 rw [← HT2.out]
 go_wp2_with fail
 with_reducible refine (bgBitLen_any a2 n2 c2 ys _ hB (by omega)).mono ?_
 rintro e w2 ⟨rfl, rfl⟩
 rw [← HS2.out]
 go_wp2_with fail
 have ho := bgOwn_one w1 1
 have hs := own_sl ho (ok_cons (by decide) ok_nil)
 have W2 := more W1 (.cells #[.int .u32 1] 40)
 have hT2 := hT1.alloc (.cells #[.int .u32 1] 40)
 with_reducible refine (bgZeros_any a1 n1 c1 xs _ (hA.alloc _) hx (by omega) hT2).mono ?_
 rintro e w2 ⟨rfl, rfl⟩
 rw [← HT1.out]
 go_wp2_with fail
 with_reducible refine (bgZeros_any a2 n2 c2 ys _ (hB.alloc _) h0 (by omega) hT2).mono ?_
 rintro e w2 ⟨rfl, rfl⟩
 rw [← HT2.out]
 go_wp2_with fail
 refine (bgUp_any _ 1 1 (min T1 T2) _ (by first | omega | (split <;> omega)) [1] _ hs (by decide) (by omega)).mono ?_
 rintro e w3 ⟨ao, k, c, rfl, hF, hb3⟩
 go_wp2
 go_ret
 have hv : val [1] * 2 ^ min T1 T2 = Nat.gcd (val xs) (val ys) := by
  rw [HG.out, HT1.out, HT2.out]
  simp [val]
 rw [hv] at hF
 exact ⟨_, _, _, rfl, hF.mono W2.size, next W2 hb3⟩
theorem bgCommon_oneG (a1 a2 : Option Addr) (n1 n2 c1 c2 : Nat) (xs ys : List Nat) (w : World) (h1 : Sl w a1 n1 c1 xs) (h2 : Sl w a2 n2 c2 ys) (f1 : Fine xs) (f2 : Fine ys) (hn : n1 ≤ 67108864) (hm : n2 ≤ 67108864) (hT : Tab w) (hl : val ys ≤ val xs) (h0 : val ys ≠ 0) (hq2 : ¬ tz (val ys) + 1 = szN ys) (hq1 : tz (val xs) + 1 = szN xs) :
 Calls Tryz.prog 133 #[.slice a1 n1 c1, .slice a2 n2 c2] w (Wd 40 (Nat.gcd (val xs) (val ys)) w) := by
 have hx : val xs ≠ 0 := fun hh => h0 (Nat.eq_zero_of_le_zero (hh ▸ hl))
 have HG := Lib.hid (gcd_two (A := val xs) (B := val ys) hx h0 (.inl (two_of_sz f1 hx hq1)))
 have hn2 : 0 < n2 := Nat.pos_of_ne_zero fun hh => h0 ((fine_zero f2 h2.len).2 hh)
 have hn1 : 0 < n1 := Nat.pos_of_ne_zero fun hh => hx ((fine_zero f1 h1.len).2 hh)
 obtain ⟨b1, b2⟩ := tz_size f1 h1.len hn hx
 obtain ⟨b3, b4⟩ := tz_size f2 h2.len hm h0
 obtain ⟨T1, hT1e⟩ : ∃ T, T = tz (val xs) := ⟨_, rfl⟩
 obtain ⟨S1, hS1e⟩ : ∃ S, S = szN xs := ⟨_, rfl⟩
 obtain ⟨T2, hT2e⟩ : ∃ T, T = tz (val ys) := ⟨_, rfl⟩
 obtain ⟨S2, hS2e⟩ : ∃ S, S = szN ys := ⟨_, rfl⟩
 rw [← hT1e, ← hS1e] at b1
 rw [← hS1e] at b2
 rw [← hT2e, ← hS2e] at b3
 rw [← hS2e] at b4
 rw [← hT2e, ← hS2e] at hq2
 rw [← hT1e, ← hS1e] at hq1
 have HT1 := Lib.hid hT1e
 have HS1 := Lib.hid hS1e
 have HT2 := Lib.hid hT2e
 have HS2 := Lib.hid hS2e
 clear hT1e hS1e hT2e hS2e
 have j1 : (n1 : Int) > 0 := by omega
 have j2 : (n2 : Int) > 0 := by omega
 have z1 : wrap64 ((T1 : Int) + 1) = (T1 : Int) + 1 := IntWalk.wrap64_in _ (by omega)
 have z2 : wrap64 ((T2 : Int) + 1) = (T2 : Int) + 1 := IntWalk.wrap64_in _ (by omega)
 have q2 : ¬ (T2 : Int) + 1 = (S2 : Int) := by omega
 have q2d : decide ((T2 : Int) + 1 = (S2 : Int)) = false := decide_eq_false q2
 have q1 : (T1 : Int) + 1 = (S1 : Int) := by omega
 have q1d : decide ((T1 : Int) + 1 = (S1 : Int)) = true := decide_eq_true q1
 have hcn : cmpN (val xs) (val ys) = 0 ∨ cmpN (val xs) (val ys) = 1 := by
  unfold cmpN
  rw [if_neg (by omega)]
  split
  · exact .inr rfl
  · exact .inl rfl
 obtain ⟨cv, hcv⟩ : ∃ cv, cv = cmpN (val xs) (val ys) := ⟨_, rfl⟩
 rw [← hcv] at hcn
 have Hcv := Lib.hid hcv
 have g1 : ¬ cv < 0 := by omega
 have g2 : decide (cv < 0) = false := decide_eq_false g1
 clear hcv hcn
 go_enter Tryz.func133, Tryz.ntmps133
 go_wp2_with fail
 refine (bgCmp_any a1 a2 n1 n2 c1 c2 xs ys _ h1 h2 f1 f2).mono ?_
 rintro e w1 ⟨rfl, W1⟩
 rw [← Hcv.out]
 have hA := h1.below W1
 have hB := h2.below W1
 have hT1 := hT.below W1
 go_wp2_with fail
 with_reducible refine (bgZeros_any a2 n2 c2 ys _ hB h0 (by omega) hT1).mono ?_
 rintro e w2 ⟨rfl, rfl⟩
 rw [← HT2.out]
 go_wp2_with fail
 with_reducible refine (bgBitLen_any a2 n2 c2 ys _ hB (by omega)).mono ?_
 rintro e w2 ⟨rfl, rfl⟩
 rw [← HS2.out]
 go_wp2_with fail
 with_reducible refine (bgZeros_any a1 n1 c1 xs _ hA hx (by omega) hT1).mono ?_
 rintro e w2 ⟨rfl, rfl⟩
 rw [← HT1.out]
 go_wp2_with fail
 with_reducible refine (bgBitLen_any a1 n1 c1 xs _ hA (by omega)).mono ?_
 rintro e w2 ⟨rfl, rfl⟩
 rw [← HS1.out]
 go_wp2_with fail
 have ho := bgOwn_one w1 1
 have hs := own_sl ho (ok_cons (by decide) ok_nil)
 have W2 := more W1 (.cells #[.int .u32 1] 40)
 have hT2 := hT1.alloc (.cells #[.int .u32 1] 40)
 with_reducible refine (bgZeros_any a1 n1 c1 xs _ (hA.alloc _) hx (by omega) hT2).mono ?_
 rintro e w2 ⟨rfl, rfl⟩
 rw [← HT1.out]
 go_wp2_with fail
 with_reducible refine (bgZeros_any a2 n2 c2 ys _ (hB.alloc _) h0 (by omega) hT2).mono ?_
 rintro e w2 ⟨rfl, rfl⟩
 rw [← HT2.out]
 go_wp2_with fail
 refine (bgUp_any _ 1 1 (min T1 T2) _ (by first | omega | (split <;> omega)) [1] _ hs (by decide) (by omega)).mono ?_
 rintro e w3 ⟨ao, k, c, rfl, hF, hb3⟩
 go_wp2
 go_ret
 have hv : val [1] * 2 ^ min T1 T2 = Nat.gcd (val xs) (val ys) := by
  rw [HG.out, HT1.out, HT2.out]
  simp [val]
 rw [hv] at hF
 exact ⟨_, _, _, rfl, hF.mono W2.size, next W2 hb3⟩
theorem bgCommon_zeroL (a1 a2 : Option Addr) (n1 n2 c1 c2 : Nat) (xs ys : List Nat) (w : World) (h1 : Sl w a1 n1 c1 xs) (h2 : Sl w a2 n2 c2 ys) (f1 : Fine xs) (f2 : Fine ys) (hn : n1 ≤ 67108864) (hm : n2 ≤ 67108864) (hT : Tab w) (hl : val ys < val xs) (h0 : val ys = 0) :
 Calls Tryz.prog 133 #[.slice a2 n2 c2, .slice a1 n1 c1] w (Wd 40 (Nat.gcd (val xs) (val ys)) w) := by
 obtain rfl : n2 = 0 := (fine_zero f2 h2.len).1 h0
 have HG : Hid (limbs (Nat.gcd (val xs) (val ys)) = xs) := Lib.hid (by rw [h0, Nat.gcd_zero_right, limbs_val f1])
 by_cases hx : val xs = 0
 · obtain rfl : n1 = 0 := (fine_zero f1 h1.len).1 hx
   have hcv := Lib.hid (cmpN_lt hl)
   have g2 : decide ((-1 : Int) < 0) = true := by decide
   have hl := Nat.le_of_lt hl
   go_enter Tryz.func133, Tryz.ntmps133
   go_wp2_with fail
   refine (bgCmp_any a2 a1 (0 : Nat) (0 : Nat) c2 c1 ys xs _ h2 h1 f2 f1).mono ?_
   rintro e w1 ⟨rfl, W1⟩
   rw [hcv.out]
   go_wp2_with fail
   go_loopw [0, 1] (fun av bv wr => av = .slice a1 (0 : Nat) c1 ∧ bv = .slice a2 (0 : Nat) c2 ∧ wr = w1) (fun _ _ _ => 0)
   case atStart => exact ⟨rfl, rfl, rfl⟩
   case round =>
    obtain ⟨rfl, rfl, rfl⟩ := hrel
    go_wp2_with fail
    refine (bgCopied_any a1 (0 : Nat) c1 xs _ (h1.below W1) (by omega)).mono ?_
    rintro e w3 ⟨g, rfl, ho, hb3⟩
    go_wp2
    go_ret
    have hF := fr_own ho (h1.below W1).ok (Nat.le_refl _) (Nat.le_refl _) (Nat.le_refl _)
    rw [List.take_of_length_le (by rw [(h1.below W1).len]; exact Nat.le_refl _)] at hF
    exact ⟨_, _, _, rfl, by rw [HG.out]; exact hF.mono W1.size, next W1 hb3⟩
 · have hn1 : 0 < n1 := Nat.pos_of_ne_zero fun hh => hx ((fine_zero f1 h1.len).2 hh)
   obtain ⟨b1, b2⟩ := tz_size f1 h1.len hn hx
   obtain ⟨T, hTe⟩ : ∃ T, T = tz (val xs) := ⟨_, rfl⟩
   obtain ⟨S, hSe⟩ : ∃ S, S = szN xs := ⟨_, rfl⟩
   rw [← hTe, ← hSe] at b1
   rw [← hSe] at b2
   have HTe := Lib.hid hTe
   have HSe := Lib.hid hSe
   clear hTe hSe
   have j1 : (n1 : Int) > 0 := by omega
   have z1 : wrap64 ((T : Int) + 1) = (T : Int) + 1 := IntWalk.wrap64_in _ (by omega)
   have hcv := Lib.hid (cmpN_lt hl)
   have g2 : decide ((-1 : Int) < 0) = true := by decide
   have hl := Nat.le_of_lt hl
   go_enter Tryz.func133, Tryz.ntmps133
   go_wp2_with fail
   refine (bgCmp_any a2 a1 (0 : Nat) n1 c2 c1 ys xs _ h2 h1 f2 f1).mono ?_
   rintro e w1 ⟨rfl, W1⟩
   rw [hcv.out]
   have hA := h1.below W1
   have hT1 := hT.below W1
   go_wp2_with fail
   refine (bgZeros_any a1 n1 c1 xs _ hA hx (by omega) hT1).mono ?_
   rintro e w2 ⟨rfl, rfl⟩
   rw [← HTe.out]
   go_wp2_with fail
   refine (bgBitLen_any a1 n1 c1 xs _ hA (by omega)).mono ?_
   rintro e w2 ⟨rfl, rfl⟩
   rw [← HSe.out]
   by_cases q2 : (T : Int) + 1 = (S : Int)
   · have q1 : decide ((T : Int) + 1 = (S : Int)) = true := decide_eq_true q2
     go_wp2_with fail
     go_loopw [0, 1] (fun av bv wr => av = .slice a1 n1 c1 ∧ bv = .slice a2 (0 : Nat) c2 ∧ wr = w1) (fun _ _ _ => 0)
     case atStart => exact ⟨rfl, rfl, rfl⟩
     case round =>
      obtain ⟨rfl, rfl, rfl⟩ := hrel
      go_wp2_with fail
      refine (bgCopied_any a1 n1 c1 xs _ (h1.below W1) (by omega)).mono ?_
      rintro e w3 ⟨g, rfl, ho, hb3⟩
      go_wp2
      go_ret
      have hF := fr_own ho (h1.below W1).ok (Nat.le_refl _) (Nat.le_refl _) (Nat.le_refl _)
      rw [List.take_of_length_le (by rw [(h1.below W1).len]; exact Nat.le_refl _)] at hF
      exact ⟨_, _, _, rfl, by rw [HG.out]; exact hF.mono W1.size, next W1 hb3⟩
   · have q1 : decide ((T : Int) + 1 = (S : Int)) = false := decide_eq_false q2
     go_wp2_with fail
     go_loopw [0, 1] (fun av bv wr => av = .slice a1 n1 c1 ∧ bv = .slice a2 (0 : Nat) c2 ∧ wr = w1) (fun _ _ _ => 0)
     case atStart => exact ⟨rfl, rfl, rfl⟩
     case round =>
      obtain ⟨rfl, rfl, rfl⟩ := hrel
      go_wp2_with fail
      refine (bgCopied_any a1 n1 c1 xs _ (h1.below W1) (by omega)).mono ?_
      rintro e w3 ⟨g, rfl, ho, hb3⟩
      go_wp2
      go_ret
      have hF := fr_own ho (h1.below W1).ok (Nat.le_refl _) (Nat.le_refl _) (Nat.le_refl _)
      rw [List.take_of_length_le (by rw [(h1.below W1).len]; exact Nat.le_refl _)] at hF
      exact ⟨_, _, _, rfl, by rw [HG.out]; exact hF.mono W1.size, next W1 hb3⟩
theorem bgCommon_twoL (a1 a2 : Option Addr) (n1 n2 c1 c2 : Nat) (xs ys : List Nat) (w : World) (h1 : Sl w a1 n1 c1 xs) (h2 : Sl w a2 n2 c2 ys) (f1 : Fine xs) (f2 : Fine ys) (hn : n1 ≤ 67108864) (hm : n2 ≤ 67108864) (hT : Tab w) (hl : val ys < val xs) (h0 : val ys ≠ 0) (hq2 : tz (val ys) + 1 = szN ys) :
 Calls Tryz.prog 133 #[.slice a2 n2 c2, .slice a1 n1 c1] w (Wd 40 (Nat.gcd (val xs) (val ys)) w) := by
 have hx : val xs ≠ 0 := fun hh => h0 (Nat.eq_zero_of_le_zero (hh ▸ (Nat.le_of_lt hl)))
 have HG := Lib.hid (gcd_two (A := val xs) (B := val ys) hx h0 (.inr (two_of_sz f2 h0 hq2)))
 have hn2 : 0 < n2 := Nat.pos_of_ne_zero fun hh => h0 ((fine_zero f2 h2.len).2 hh)
 have hn1 : 0 < n1 := Nat.pos_of_ne_zero fun hh => hx ((fine_zero f1 h1.len).2 hh)
 obtain ⟨b1, b2⟩ := tz_size f1 h1.len hn hx
 obtain ⟨b3, b4⟩ := tz_size f2 h2.len hm h0
 obtain ⟨T1, hT1e⟩ : ∃ T, T = tz (val xs) := ⟨_, rfl⟩
 obtain ⟨S1, hS1e⟩ : ∃ S, S = szN xs := ⟨_, rfl⟩
 obtain ⟨T2, hT2e⟩ : ∃ T, T = tz (val ys) := ⟨_, rfl⟩
 obtain ⟨S2, hS2e⟩ : ∃ S, S = szN ys := ⟨_, rfl⟩
 rw [← hT1e, ← hS1e] at b1
 rw [← hS1e] at b2
 rw [← hT2e, ← hS2e] at b3
 rw [← hS2e] at b4
 rw [← hT2e, ← hS2e] at hq2
 have HT1 := Lib.hid hT1e
 have HS1 := Lib.hid hS1e
 have HT2 := Lib.hid hT2e
 have HS2 := Lib.hid hS2e
 clear hT1e hS1e hT2e hS2e
 have j1 : (n1 : Int) > 0 := by omega
 have j2 : (n2 : Int) > 0 := by omega
 have z1 : wrap64 ((T1 : Int) + 1) = (T1 : Int) + 1 := IntWalk.wrap64_in _ (by omega)
 have z2 : wrap64 ((T2 : Int) + 1) = (T2 : Int) + 1 := IntWalk.wrap64_in _ (by omega)
 have q2 : (T2 : Int) + 1 = (S2 : Int) := by omega
 have q2d : decide ((T2 : Int) + 1 = (S2 : Int)) = true := decide_eq_true q2
 have hcv := Lib.hid (cmpN_lt hl)
 have g2 : decide ((-1 : Int) < 0) = true := by decide
 have hl := Nat.le_of_lt hl
 go_enter Tryz.func133, Tryz.ntmps133
 go_wp2_with fail
 refine (bgCmp_any a2 a1 n2 n1 c2 c1 ys xs _ h2 h1 f2 f1).mono ?_
 rintro e w1 ⟨rfl, W1⟩
 rw [hcv.out]
 have hA := h1.below W1
 have hB := h2.below W1
 have hT1 := hT.below W1
 go_wp2_with fail
 with_reducible refine (bgZeros_any a2 n2 c2 ys _ hB h0 (by omega) hT1).mono ?_
 rintro e w2 ⟨rfl, rfl⟩
 rw [← HT2.out]
 go_wp2_with fail
 with_reducible refine (bgBitLen_any a2 n2 c2 ys _ hB (by omega)).mono ?_
 rintro e w2 ⟨rfl, rfl⟩
 rw [← HS2.out]
 go_wp2_with fail
 have ho := bgOwn_one w1 1
 have hs := own_sl ho (ok_cons (by decide) ok_nil)
 have W2 := more W1 (.cells #[.int .u32 1] 40)
 have hT2 := hT1.alloc (.cells #[.int .u32 1] 40)
 with_reducible refine (bgZeros_any a1 n1 c1 xs _ (hA.alloc _) hx (by omega) hT2).mono ?_
 rintro e w2 ⟨rfl, rfl⟩
 rw [← HT1.out]
 go_wp2_with fail
 with_reducible refine (bgZeros_any a2 n2 c2 ys _ (hB.alloc _) h0 (by omega) hT2).mono ?_
 rintro e w2 ⟨rfl, rfl⟩
 rw [← HT2.out]
 go_wp2_with fail
 refine (bgUp_any _ 1 1 (min T1 T2) _ (by first | omega | (split <;> omega)) [1] _ hs (by decide) (by omega)).mono ?_
 rintro e w3 ⟨ao, k, c, rfl, hF, hb3⟩
 go_wp2
 go_ret
 have hv : val [1] * 2 ^ min T1 T2 = Nat.gcd (val xs) (val ys) := by
  rw [HG.out, HT1.out, HT2.out]
  simp [val]
 rw [hv] at hF
 exact ⟨_, _, _, rfl, hF.mono W2.size, next W2 hb3⟩
theorem bgCommon_oneL (a1 a2 : Option Addr) (n1 n2 c1 c2 : Nat) (xs ys : List Nat) (w : World) (h1 : Sl w a1 n1 c1 xs) (h2 : Sl w a2 n2 c2 ys) (f1 : Fine xs) (f2 : Fine ys) (hn : n1 ≤ 67108864) (hm : n2 ≤ 67108864) (hT : Tab w) (hl : val ys < val xs) (h0 : val ys ≠ 0) (hq2 : ¬ tz (val ys) + 1 = szN ys) (hq1 : tz (val xs) + 1 = szN xs) :
 Calls Tryz.prog 133 #[.slice a2 n2 c2, .slice a1 n1 c1] w (Wd 40 (Nat.gcd (val xs) (val ys)) w) := by
 have hx : val xs ≠ 0 := fun hh => h0 (Nat.eq_zero_of_le_zero (hh ▸ (Nat.le_of_lt hl)))
 have HG := Lib.hid (gcd_two (A := val xs) (B := val ys) hx h0 (.inl (two_of_sz f1 hx hq1)))
 have hn2 : 0 < n2 := Nat.pos_of_ne_zero fun hh => h0 ((fine_zero f2 h2.len).2 hh)
 have hn1 : 0 < n1 := Nat.pos_of_ne_zero fun hh => hx ((fine_zero f1 h1.len).2 hh)
 obtain ⟨b1, b2⟩ := tz_size f1 h1.len hn hx
 obtain ⟨b3, b4⟩ := tz_size f2 h2.len hm h0
 obtain ⟨T1, hT1e⟩ : ∃ T, T = tz (val xs) := ⟨_, rfl⟩
 obtain ⟨S1, hS1e⟩ : ∃ S, S = szN xs := ⟨_, rfl⟩
 obtain ⟨T2, hT2e⟩ : ∃ T, T = tz (val ys) := ⟨_, rfl⟩
 obtain ⟨S2, hS2e⟩ : ∃ S, S = szN ys := ⟨_, rfl⟩
 rw [← hT1e, ← hS1e] at b1
 rw [← hS1e] at b2
 rw [← hT2e, ← hS2e] at b3
 rw [← hS2e] at b4
 rw [← hT2e, ← hS2e] at hq2
 rw [← hT1e, ← hS1e] at hq1
 have HT1 := Lib.hid hT1e
 have HS1 := Lib.hid hS1e
 have HT2 := Lib.hid hT2e
 have HS2 := Lib.hid hS2e
 clear hT1e hS1e hT2e hS2e
 have j1 : (n1 : Int) > 0 := by omega
 have j2 : (n2 : Int) > 0 := by omega
 have z1 : wrap64 ((T1 : Int) + 1) = (T1 : Int) + 1 := IntWalk.wrap64_in _ (by omega)
 have z2 : wrap64 ((T2 : Int) + 1) = (T2 : Int) + 1 := IntWalk.wrap64_in _ (by omega)
 have q2 : ¬ (T2 : Int) + 1 = (S2 : Int) := by omega
 have q2d : decide ((T2 : Int) + 1 = (S2 : Int)) = false := decide_eq_false q2
 have q1 : (T1 : Int) + 1 = (S1 : Int) := by omega
 have q1d : decide ((T1 : Int) + 1 = (S1 : Int)) = true := decide_eq_true q1
 have hcv := Lib.hid (cmpN_lt hl)
 have g2 : decide ((-1 : Int) < 0) = true := by decide
 have hl := Nat.le_of_lt hl
 go_enter Tryz.func133, Tryz.ntmps133
 go_wp2_with fail
 refine (bgCmp_any a2 a1 n2 n1 c2 c1 ys xs _ h2 h1 f2 f1).mono ?_
 rintro e w1 ⟨rfl, W1⟩
 rw [hcv.out]
 have hA := h1.below W1
 have hB := h2.below W1
 have hT1 := hT.below W1
 go_wp2_with fail
 with_reducible refine (bgZeros_any a2 n2 c2 ys _ hB h0 (by omega) hT1).mono ?_
 rintro e w2 ⟨rfl, rfl⟩
 rw [← HT2.out]
 go_wp2_with fail
 with_reducible refine (bgBitLen_any a2 n2 c2 ys _ hB (by omega)).mono ?_
 rintro e w2 ⟨rfl, rfl⟩
 rw [← HS2.out]
 go_wp2_with fail
 with_reducible refine (bgZeros_any a1 n1 c1 xs _ hA hx (by omega) hT1).mono ?_
 rintro e w2 ⟨rfl, rfl⟩
 rw [← HT1.out]
 go_wp2_with fail
 with_reducible refine (bgBitLen_any a1 n1 c1 xs _ hA (by omega)).mono ?_
 rintro e w2 ⟨rfl, rfl⟩
 rw [← HS1.out]
 go_wp2_with fail
 have ho := bgOwn_one w1 1
 have hs := own_sl ho (ok_cons (by decide) ok_nil)
 have W2 := more W1 (.cells #[.int .u32 1] 40)
 have hT2 := hT1.alloc (.cells #[.int .u32 1] 40)
 with_reducible refine (bgZeros_any a1 n1 c1 xs _ (hA.alloc _) hx (by omega) hT2).mono ?_
 rintro e w2 ⟨rfl, rfl⟩
 rw [← HT1.out]
 go_wp2_with fail
 with_reducible refine (bgZeros_any a2 n2 c2 ys _ (hB.alloc _) h0 (by omega) hT2).mono ?_
 rintro e w2 ⟨rfl, rfl⟩
 rw [← HT2.out]
 go_wp2_with fail
 refine (bgUp_any _ 1 1 (min T1 T2) _ (by first | omega | (split <;> omega)) [1] _ hs (by decide) (by omega)).mono ?_
 rintro e w3 ⟨ao, k, c, rfl, hF, hb3⟩
 go_wp2
 go_ret
 have hv : val [1] * 2 ^ min T1 T2 = Nat.gcd (val xs) (val ys) := by
  rw [HG.out, HT1.out, HT2.out]
  simp [val]
 rw [hv] at hF
 exact ⟨_, _, _, rfl, hF.mono W2.size, next W2 hb3⟩
theorem bgCommon_longG (a1 a2 : Option Addr) (n1 n2 c1 c2 : Nat) (xs ys : List Nat) (w : World) (h1 : Sl w a1 n1 c1 xs) (h2 : Sl w a2 n2 c2 ys) (f1 : Fine xs) (f2 : Fine ys) (hn : n1 ≤ 67108864) (hm : n2 ≤ 67108864) (hT : Tab w) (hl : val ys ≤ val xs) (h0 : val ys ≠ 0) (hq2 : ¬ tz (val ys) + 1 = szN ys) (hq1 : ¬ tz (val xs) + 1 = szN xs) :
 Calls Tryz.prog 133 #[.slice a1 n1 c1, .slice a2 n2 c2] w (Wd 40 (Nat.gcd (val xs) (val ys)) w) := by
 have hx : val xs ≠ 0 := fun hh => h0 (Nat.eq_zero_of_le_zero (hh ▸ hl))
 have hn2 : 0 < n2 := Nat.pos_of_ne_zero fun hh => h0 ((fine_zero f2 h2.len).2 hh)
 have hn1 : 0 < n1 := Nat.pos_of_ne_zero fun hh => hx ((fine_zero f1 h1.len).2 hh)
 obtain ⟨b1, b2⟩ := tz_size f1 h1.len hn hx
 obtain ⟨b3, b4⟩ := tz_size f2 h2.len hm h0
 obtain ⟨T1, hT1e⟩ : ∃ T, T = tz (val xs) := ⟨_, rfl⟩
 obtain ⟨S1, hS1e⟩ : ∃ S, S = szN xs := ⟨_, rfl⟩
 obtain ⟨T2, hT2e⟩ : ∃ T, T = tz (val ys) := ⟨_, rfl⟩
 obtain ⟨S2, hS2e⟩ : ∃ S, S = szN ys := ⟨_, rfl⟩
 rw [← hT1e, ← hS1e] at b1
 rw [← hS1e] at b2
 rw [← hT2e, ← hS2e] at b3
 rw [← hS2e] at b4
 rw [← hT2e, ← hS2e] at hq2
 rw [← hT1e, ← hS1e] at hq1
 have HT1 := Lib.hid hT1e
 have HS1 := Lib.hid hS1e
 have HT2 := Lib.hid hT2e
 have HS2 := Lib.hid hS2e
 clear hT1e hS1e hT2e hS2e
 have j1 : (n1 : Int) > 0 := by omega
 have j2 : (n2 : Int) > 0 := by omega
 have z1 : wrap64 ((T1 : Int) + 1) = (T1 : Int) + 1 := IntWalk.wrap64_in _ (by omega)
 have z2 : wrap64 ((T2 : Int) + 1) = (T2 : Int) + 1 := IntWalk.wrap64_in _ (by omega)
 have q2 : ¬ (T2 : Int) + 1 = (S2 : Int) := by omega
 have q2d : decide ((T2 : Int) + 1 = (S2 : Int)) = false := decide_eq_false q2
 have q1 : ¬ (T1 : Int) + 1 = (S1 : Int) := by omega
 have q1d : decide ((T1 : Int) + 1 = (S1 : Int)) = false := decide_eq_false q1
 have hcn : cmpN (val xs) (val ys) = 0 ∨ cmpN (val xs) (val ys) = 1 := by
  unfold cmpN
  rw [if_neg (by omega)]
  split
  · exact .inr rfl
  · exact .inl rfl
 obtain ⟨cv, hcv⟩ : ∃ cv, cv = cmpN (val xs) (val ys) := ⟨_, rfl⟩
 rw [← hcv] at hcn
 have Hcv := Lib.hid hcv
 have g1 : ¬ cv < 0 := by omega
 have g2 : decide (cv < 0) = false := decide_eq_false g1
 clear hcv hcn
 go_enter Tryz.func133, Tryz.ntmps133
 go_wp2_with fail
 refine (bgCmp_any a1 a2 n1 n2 c1 c2 xs ys _ h1 h2 f1 f2).mono ?_
 rintro e w1 ⟨rfl, W1⟩
 rw [← Hcv.out]
 have hA := h1.below W1
 have hB := h2.below W1
 have hT1 := hT.below W1
 go_wp2_with fail
 with_reducible refine (bgZeros_any a2 n2 c2 ys _ hB h0 (by omega) hT1).mono ?_
 rintro e w2 ⟨rfl, rfl⟩
 rw [← HT2.out]
 go_wp2_with fail
 with_reducible refine (bgBitLen_any a2 n2 c2 ys _ hB (by omega)).mono ?_
 rintro e w2 ⟨rfl, rfl⟩
 rw [← HS2.out]
 go_wp2_with fail
 with_reducible refine (bgZeros_any a1 n1 c1 xs _ hA hx (by omega) hT1).mono ?_
 rintro e w2 ⟨rfl, rfl⟩
 rw [← HT1.out]
 go_wp2_with fail
 with_reducible refine (bgBitLen_any a1 n1 c1 xs _ hA (by omega)).mono ?_
 rintro e w2 ⟨rfl, rfl⟩
 rw [← HS1.out]
 go_wp2_with fail
 clear q1 q1d q2 q2d hT1 b1 b2 b3 b4 HT1 HT2 HS1 HS2 hq1 hq2 z1 z2 j1 j2
 go_loopw [0, 1] (fun av bv wr => ∃ (ao bo : Option Addr) (m1 k1 m2 k2 A B : Nat), av = .slice ao m1 k1 ∧ bv = .slice bo m2 k2 ∧ Sl wr ao m1 k1 (limbs A) ∧ Sl wr bo m2 k2 (limbs B) ∧ B ≤ A ∧ Hid (Nat.gcd A B = Nat.gcd (val xs) (val ys)) ∧ m1 ≤ 67108864 ∧ Below w.heap.size w wr) (fun _ bv wr => rdVal wr bv)
 case atStart => exact ⟨a1, a2, n1, c1, n2, c2, val xs, val ys, rfl, rfl, by rw [limbs_val f1]; exact h1.below W1, by rw [limbs_val f2]; exact h2.below W1, by omega, Lib.hid rfl, hn, W1⟩
 case round =>
  clear hA hB
  obtain ⟨ao, bo, m1, k1, m2, k2, A, B, rfl, rfl, hA, hB, hAB, HG, hm1, Wr⟩ := hrel
  by_cases h3 : 2 < m2
  · obtain ⟨n, p1, p2, p3, p4, p5, p6, p7, p8⟩ := com_top hA.len hB.len h3 hAB (by omega)
    have j3 : (m2 : Int) > 2 := by omega
    have z3 : wrap64 ((szN (limbs A) : Int) - 60) = (n : Int) := by rw [IntWalk.wrap64_in _ (by omega)]; omega
    have hN := Nat.two_pow_pos n
    have hdA : A = A / 2 ^ n * 2 ^ n + A % 2 ^ n := by rw [Nat.mul_comm]; exact (Nat.div_add_mod _ _).symm
    have hdB : B = B / 2 ^ n * 2 ^ n + B % 2 ^ n := by rw [Nat.mul_comm]; exact (Nat.div_add_mod _ _).symm
    have hsA := Nat.mod_lt A hN
    have hsB := Nat.mod_lt B hN
    have HsA := Lib.hid hsA
    have HsB := Lib.hid hsB
    have HZ := Lib.hid z3
    have P3 := Lib.hid p3
    have P4 := Lib.hid p4
    obtain ⟨X, hX⟩ : ∃ X, X = A / 2 ^ n := ⟨_, rfl⟩
    obtain ⟨Y, hY⟩ : ∃ Y, Y = B / 2 ^ n := ⟨_, rfl⟩
    rw [← hX] at p5 p6 p7 hdA
    rw [← hY] at p7 hdB
    have HdA := Lib.hid hdA
    have HdB := Lib.hid hdB
    have HX := Lib.hid hX
    have HY := Lib.hid hY
    have H0 := Lib.hid (eu_start (A := A) (B := B) p7 p6)
    have HRd := Lib.hid (rd_limbs hB)
    have hB0 : B ≠ 0 := by
     rintro rfl
     have := hB.len
     simp [limbs_zero] at this
     omega
    clear hdA hdB hsA hsB z3 p3 p4 hX hY p1 hN
    go_wp2_with fail
    with_reducible refine (bgBitLen_any ao m1 k1 (limbs A) _ hA (by omega)).mono ?_
    rintro e w2 ⟨rfl, rfl⟩
    have z3 := HZ.out
    go_wp2_with fail
    clear z3
    with_reducible refine (bgTopBits_any ao m1 k1 n _ rfl (limbs A) _ hA (by omega) p2).mono ?_
    rintro e w2 ⟨rfl, rfl⟩
    rw [val_limbs', P3.out, ← HX.out]
    go_wp2_with fail
    with_reducible refine (bgTopBits_any bo m2 k2 n _ HZ.out (limbs B) _ hB (by omega) p2).mono ?_
    rintro e w2 ⟨rfl, rfl⟩
    rw [val_limbs', P4.out, ← HY.out]
    go_upto_block 2 with fail
    go_cut [8, 9, 11, 12, 14] from 69 to 162 (fun u0v u1v v0v v1v ev wx => ∃ (x y u0 u1 u2 v0 v1 v2 : Nat) (e : Bool) (P Q : Nat), u0v = .int .u64 (u0 : Int) ∧ u1v = .int .u64 (u1 : Int) ∧ v0v = .int .u64 (v0 : Int) ∧ v1v = .int .u64 (v1 : Int) ∧ ev = .bool e ∧ Hid (Eu A B X Y x y u0 u1 u2 v0 v1 v2 e P Q) ∧ wx = wr)
    case first =>
     go_wp2
     go_loopw [6, 7, 8, 9, 10, 11, 12, 13, 14] (fun xv yv u0v u1v u2v v0v v1v v2v ev wx => ∃ (x y u0 u1 u2 v0 v1 v2 : Nat) (e : Bool) (P Q : Nat), xv = .int .u64 (x : Int) ∧ yv = .int .u64 (y : Int) ∧ u0v = .int .u64 (u0 : Int) ∧ u1v = .int .u64 (u1 : Int) ∧ u2v = .int .u64 (u2 : Int) ∧ v0v = .int .u64 (v0 : Int) ∧ v1v = .int .u64 (v1 : Int) ∧ v2v = .int .u64 (v2 : Int) ∧ ev = .bool e ∧ Hid (Eu A B X Y x y u0 u1 u2 v0 v1 v2 e P Q) ∧ wx = wr) (fun _ yv _ _ _ _ _ _ _ _ => (intOf yv).toNat)
     case atStart => exact ⟨X, Y, 0, 1, 0, 0, 0, 1, false, 0, A, rfl, rfl, rfl, rfl, rfl, rfl, rfl, rfl, rfl, H0, rfl⟩
     case round =>
      obtain ⟨x, y, u0, u1, u2, v0, v1, v2, ev, P, Q, rfl, rfl, rfl, rfl, rfl, rfl, rfl, rfl, rfl, HE, rfl⟩ := hrel
      obtain ⟨s1, s2, s3, s4, s5, s6, s7, s8, s9⟩ := HE.out.sizes p5
      have y1 : IntKind.u64.wrap ((x : Int) - (y : Int)) = ((x - y : Nat) : Int) := by rw [IntWalk.u64_in _ (by omega)]; omega
      have y2 : IntKind.u64.wrap ((v1 : Int) + (v2 : Int)) = (v1 : Int) + (v2 : Int) := IntWalk.u64_in _ (by omega)
      by_cases cc1 : v2 ≤ y
      · have i1 : (v2 : Int) ≤ (y : Int) := by omega
        have i3 : ¬ (y : Int) < (v2 : Int) := by omega
        by_cases cc2 : v1 + v2 ≤ x - y
        · have i2 : (v1 : Int) + (v2 : Int) ≤ ((x - y : Nat) : Int) := by omega
          obtain ⟨⟨R, hR⟩, t1, t2, t3, t4⟩ := HE.out.step p5 HdA.out HdB.out HsA.out HsB.out cc1 cc2
          obtain ⟨q, hq⟩ : ∃ q, q = x / y := ⟨_, rfl⟩
          rw [← hq] at hR t1 t2 t3 t4
          obtain ⟨qy, hqy⟩ : ∃ m, m = q * y := ⟨_, rfl⟩
          obtain ⟨qu, hqu⟩ : ∃ m, m = q * u2 := ⟨_, rfl⟩
          obtain ⟨qv, hqv⟩ : ∃ m, m = q * v2 := ⟨_, rfl⟩
          rw [← hqy, ← hqu, ← hqv] at hR
          rw [← hqy] at t1 t4
          rw [← hqv] at t2
          rw [← hqu] at t3
          have i4 : ((y : Int) == 0) = false := by simp; omega
          have i5 : ¬ (y : Int) = 0 := by omega
          have HR := Lib.hid hR
          have e1 : (q : Int) * (y : Int) = (qy : Int) := by rw [hqy, Int.natCast_mul]
          have e2 : (q : Int) * (u2 : Int) = (qu : Int) := by rw [hqu, Int.natCast_mul]
          have e3 : (q : Int) * (v2 : Int) = (qv : Int) := by rw [hqv, Int.natCast_mul]
          have e4 : (x : Int) / (y : Int) = (q : Int) := by rw [hq, Int.natCast_ediv]
          have e5 : Int.tdiv (x : Int) (y : Int) = (q : Int) := by rw [Int.tdiv_eq_ediv_of_nonneg (by omega), e4]
          have y3 : IntKind.u64.wrap ((x : Int) - (qy : Int)) = ((x - qy : Nat) : Int) := by rw [IntWalk.u64_in _ (by omega)]; omega
          have y4 : IntKind.u64.wrap ((u1 : Int) + (qu : Int)) = ((u1 + qu : Nat) : Int) := by rw [IntWalk.u64_in _ (by omega)]; omega
          have y5 : IntKind.u64.wrap ((v1 : Int) + (qv : Int)) = ((v1 + qv : Nat) : Int) := by rw [IntWalk.u64_in _ (by omega)]; omega
          have y6 : IntKind.u64.wrap (qy : Int) = (qy : Int) := IntWalk.u64_in _ (by omega)
          have y7 : IntKind.u64.wrap (qu : Int) = (qu : Int) := IntWalk.u64_in _ (by omega)
          have y8 : IntKind.u64.wrap (qv : Int) = (qv : Int) := IntWalk.u64_in _ (by omega)
          have hqx : q ≤ x := by rw [hq]; exact Nat.div_le_self _ _
          have y9 : IntKind.u64.wrap (q : Int) = (q : Int) := IntWalk.u64_in _ (by omega)
          clear hq hqy hqu hqv hR
          go_wp2
          exact ⟨⟨y, x - qy, u1, u2, u1 + qu, v1, v2, v1 + qv, !ev, Q, R, rfl, by go_num, rfl, rfl, by go_num, rfl, rfl, by go_num, rfl, HR, by first | rfl | trivial⟩, by simp [intOf]; omega⟩
        · have i2 : ¬ (v1 : Int) + (v2 : Int) ≤ ((x - y : Nat) : Int) := by omega
          go_wp2
          go_meet
          exact ⟨x, y, u0, u1, u2, v0, v1, v2, ev, P, Q, rfl, rfl, rfl, rfl, rfl, HE, rfl⟩
      · have i1 : ¬ (v2 : Int) ≤ (y : Int) := by omega
        go_wp2
        go_meet
        exact ⟨x, y, u0, u1, u2, v0, v1, v2, ev, P, Q, rfl, rfl, rfl, rfl, rfl, HE, rfl⟩
    case rest =>
     obtain ⟨x, y, u0, u1, u2, v0, v1, v2, e, P, Q, rfl, rfl, rfl, rfl, rfl, HE, rfl⟩ := hcut
     obtain ⟨s1, s2, s3, s4, s5, s6, s7, s8, s9⟩ := HE.out.sizes p5
     by_cases hv : v0 = 0
     · subst hv
       go_wp2_with fail
       with_reducible refine (bgDiv_any ao bo m1 m2 k1 k2 (limbs A) (limbs B) _ hA hB (fine_limbs _) (fine_limbs _) (by omega) (by rw [val_limbs']; exact hB0)).mono ?_
       rintro e w3 ⟨aq, kq, cq, ar, kr, cr, rfl, hq, hr, hb⟩
       rw [val_limbs', val_limbs'] at hq hr
       have hrl := Nat.mod_lt A (Nat.pos_of_ne_zero hB0)
       have HG2 := Lib.hid (gcd_step HG.out)
       have hRd2 := Lib.hid (rd_limbs hr.sl)
       go_wp2
       go_roundw
       case rel => exact ⟨bo, ar, m2, k2, kr, cr, B, A % B, rfl, rfl, hB.below hb, hr.sl, Nat.le_of_lt hrl, HG2, by omega, next Wr hb⟩
       case measure =>
        show rdVal _ _ < rdVal _ _
        rw [hRd2.out, HRd.out]
        exact hrl
     · obtain ⟨G1, G2, G3, G4⟩ := HE.out.ends hv hAB
       have HG2 := Lib.hid (G1.trans HG.out)
       clear G1
       have hl1 := limbs_mono G4
       rw [hA.len] at hl1
       have HL1 := Lib.hid hl1
       clear hl1
       have x0 : ((v0 : Int) == 0) = false := by simp; omega
       have x1 : ¬ v0 = 0 := hv
       obtain ⟨bp1, bp2, bp3, bp4⟩ := HE.out.pq
       have hBle : m2 ≤ m1 := p8
       cases e
       · obtain ⟨r1, r2⟩ := HE.out.odds hv
         have R1 := Lib.hid r1
         have R2 := Lib.hid r2
         clear r1 r2 hv
         go_wp2_with fail
         with_reducible refine (bgBlend_any ao bo m1 m2 k1 k2 (limbs A) (limbs B) (-(u0 : Int)) ((v0 : Int)) _ hA hB (by omega) p8 bp1 (by rw [val_limbs', val_limbs']; exact R1.out)).mono ?_
         rintro e w3 ⟨aq, kq, cq, rfl, hq, hb⟩
         go_wp2_with fail
         with_reducible refine (bgBlend_any ao bo m1 m2 k1 k2 (limbs A) (limbs B) ((u1 : Int)) (-(v1 : Int)) _ (hA.below hb) (hB.below hb) (by omega) p8 bp4 (by rw [val_limbs', val_limbs']; exact R2.out)).mono ?_
         rintro e w4 ⟨ar, kr, cr, rfl, hr, hb4⟩
         have hq4 := hq.sl.below hb4
         have hlq := HL1.out
         have hkq := hq.sl.len
         have hRd2 := Lib.hid (rd_limbs hr.sl)
         have Hkq : Hid (kq ≤ 67108864) := Lib.hid (by rw [← hkq]; exact Nat.le_trans hlq hm1)
         clear hlq hkq
         go_wp2
         go_roundw
         case rel => exact ⟨aq, ar, kq, cq, kr, cr, P, Q, rfl, rfl, hq4, hr.sl, G2, HG2, Hkq.out, next (next Wr hb) hb4⟩
         case measure =>
          show rdVal _ _ < rdVal _ _
          rw [hRd2.out, HRd.out]
          exact G3
       · obtain ⟨r1, r2⟩ := HE.out.evens hv
         have R1 := Lib.hid r1
         have R2 := Lib.hid r2
         clear r1 r2 hv
         go_wp2_with fail
         with_reducible refine (bgBlend_any ao bo m1 m2 k1 k2 (limbs A) (limbs B) ((u0 : Int)) (-(v0 : Int)) _ hA hB (by omega) p8 bp2 (by rw [val_limbs', val_limbs']; exact R1.out)).mono ?_
         rintro e w3 ⟨aq, kq, cq, rfl, hq, hb⟩
         go_wp2_with fail
         with_reducible refine (bgBlend_any ao bo m1 m2 k1 k2 (limbs A) (limbs B) (-(u1 : Int)) ((v1 : Int)) _ (hA.below hb) (hB.below hb) (by omega) p8 bp3 (by rw [val_limbs', val_limbs']; exact R2.out)).mono ?_
         rintro e w4 ⟨ar, kr, cr, rfl, hr, hb4⟩
         have hq4 := hq.sl.below hb4
         have hlq := HL1.out
         have hkq := hq.sl.len
         have hRd2 := Lib.hid (rd_limbs hr.sl)
         have Hkq : Hid (kq ≤ 67108864) := Lib.hid (by rw [← hkq]; exact Nat.le_trans hlq hm1)
         clear hlq hkq
         go_wp2
         go_roundw
         case rel => exact ⟨aq, ar, kq, cq, kr, cr, P, Q, rfl, rfl, hq4, hr.sl, G2, HG2, Hkq.out, next (next Wr hb) hb4⟩
         case measure =>
          show rdVal _ _ < rdVal _ _
          rw [hRd2.out, HRd.out]
          exact G3
  · have j3 : ¬ (m2 : Int) > 2 := by omega
    by_cases hm2 : m2 = 0
    · subst hm2
      have hB0 : B = 0 := limbs_eq_nil.1 (List.length_eq_zero_iff.1 hB.len)
      subst hB0
      go_wp2_with fail
      refine (bgCopied_any ao m1 k1 (limbs A) _ hA (by omega)).mono ?_
      rintro e w3 ⟨g, rfl, ho, hb3⟩
      go_wp2
      go_ret
      have hF := fr_own ho hA.ok (Nat.le_refl _) (Nat.le_refl _) (Nat.le_refl _)
      rw [List.take_of_length_le (by rw [hA.len]; exact Nat.le_refl _)] at hF
      exact ⟨_, _, _, rfl, by rw [← HG.out, Nat.gcd_zero_right]; exact hF.mono Wr.size, next Wr hb3⟩
    · have hB0 : B ≠ 0 := by
       rintro rfl
       have := hB.len
       simp [limbs_zero] at this
       omega
      have q0 : ((m2 : Int) == 0) = false := by simp; omega
      have q1 : ¬ (m2 : Int) = 0 := by omega
      have hBs : B = nth (limbs B) 0 + 4294967296 * nth (limbs B) 1 := by
       have := small_words (ok_limbs B) (by rw [hB.len]; omega)
       rw [val_limbs'] at this
       exact this
      have hBl : B < 18446744073709551616 := by
       have := nth_lt (ok_limbs B) 0
       have := nth_lt (ok_limbs B) 1
       omega
      have hrl := Nat.mod_lt A (Nat.pos_of_ne_zero hB0)
      have hRs : A % B = nth (limbs (A % B)) 0 + 4294967296 * nth (limbs (A % B)) 1 := by
       have := small_words (ok_limbs (A % B)) (limbs_length_le (by omega))
       rw [val_limbs'] at this
       exact this
      have HBs := Lib.hid hBs
      have HRs := Lib.hid hRs
      have HG2 := Lib.hid (gcd_step HG.out)
      obtain ⟨R, hR⟩ : ∃ R, R = A % B := ⟨_, rfl⟩
      rw [← hR] at hrl HRs HG2
      have HR := Lib.hid hR
      clear hBs hRs hR
      go_wp2_with fail
      with_reducible refine (bgDiv_any ao bo m1 m2 k1 k2 (limbs A) (limbs B) _ hA hB (fine_limbs _) (fine_limbs _) (by omega) (by rw [val_limbs']; exact hB0)).mono ?_
      rintro e w3 ⟨aq, kq, cq, ar, kr, cr, rfl, hq, hr, hb⟩
      rw [val_limbs', val_limbs', ← HR.out] at hr
      have hr' := hr.sl
      have hB3 := hB.below hb
      have W3 := next Wr hb
      go_wp2_with fail
      with_reducible refine (bgToUint_any bo m2 k2 (limbs B) _ hB3).mono ?_
      rintro e w4 ⟨rfl, rfl⟩
      rw [← HBs.out]
      go_wp2_with fail
      with_reducible refine (bgToUint_any ar kr cr (limbs R) _ hr').mono ?_
      rintro e w4 ⟨rfl, rfl⟩
      rw [← HRs.out]
      go_wp2_with fail
      go_loopw [20, 21] (fun xv yv wx => ∃ x y m : Nat, xv = .int .u64 (x : Int) ∧ yv = .int .u64 (y : Int) ∧ x < 18446744073709551616 ∧ y < 18446744073709551616 ∧ Hid (Nat.gcd x y = Nat.gcd (val xs) (val ys)) ∧ wx = w3.drewN m) (fun _ yv _ => (intOf yv).toNat)
      case atStart => exact ⟨B, R, 0, rfl, rfl, hBl, by omega, HG2, rfl⟩
      case round =>
       obtain ⟨x, y, m, rfl, rfl, lx, ly, HG3, rfl⟩ := hrel
       by_cases hy : y = 0
       · subst hy
         go_wp2_with fail
         refine (bgFromUint_any x _ rfl _ lx).mono ?_
         rintro e w5 ⟨a5, k5, c5, rfl, hF, hb5⟩
         go_wp2
         go_ret
         exact ⟨_, _, _, rfl, by rw [← HG3.out, Nat.gcd_zero_right]; exact hF.mono W3.size, next (drewn W3 m) hb5⟩
       · have i4 : ((y : Int) == 0) = false := by simp; omega
         have i5 : ¬ (y : Int) = 0 := by omega
         have i6 : ((y : Int) != 0) = true := by simp; omega
         have hml := Nat.mod_lt x (Nat.pos_of_ne_zero hy)
         have HG4 := Lib.hid (gcd_step HG3.out)
         obtain ⟨r, hr⟩ : ∃ r, r = x % y := ⟨_, rfl⟩
         rw [← hr] at hml HG4
         have e4 : (x : Int) % (y : Int) = (r : Int) := by rw [hr, Int.natCast_emod]
         have e5 : Int.tmod (x : Int) (y : Int) = (r : Int) := by rw [Int.tmod_eq_emod_of_nonneg (by omega), e4]
         clear hr
         go_wp2
         go_quiet (fail)
         go_wp2
         go_roundw
         case rel => exact ⟨y, r, _, rfl, rfl, ly, by omega, HG4, by first | rfl | exact World.drewN_drewN ..⟩
         case measure => simp [intOf]; omega
theorem bgCommon_longL (a1 a2 : Option Addr) (n1 n2 c1 c2 : Nat) (xs ys : List Nat) (w : World) (h1 : Sl w a1 n1 c1 xs) (h2 : Sl w a2 n2 c2 ys) (f1 : Fine xs) (f2 : Fine ys) (hn : n1 ≤ 67108864) (hm : n2 ≤ 67108864) (hT : Tab w) (hl : val ys < val xs) (h0 : val ys ≠ 0) (hq2 : ¬ tz (val ys) + 1 = szN ys) (hq1 : ¬ tz (val xs) + 1 = szN xs) :
 Calls Tryz.prog 133 #[.slice a2 n2 c2, .slice a1 n1 c1] w (Wd 40 (Nat.gcd (val xs) (val ys)) w) := by
 have hx : val xs ≠ 0 := fun hh => h0 (Nat.eq_zero_of_le_zero (hh ▸ (Nat.le_of_lt hl)))
 have hn2 : 0 < n2 := Nat.pos_of_ne_zero fun hh => h0 ((fine_zero f2 h2.len).2 hh)
 have hn1 : 0 < n1 := Nat.pos_of_ne_zero fun hh => hx ((fine_zero f1 h1.len).2 hh)
 obtain ⟨b1, b2⟩ := tz_size f1 h1.len hn hx
 obtain ⟨b3, b4⟩ := tz_size f2 h2.len hm h0
 obtain ⟨T1, hT1e⟩ : ∃ T, T = tz (val xs) := ⟨_, rfl⟩
 obtain ⟨S1, hS1e⟩ : ∃ S, S = szN xs := ⟨_, rfl⟩
 obtain ⟨T2, hT2e⟩ : ∃ T, T = tz (val ys) := ⟨_, rfl⟩
 obtain ⟨S2, hS2e⟩ : ∃ S, S = szN ys := ⟨_, rfl⟩
 rw [← hT1e, ← hS1e] at b1
 rw [← hS1e] at b2
 rw [← hT2e, ← hS2e] at b3
 rw [← hS2e] at b4
 rw [← hT2e, ← hS2e] at hq2
 rw [← hT1e, ← hS1e] at hq1
 have HT1 := Lib.hid hT1e
 have HS1 := Lib.hid hS1e
 have HT2 := Lib.hid hT2e
 have HS2 := Lib.hid hS2e
 clear hT1e hS1e hT2e hS2e
 have j1 : (n1 : Int) > 0 := by omega
 have j2 : (n2 : Int) > 0 := by omega
 have z1 : wrap64 ((T1 : Int) + 1) = (T1 : Int) + 1 := IntWalk.wrap64_in _ (by omega)
 have z2 : wrap64 ((T2 : Int) + 1) = (T2 : Int) + 1 := IntWalk.wrap64_in _ (by omega)
 have q2 : ¬ (T2 : Int) + 1 = (S2 : Int) := by omega
 have q2d : decide ((T2 : Int) + 1 = (S2 : Int)) = false := decide_eq_false q2
 have q1 : ¬ (T1 : Int) + 1 = (S1 : Int) := by omega
 have q1d : decide ((T1 : Int) + 1 = (S1 : Int)) = false := decide_eq_false q1
 have hcv := Lib.hid (cmpN_lt hl)
 have g2 : decide ((-1 : Int) < 0) = true := by decide
 have hl := Nat.le_of_lt hl
 go_enter Tryz.func133, Tryz.ntmps133
 go_wp2_with fail
 refine (bgCmp_any a2 a1 n2 n1 c2 c1 ys xs _ h2 h1 f2 f1).mono ?_
 rintro e w1 ⟨rfl, W1⟩
 rw [hcv.out]
 have hA := h1.below W1
 have hB := h2.below W1
 have hT1 := hT.below W1
 go_wp2_with fail
 with_reducible refine (bgZeros_any a2 n2 c2 ys _ hB h0 (by omega) hT1).mono ?_
 rintro e w2 ⟨rfl, rfl⟩
 rw [← HT2.out]
 go_wp2_with fail
 with_reducible refine (bgBitLen_any a2 n2 c2 ys _ hB (by omega)).mono ?_
 rintro e w2 ⟨rfl, rfl⟩
 rw [← HS2.out]
 go_wp2_with fail
 with_reducible refine (bgZeros_any a1 n1 c1 xs _ hA hx (by omega) hT1).mono ?_
 rintro e w2 ⟨rfl, rfl⟩
 rw [← HT1.out]
 go_wp2_with fail
 with_reducible refine (bgBitLen_any a1 n1 c1 xs _ hA (by omega)).mono ?_
 rintro e w2 ⟨rfl, rfl⟩
 rw [← HS1.out]
 go_wp2_with fail
 clear q1 q1d q2 q2d hT1 b1 b2 b3 b4 HT1 HT2 HS1 HS2 hq1 hq2 z1 z2 j1 j2
 go_loopw [0, 1] (fun av bv wr => ∃ (ao bo : Option Addr) (m1 k1 m2 k2 A B : Nat), av = .slice ao m1 k1 ∧ bv = .slice bo m2 k2 ∧ Sl wr ao m1 k1 (limbs A) ∧ Sl wr bo m2 k2 (limbs B) ∧ B ≤ A ∧ Hid (Nat.gcd A B = Nat.gcd (val xs) (val ys)) ∧ m1 ≤ 67108864 ∧ Below w.heap.size w wr) (fun _ bv wr => rdVal wr bv)
 case atStart => exact ⟨a1, a2, n1, c1, n2, c2, val xs, val ys, rfl, rfl, by rw [limbs_val f1]; exact h1.below W1, by rw [limbs_val f2]; exact h2.below W1, by omega, Lib.hid rfl, hn, W1⟩
 case round =>
  clear hA hB
  obtain ⟨ao, bo, m1, k1, m2, k2, A, B, rfl, rfl, hA, hB, hAB, HG, hm1, Wr⟩ := hrel
  by_cases h3 : 2 < m2
  · obtain ⟨n, p1, p2, p3, p4, p5, p6, p7, p8⟩ := com_top hA.len hB.len h3 hAB (by omega)
    have j3 : (m2 : Int) > 2 := by omega
    have z3 : wrap64 ((szN (limbs A) : Int) - 60) = (n : Int) := by rw [IntWalk.wrap64_in _ (by omega)]; omega
    have hN := Nat.two_pow_pos n
    have hdA : A = A / 2 ^ n * 2 ^ n + A % 2 ^ n := by rw [Nat.mul_comm]; exact (Nat.div_add_mod _ _).symm
    have hdB : B = B / 2 ^ n * 2 ^ n + B % 2 ^ n := by rw [Nat.mul_comm]; exact (Nat.div_add_mod _ _).symm
    have hsA := Nat.mod_lt A hN
    have hsB := Nat.mod_lt B hN
    have HsA := Lib.hid hsA
    have HsB := Lib.hid hsB
    have HZ := Lib.hid z3
    have P3 := Lib.hid p3
    have P4 := Lib.hid p4
    obtain ⟨X, hX⟩ : ∃ X, X = A / 2 ^ n := ⟨_, rfl⟩
    obtain ⟨Y, hY⟩ : ∃ Y, Y = B / 2 ^ n := ⟨_, rfl⟩
    rw [← hX] at p5 p6 p7 hdA
    rw [← hY] at p7 hdB
    have HdA := Lib.hid hdA
    have HdB := Lib.hid hdB
    have HX := Lib.hid hX
    have HY := Lib.hid hY
    have H0 := Lib.hid (eu_start (A := A) (B := B) p7 p6)
    have HRd := Lib.hid (rd_limbs hB)
    have hB0 : B ≠ 0 := by
     rintro rfl
     have := hB.len
     simp [limbs_zero] at this
     omega
    clear hdA hdB hsA hsB z3 p3 p4 hX hY p1 hN
    go_wp2_with fail
    with_reducible refine (bgBitLen_any ao m1 k1 (limbs A) _ hA (by omega)).mono ?_
    rintro e w2 ⟨rfl, rfl⟩
    have z3 := HZ.out
    go_wp2_with fail
    clear z3
    with_reducible refine (bgTopBits_any ao m1 k1 n _ rfl (limbs A) _ hA (by omega) p2).mono ?_
    rintro e w2 ⟨rfl, rfl⟩
    rw [val_limbs', P3.out, ← HX.out]
    go_wp2_with fail
    with_reducible refine (bgTopBits_any bo m2 k2 n _ HZ.out (limbs B) _ hB (by omega) p2).mono ?_
    rintro e w2 ⟨rfl, rfl⟩
    rw [val_limbs', P4.out, ← HY.out]
    go_upto_block 2 with fail
    go_cut [8, 9, 11, 12, 14] from 69 to 162 (fun u0v u1v v0v v1v ev wx => ∃ (x y u0 u1 u2 v0 v1 v2 : Nat) (e : Bool) (P Q : Nat), u0v = .int .u64 (u0 : Int) ∧ u1v = .int .u64 (u1 : Int) ∧ v0v = .int .u64 (v0 : Int) ∧ v1v = .int .u64 (v1 : Int) ∧ ev = .bool e ∧ Hid (Eu A B X Y x y u0 u1 u2 v0 v1 v2 e P Q) ∧ wx = wr)
    case first =>
     go_wp2
     go_loopw [6, 7, 8, 9, 10, 11, 12, 13, 14] (fun xv yv u0v u1v u2v v0v v1v v2v ev wx => ∃ (x y u0 u1 u2 v0 v1 v2 : Nat) (e : Bool) (P Q : Nat), xv = .int .u64 (x : Int) ∧ yv = .int .u64 (y : Int) ∧ u0v = .int .u64 (u0 : Int) ∧ u1v = .int .u64 (u1 : Int) ∧ u2v = .int .u64 (u2 : Int) ∧ v0v = .int .u64 (v0 : Int) ∧ v1v = .int .u64 (v1 : Int) ∧ v2v = .int .u64 (v2 : Int) ∧ ev = .bool e ∧ Hid (Eu A B X Y x y u0 u1 u2 v0 v1 v2 e P Q) ∧ wx = wr) (fun _ yv _ _ _ _ _ _ _ _ => (intOf yv).toNat)
     case atStart => exact ⟨X, Y, 0, 1, 0, 0, 0, 1, false, 0, A, rfl, rfl, rfl, rfl, rfl, rfl, rfl, rfl, rfl, H0, rfl⟩
     case round =>
      obtain ⟨x, y, u0, u1, u2, v0, v1, v2, ev, P, Q, rfl, rfl, rfl, rfl, rfl, rfl, rfl, rfl, rfl, HE, rfl⟩ := hrel
      obtain ⟨s1, s2, s3, s4, s5, s6, s7, s8, s9⟩ := HE.out.sizes p5
      have y1 : IntKind.u64.wrap ((x : Int) - (y : Int)) = ((x - y : Nat) : Int) := by rw [IntWalk.u64_in _ (by omega)]; omega
      have y2 : IntKind.u64.wrap ((v1 : Int) + (v2 : Int)) = (v1 : Int) + (v2 : Int) := IntWalk.u64_in _ (by omega)
      by_cases cc1 : v2 ≤ y
      · have i1 : (v2 : Int) ≤ (y : Int) := by omega
        have i3 : ¬ (y : Int) < (v2 : Int) := by omega
        by_cases cc2 : v1 + v2 ≤ x - y
        · have i2 : (v1 : Int) + (v2 : Int) ≤ ((x - y : Nat) : Int) := by omega
          obtain ⟨⟨R, hR⟩, t1, t2, t3, t4⟩ := HE.out.step p5 HdA.out HdB.out HsA.out HsB.out cc1 cc2
          obtain ⟨q, hq⟩ : ∃ q, q = x / y := ⟨_, rfl⟩
          rw [← hq] at hR t1 t2 t3 t4
          obtain ⟨qy, hqy⟩ : ∃ m, m = q * y := ⟨_, rfl⟩
          obtain ⟨qu, hqu⟩ : ∃ m, m = q * u2 := ⟨_, rfl⟩
          obtain ⟨qv, hqv⟩ : ∃ m, m = q * v2 := ⟨_, rfl⟩
          rw [← hqy, ← hqu, ← hqv] at hR
          rw [← hqy] at t1 t4
          rw [← hqv] at t2
          rw [← hqu] at t3
          have i4 : ((y : Int) == 0) = false := by simp; omega
          have i5 : ¬ (y : Int) = 0 := by omega
          have HR := Lib.hid hR
          have e1 : (q : Int) * (y : Int) = (qy : Int) := by rw [hqy, Int.natCast_mul]
          have e2 : (q : Int) * (u2 : Int) = (qu : Int) := by rw [hqu, Int.natCast_mul]
          have e3 : (q : Int) * (v2 : Int) = (qv : Int) := by rw [hqv, Int.natCast_mul]
          have e4 : (x : Int) / (y : Int) = (q : Int) := by rw [hq, Int.natCast_ediv]
          have e5 : Int.tdiv (x : Int) (y : Int) = (q : Int) := by rw [Int.tdiv_eq_ediv_of_nonneg (by omega), e4]
          have y3 : IntKind.u64.wrap ((x : Int) - (qy : Int)) = ((x - qy : Nat) : Int) := by rw [IntWalk.u64_in _ (by omega)]; omega
          have y4 : IntKind.u64.wrap ((u1 : Int) + (qu : Int)) = ((u1 + qu : Nat) : Int) := by rw [IntWalk.u64_in _ (by omega)]; omega
          have y5 : IntKind.u64.wrap ((v1 : Int) + (qv : Int)) = ((v1 + qv : Nat) : Int) := by rw [IntWalk.u64_in _ (by omega)]; omega
          have y6 : IntKind.u64.wrap (qy : Int) = (qy : Int) := IntWalk.u64_in _ (by omega)
          have y7 : IntKind.u64.wrap (qu : Int) = (qu : Int) := IntWalk.u64_in _ (by omega)
          have y8 : IntKind.u64.wrap (qv : Int) = (qv : Int) := IntWalk.u64_in _ (by omega)
          have hqx : q ≤ x := by rw [hq]; exact Nat.div_le_self _ _
          have y9 : IntKind.u64.wrap (q : Int) = (q : Int) := IntWalk.u64_in _ (by omega)
          clear hq hqy hqu hqv hR
          go_wp2
          exact ⟨⟨y, x - qy, u1, u2, u1 + qu, v1, v2, v1 + qv, !ev, Q, R, rfl, by go_num, rfl, rfl, by go_num, rfl, rfl, by go_num, rfl, HR, by first | rfl | trivial⟩, by simp [intOf]; omega⟩
        · have i2 : ¬ (v1 : Int) + (v2 : Int) ≤ ((x - y : Nat) : Int) := by omega
          go_wp2
          go_meet
          exact ⟨x, y, u0, u1, u2, v0, v1, v2, ev, P, Q, rfl, rfl, rfl, rfl, rfl, HE, rfl⟩
      · have i1 : ¬ (v2 : Int) ≤ (y : Int) := by omega
        go_wp2
        go_meet
        exact ⟨x, y, u0, u1, u2, v0, v1, v2, ev, P, Q, rfl, rfl, rfl, rfl, rfl, HE, rfl⟩
    case rest =>
     obtain ⟨x, y, u0, u1, u2, v0, v1, v2, e, P, Q, rfl, rfl, rfl, rfl, rfl, HE, rfl⟩ := hcut
     obtain ⟨s1, s2, s3, s4, s5, s6, s7, s8, s9⟩ := HE.out.sizes p5
     by_cases hv : v0 = 0
     · subst hv
       go_wp2_with fail
       with_reducible refine (bgDiv_any ao bo m1 m2 k1 k2 (limbs A) (limbs B) _ hA hB (fine_limbs _) (fine_limbs _) (by omega) (by rw [val_limbs']; exact hB0)).mono ?_
       rintro e w3 ⟨aq, kq, cq, ar, kr, cr, rfl, hq, hr, hb⟩
       rw [val_limbs', val_limbs'] at hq hr
       have hrl := Nat.mod_lt A (Nat.pos_of_ne_zero hB0)
       have HG2 := Lib.hid (gcd_step HG.out)
       have hRd2 := Lib.hid (rd_limbs hr.sl)
       go_wp2
       go_roundw
       case rel => exact ⟨bo, ar, m2, k2, kr, cr, B, A % B, rfl, rfl, hB.below hb, hr.sl, Nat.le_of_lt hrl, HG2, by omega, next Wr hb⟩
       case measure =>
        show rdVal _ _ < rdVal _ _
        rw [hRd2.out, HRd.out]
        exact hrl
     · obtain ⟨G1, G2, G3, G4⟩ := HE.out.ends hv hAB
       have HG2 := Lib.hid (G1.trans HG.out)
       clear G1
       have hl1 := limbs_mono G4
       rw [hA.len] at hl1
       have HL1 := Lib.hid hl1
       clear hl1
       have x0 : ((v0 : Int) == 0) = false := by simp; omega
       have x1 : ¬ v0 = 0 := hv
       obtain ⟨bp1, bp2, bp3, bp4⟩ := HE.out.pq
       have hBle : m2 ≤ m1 := p8
       cases e
       · obtain ⟨r1, r2⟩ := HE.out.odds hv
         have R1 := Lib.hid r1
         have R2 := Lib.hid r2
         clear r1 r2 hv
         go_wp2_with fail
         with_reducible refine (bgBlend_any ao bo m1 m2 k1 k2 (limbs A) (limbs B) (-(u0 : Int)) ((v0 : Int)) _ hA hB (by omega) p8 bp1 (by rw [val_limbs', val_limbs']; exact R1.out)).mono ?_
         rintro e w3 ⟨aq, kq, cq, rfl, hq, hb⟩
         go_wp2_with fail
         with_reducible refine (bgBlend_any ao bo m1 m2 k1 k2 (limbs A) (limbs B) ((u1 : Int)) (-(v1 : Int)) _ (hA.below hb) (hB.below hb) (by omega) p8 bp4 (by rw [val_limbs', val_limbs']; exact R2.out)).mono ?_
         rintro e w4 ⟨ar, kr, cr, rfl, hr, hb4⟩
         have hq4 := hq.sl.below hb4
         have hlq := HL1.out
         have hkq := hq.sl.len
         have hRd2 := Lib.hid (rd_limbs hr.sl)
         have Hkq : Hid (kq ≤ 67108864) := Lib.hid (by rw [← hkq]; exact Nat.le_trans hlq hm1)
         clear hlq hkq
         go_wp2
         go_roundw
         case rel => exact ⟨aq, ar, kq, cq, kr, cr, P, Q, rfl, rfl, hq4, hr.sl, G2, HG2, Hkq.out, next (next Wr hb) hb4⟩
         case measure =>
          show rdVal _ _ < rdVal _ _
          rw [hRd2.out, HRd.out]
          exact G3
       · obtain ⟨r1, r2⟩ := HE.out.evens hv
         have R1 := Lib.hid r1
         have R2 := Lib.hid r2
         clear r1 r2 hv
         go_wp2_with fail
         with_reducible refine (bgBlend_any ao bo m1 m2 k1 k2 (limbs A) (limbs B) ((u0 : Int)) (-(v0 : Int)) _ hA hB (by omega) p8 bp2 (by rw [val_limbs', val_limbs']; exact R1.out)).mono ?_
         rintro e w3 ⟨aq, kq, cq, rfl, hq, hb⟩
         go_wp2_with fail
         with_reducible refine (bgBlend_any ao bo m1 m2 k1 k2 (limbs A) (limbs B) (-(u1 : Int)) ((v1 : Int)) _ (hA.below hb) (hB.below hb) (by omega) p8 bp3 (by rw [val_limbs', val_limbs']; exact R2.out)).mono ?_
         rintro e w4 ⟨ar, kr, cr, rfl, hr, hb4⟩
         have hq4 := hq.sl.below hb4
         have hlq := HL1.out
         have hkq := hq.sl.len
         have hRd2 := Lib.hid (rd_limbs hr.sl)
         have Hkq : Hid (kq ≤ 67108864) := Lib.hid (by rw [← hkq]; exact Nat.le_trans hlq hm1)
         clear hlq hkq
         go_wp2
         go_roundw
         case rel => exact ⟨aq, ar, kq, cq, kr, cr, P, Q, rfl, rfl, hq4, hr.sl, G2, HG2, Hkq.out, next (next Wr hb) hb4⟩
         case measure =>
          show rdVal _ _ < rdVal _ _
          rw [hRd2.out, HRd.out]
          exact G3
  · have j3 : ¬ (m2 : Int) > 2 := by omega
    by_cases hm2 : m2 = 0
    · subst hm2
      have hB0 : B = 0 := limbs_eq_nil.1 (List.length_eq_zero_iff.1 hB.len)
      subst hB0
      go_wp2_with fail
      refine (bgCopied_any ao m1 k1 (limbs A) _ hA (by omega)).mono ?_
      rintro e w3 ⟨g, rfl, ho, hb3⟩
      go_wp2
      go_ret
      have hF := fr_own ho hA.ok (Nat.le_refl _) (Nat.le_refl _) (Nat.le_refl _)
      rw [List.take_of_length_le (by rw [hA.len]; exact Nat.le_refl _)] at hF
      exact ⟨_, _, _, rfl, by rw [← HG.out, Nat.gcd_zero_right]; exact hF.mono Wr.size, next Wr hb3⟩
    · have hB0 : B ≠ 0 := by
       rintro rfl
       have := hB.len
       simp [limbs_zero] at this
       omega
      have q0 : ((m2 : Int) == 0) = false := by simp; omega
      have q1 : ¬ (m2 : Int) = 0 := by omega
      have hBs : B = nth (limbs B) 0 + 4294967296 * nth (limbs B) 1 := by
       have := small_words (ok_limbs B) (by rw [hB.len]; omega)
       rw [val_limbs'] at this
       exact this
      have hBl : B < 18446744073709551616 := by
       have := nth_lt (ok_limbs B) 0
       have := nth_lt (ok_limbs B) 1
       omega
      have hrl := Nat.mod_lt A (Nat.pos_of_ne_zero hB0)
      have hRs : A % B = nth (limbs (A % B)) 0 + 4294967296 * nth (limbs (A % B)) 1 := by
       have := small_words (ok_limbs (A % B)) (limbs_length_le (by omega))
       rw [val_limbs'] at this
       exact this
      have HBs := Lib.hid hBs
      have HRs := Lib.hid hRs
      have HG2 := Lib.hid (gcd_step HG.out)
      obtain ⟨R, hR⟩ : ∃ R, R = A % B := ⟨_, rfl⟩
      rw [← hR] at hrl HRs HG2
      have HR := Lib.hid hR
      clear hBs hRs hR
      go_wp2_with fail
      with_reducible refine (bgDiv_any ao bo m1 m2 k1 k2 (limbs A) (limbs B) _ hA hB (fine_limbs _) (fine_limbs _) (by omega) (by rw [val_limbs']; exact hB0)).mono ?_
      rintro e w3 ⟨aq, kq, cq, ar, kr, cr, rfl, hq, hr, hb⟩
      rw [val_limbs', val_limbs', ← HR.out] at hr
      have hr' := hr.sl
      have hB3 := hB.below hb
      have W3 := next Wr hb
      go_wp2_with fail
      with_reducible refine (bgToUint_any bo m2 k2 (limbs B) _ hB3).mono ?_
      rintro e w4 ⟨rfl, rfl⟩
      rw [← HBs.out]
      go_wp2_with fail
      with_reducible refine (bgToUint_any ar kr cr (limbs R) _ hr').mono ?_
      rintro e w4 ⟨rfl, rfl⟩
      rw [← HRs.out]
      go_wp2_with fail
      go_loopw [20, 21] (fun xv yv wx => ∃ x y m : Nat, xv = .int .u64 (x : Int) ∧ yv = .int .u64 (y : Int) ∧ x < 18446744073709551616 ∧ y < 18446744073709551616 ∧ Hid (Nat.gcd x y = Nat.gcd (val xs) (val ys)) ∧ wx = w3.drewN m) (fun _ yv _ => (intOf yv).toNat)
      case atStart => exact ⟨B, R, 0, rfl, rfl, hBl, by omega, HG2, rfl⟩
      case round =>
       obtain ⟨x, y, m, rfl, rfl, lx, ly, HG3, rfl⟩ := hrel
       by_cases hy : y = 0
       · subst hy
         go_wp2_with fail
         refine (bgFromUint_any x _ rfl _ lx).mono ?_
         rintro e w5 ⟨a5, k5, c5, rfl, hF, hb5⟩
         go_wp2
         go_ret
         exact ⟨_, _, _, rfl, by rw [← HG3.out, Nat.gcd_zero_right]; exact hF.mono W3.size, next (drewn W3 m) hb5⟩
       · have i4 : ((y : Int) == 0) = false := by simp; omega
         have i5 : ¬ (y : Int) = 0 := by omega
         have i6 : ((y : Int) != 0) = true := by simp; omega
         have hml := Nat.mod_lt x (Nat.pos_of_ne_zero hy)
         have HG4 := Lib.hid (gcd_step HG3.out)
         obtain ⟨r, hr⟩ : ∃ r, r = x % y := ⟨_, rfl⟩
         rw [← hr] at hml HG4
         have e4 : (x : Int) % (y : Int) = (r : Int) := by rw [hr, Int.natCast_emod]
         have e5 : Int.tmod (x : Int) (y : Int) = (r : Int) := by rw [Int.tmod_eq_emod_of_nonneg (by omega), e4]
         clear hr
         go_wp2
         go_quiet (fail)
         go_wp2
         go_roundw
         case rel => exact ⟨y, r, _, rfl, rfl, ly, by omega, HG4, by first | rfl | exact World.drewN_drewN ..⟩
         case measure => simp [intOf]; omega
theorem bgCommon_any (a1 a2 : Option Addr) (n1 n2 c1 c2 : Nat) (xs ys : List Nat) (w : World) (h1 : Sl w a1 n1 c1 xs) (h2 : Sl w a2 n2 c2 ys) (f1 : Fine xs) (f2 : Fine ys) (hn : n1 ≤ 67108864) (hm : n2 ≤ 67108864) (hT : Tab w) :
 Calls Tryz.prog 133 #[.slice a1 n1 c1, .slice a2 n2 c2] w (Wd 40 (Nat.gcd (val xs) (val ys)) w) := by
 by_cases hl : val ys ≤ val xs
 · by_cases h0 : val ys = 0
   · exact bgCommon_zeroG a1 a2 n1 n2 c1 c2 xs ys w h1 h2 f1 f2 hn hm hT hl h0
   by_cases hq2 : tz (val ys) + 1 = szN ys
   · exact bgCommon_twoG a1 a2 n1 n2 c1 c2 xs ys w h1 h2 f1 f2 hn hm hT hl h0 hq2
   by_cases hq1 : tz (val xs) + 1 = szN xs
   · exact bgCommon_oneG a1 a2 n1 n2 c1 c2 xs ys w h1 h2 f1 f2 hn hm hT hl h0 hq2 hq1
   exact bgCommon_longG a1 a2 n1 n2 c1 c2 xs ys w h1 h2 f1 f2 hn hm hT hl h0 hq2 hq1
 · have hl : val xs < val ys := by omega
   rw [Nat.gcd_comm]
   by_cases h0 : val xs = 0
   · exact bgCommon_zeroL a2 a1 n2 n1 c2 c1 ys xs w h2 h1 f2 f1 hm hn hT hl h0
   by_cases hq2 : tz (val xs) + 1 = szN xs
   · exact bgCommon_twoL a2 a1 n2 n1 c2 c1 ys xs w h2 h1 f2 f1 hm hn hT hl h0 hq2
   by_cases hq1 : tz (val ys) + 1 = szN ys
   · exact bgCommon_oneL a2 a1 n2 n1 c2 c1 ys xs w h2 h1 f2 f1 hm hn hT hl h0 hq2 hq1
   exact bgCommon_longL a2 a1 n2 n1 c2 c1 ys xs w h2 h1 f2 f1 hm hn hT hl h0 hq2 hq1
end Go.Proofs.YtpmncmglmobjoaaGreatDoor
