/-
  Contracts of big: by, common. (Printed by wip/gen/big.py.)
-/
import Derived.Test.YthemcdnlcgmimaaGreatDoorBgE
import Derived.Test.YthemcdnlcgmimaaGreatDoorBigL
namespace Go.Proofs.YthemcdnlcgmimaaGreatDoor
open Go.RowKit Go.Lb

set_option maxHeartbeats 800000 in
theorem bgBy_any (a1 a2 : Option Addr) (n1 n2 c1 c2 : Nat) (xs ys : List Nat) (w : World) (h1 : Sl w a1 n1 c1 xs) (h2 : Sl w a2 n2 c2 ys) (f1 : Fine xs) (f2 : Fine ys) (hn : n1 ≤ 1073741824) (h0 : val ys ≠ 0) :
    Calls Tryz.prog 96 #[.slice a1 n1 c1, .slice a2 n2 c2] w fun e w' => ∃ ao k c, e = .returned (.slice ao k c) ∧ Sl w' ao k c (limbs (val xs / val ys)) ∧ ((ao = a1 ∧ k = n1 ∧ c = c1 ∧ val ys = 1) ∨ Fr 46 w' w.heap.size ao k c (limbs (val xs / val ys))) ∧ Below w.heap.size w w' := by
  by_cases h : val ys = 1 ∧ n2 = 1
  · have hd : decide (val ys = 1 ∧ n2 = 1) = true := decide_eq_true h
    have hd1 := Lib.hid hd
    have hv := Lib.hid (show limbs (val xs / val ys) = xs by rw [h.1, Nat.div_one, limbs_val f1])
    have hy := Lib.hid h.1
    clear hd h h0
    go_enter Tryz.func96, Tryz.ntmps96
    go_wp2_with (go_at_call 112; refine (bgOne_any a2 n2 c2 ys _ h2).mono ?_; rintro e w1 ⟨rfl, rfl⟩; rw [hd1.out])
    go_ret
    exact ⟨a1, n1, c1, rfl, by rw [hv.out]; exact h1, .inl ⟨rfl, rfl, rfl, hy.out⟩, Below.refl _ _⟩
  · have hd : decide (val ys = 1 ∧ n2 = 1) = false := decide_eq_false h
    have hd1 := Lib.hid hd
    clear hd h
    go_enter Tryz.func96, Tryz.ntmps96
    go_wp2_with (first | (go_at_call 112; refine (bgOne_any a2 n2 c2 ys _ h2).mono ?_; rintro e w1 ⟨rfl, rfl⟩; rw [hd1.out]) | (go_at_call 108; refine (bgDiv_any a1 a2 n1 n2 c1 c2 xs ys _ h1 h2 f1 f2 hn h0).mono ?_; rintro e w2 ⟨aq, kq, cq, ar, kr, cr, rfl, hq, hr, hb⟩))
    go_ret
    exact ⟨aq, kq, cq, rfl, hq.sl, .inr hq, hb⟩

set_option maxRecDepth 100000 in
set_option maxHeartbeats 8000000 in
theorem bgCommon_zeroG (a1 a2 : Option Addr) (n1 n2 c1 c2 : Nat) (xs ys : List Nat) (w : World) (h1 : Sl w a1 n1 c1 xs) (h2 : Sl w a2 n2 c2 ys) (f1 : Fine xs) (f2 : Fine ys) (hn : n1 ≤ 67108864) (hm : n2 ≤ 67108864) (hT : Tab w) (hl : val ys ≤ val xs) (h0 : val ys = 0) :
    Calls Tryz.prog 95 #[.slice a1 n1 c1, .slice a2 n2 c2] w (Wd 46 (Nat.gcd (val xs) (val ys)) w) := by
  obtain rfl : n2 = 0 := (fine_zero f2 h2.len).1 h0
  have HG : Hid (limbs (Nat.gcd (val xs) (val ys)) = xs) := Lib.hid (by rw [h0, Nat.gcd_zero_right, limbs_val f1])
  by_cases hx : val xs = 0
  · obtain rfl : n1 = 0 := (fine_zero f1 h1.len).1 hx
    have hcn : cmpN (val xs) (val ys) = 0 ∨ cmpN (val xs) (val ys) = 1 := by
      unfold cmpN
      rw [if_neg (by omega)]
      split
      · exact .inr rfl
      · exact .inl rfl
    obtain ⟨cv, hcv⟩ : ∃ cv, cv = cmpN (val xs) (val ys) := ⟨_, rfl⟩
    rw [← hcv] at hcn
    have Hcv := Lib.hid hcv
    have g1 : ¬ cv < 0 := by omega
    have g2 : decide (cv < 0) = false := decide_eq_false g1
    clear hcv hcn
    go_enter Tryz.func95, Tryz.ntmps95
    go_wp2_with fail
    refine (bgCmp_any a1 a2 (0 : Nat) (0 : Nat) c1 c2 xs ys _ h1 h2 f1 f2).mono ?_
    rintro e w1 ⟨rfl, W1⟩
    rw [← Hcv.out]
    go_wp2_with fail
    go_loopw [0, 1] (fun av bv wr => av = .slice a1 (0 : Nat) c1 ∧ bv = .slice a2 (0 : Nat) c2 ∧ wr = w1) (fun _ _ _ => 0)
    case atStart => exact ⟨rfl, rfl, rfl⟩
    case round =>
      obtain ⟨rfl, rfl, rfl⟩ := hrel
      go_wp2_with fail
      refine (bgCopied_any a1 (0 : Nat) c1 xs _ (h1.below W1) (by omega)).mono ?_
      rintro e w3 ⟨g, rfl, ho, hb3⟩
      go_wp2
      go_ret
      have hF := fr_own ho (h1.below W1).ok (Nat.le_refl _) (Nat.le_refl _) (Nat.le_refl _)
      rw [List.take_of_length_le (by rw [(h1.below W1).len]; exact Nat.le_refl _)] at hF
      exact ⟨_, _, _, rfl, by rw [HG.out]; exact hF.mono W1.size, next W1 hb3⟩
  · have hn1 : 0 < n1 := Nat.pos_of_ne_zero fun hh => hx ((fine_zero f1 h1.len).2 hh)
    obtain ⟨b1, b2⟩ := tz_size f1 h1.len hn hx
    obtain ⟨T, hTe⟩ : ∃ T, T = tz (val xs) := ⟨_, rfl⟩
    obtain ⟨S, hSe⟩ : ∃ S, S = szN xs := ⟨_, rfl⟩
    rw [← hTe, ← hSe] at b1
    rw [← hSe] at b2
    have HTe := Lib.hid hTe
    have HSe := Lib.hid hSe
    clear hTe hSe
    have j1 : (n1 : Int) > 0 := by omega
    have z1 : wrap64 ((T : Int) + 1) = (T : Int) + 1 := IntWalk.wrap64_in _ (by omega)
    have hcn : cmpN (val xs) (val ys) = 0 ∨ cmpN (val xs) (val ys) = 1 := by
      unfold cmpN
      rw [if_neg (by omega)]
      split
      · exact .inr rfl
      · exact .inl rfl
    obtain ⟨cv, hcv⟩ : ∃ cv, cv = cmpN (val xs) (val ys) := ⟨_, rfl⟩
    rw [← hcv] at hcn
    have Hcv := Lib.hid hcv
    have g1 : ¬ cv < 0 := by omega
    have g2 : decide (cv < 0) = false := decide_eq_false g1
    clear hcv hcn
    go_enter Tryz.func95, Tryz.ntmps95
    go_wp2_with fail
    refine (bgCmp_any a1 a2 n1 (0 : Nat) c1 c2 xs ys _ h1 h2 f1 f2).mono ?_
    rintro e w1 ⟨rfl, W1⟩
    rw [← Hcv.out]
    have hA := h1.below W1
    have hT1 := hT.below W1
    go_wp2_with fail
    refine (bgZeros_any a1 n1 c1 xs _ hA hx (by omega) hT1).mono ?_
    rintro e w2 ⟨rfl, rfl⟩
    rw [← HTe.out]
    go_wp2_with fail
    refine (bgBitLen_any a1 n1 c1 xs _ hA (by omega)).mono ?_
    rintro e w2 ⟨rfl, rfl⟩
    rw [← HSe.out]
    by_cases q2 : (T : Int) + 1 = (S : Int)
    · have q1 : decide ((T : Int) + 1 = (S : Int)) = true := decide_eq_true q2
      go_wp2_with fail
      go_loopw [0, 1] (fun av bv wr => av = .slice a1 n1 c1 ∧ bv = .slice a2 (0 : Nat) c2 ∧ wr = w1) (fun _ _ _ => 0)
      case atStart => exact ⟨rfl, rfl, rfl⟩
      case round =>
        obtain ⟨rfl, rfl, rfl⟩ := hrel
        go_wp2_with fail
        refine (bgCopied_any a1 n1 c1 xs _ (h1.below W1) (by omega)).mono ?_
        rintro e w3 ⟨g, rfl, ho, hb3⟩
        go_wp2
        go_ret
        have hF := fr_own ho (h1.below W1).ok (Nat.le_refl _) (Nat.le_refl _) (Nat.le_refl _)
        rw [List.take_of_length_le (by rw [(h1.below W1).len]; exact Nat.le_refl _)] at hF
        exact ⟨_, _, _, rfl, by rw [HG.out]; exact hF.mono W1.size, next W1 hb3⟩
    · have q1 : decide ((T : Int) + 1 = (S : Int)) = false := decide_eq_false q2
      go_wp2_with fail
      go_loopw [0, 1] (fun av bv wr => av = .slice a1 n1 c1 ∧ bv = .slice a2 (0 : Nat) c2 ∧ wr = w1) (fun _ _ _ => 0)
      case atStart => exact ⟨rfl, rfl, rfl⟩
      case round =>
        obtain ⟨rfl, rfl, rfl⟩ := hrel
        go_wp2_with fail
        refine (bgCopied_any a1 n1 c1 xs _ (h1.below W1) (by omega)).mono ?_
        rintro e w3 ⟨g, rfl, ho, hb3⟩
        go_wp2
        go_ret
        have hF := fr_own ho (h1.below W1).ok (Nat.le_refl _) (Nat.le_refl _) (Nat.le_refl _)
        rw [List.take_of_length_le (by rw [(h1.below W1).len]; exact Nat.le_refl _)] at hF
        exact ⟨_, _, _, rfl, by rw [HG.out]; exact hF.mono W1.size, next W1 hb3⟩

set_option maxRecDepth 100000 in
set_option maxHeartbeats 8000000 in
theorem bgCommon_twoG (a1 a2 : Option Addr) (n1 n2 c1 c2 : Nat) (xs ys : List Nat) (w : World) (h1 : Sl w a1 n1 c1 xs) (h2 : Sl w a2 n2 c2 ys) (f1 : Fine xs) (f2 : Fine ys) (hn : n1 ≤ 67108864) (hm : n2 ≤ 67108864) (hT : Tab w) (hl : val ys ≤ val xs) (h0 : val ys ≠ 0) (hq2 : tz (val ys) + 1 = szN ys) :
    Calls Tryz.prog 95 #[.slice a1 n1 c1, .slice a2 n2 c2] w (Wd 46 (Nat.gcd (val xs) (val ys)) w) := by
  have hx : val xs ≠ 0 := fun hh => h0 (Nat.eq_zero_of_le_zero (hh ▸ hl))
  have HG := Lib.hid (gcd_two (A := val xs) (B := val ys) hx h0 (.inr (two_of_sz f2 h0 hq2)))
  have hn2 : 0 < n2 := Nat.pos_of_ne_zero fun hh => h0 ((fine_zero f2 h2.len).2 hh)
  have hn1 : 0 < n1 := Nat.pos_of_ne_zero fun hh => hx ((fine_zero f1 h1.len).2 hh)
  obtain ⟨b1, b2⟩ := tz_size f1 h1.len hn hx
  obtain ⟨b3, b4⟩ := tz_size f2 h2.len hm h0
  obtain ⟨T1, hT1e⟩ : ∃ T, T = tz (val xs) := ⟨_, rfl⟩
  obtain ⟨S1, hS1e⟩ : ∃ S, S = szN xs := ⟨_, rfl⟩
  obtain ⟨T2, hT2e⟩ : ∃ T, T = tz (val ys) := ⟨_, rfl⟩
  obtain ⟨S2, hS2e⟩ : ∃ S, S = szN ys := ⟨_, rfl⟩
  rw [← hT1e, ← hS1e] at b1
  rw [← hS1e] at b2
  rw [← hT2e, ← hS2e] at b3
  rw [← hS2e] at b4
  rw [← hT2e, ← hS2e] at hq2
  have HT1 := Lib.hid hT1e
  have HS1 := Lib.hid hS1e
  have HT2 := Lib.hid hT2e
  have HS2 := Lib.hid hS2e
  clear hT1e hS1e hT2e hS2e
  have j1 : (n1 : Int) > 0 := by omega
  have j2 : (n2 : Int) > 0 := by omega
  have z1 : wrap64 ((T1 : Int) + 1) = (T1 : Int) + 1 := IntWalk.wrap64_in _ (by omega)
  have z2 : wrap64 ((T2 : Int) + 1) = (T2 : Int) + 1 := IntWalk.wrap64_in _ (by omega)
  have q2 : (T2 : Int) + 1 = (S2 : Int) := by omega
  have q2d : decide ((T2 : Int) + 1 = (S2 : Int)) = true := decide_eq_true q2
  have hcn : cmpN (val xs) (val ys) = 0 ∨ cmpN (val xs) (val ys) = 1 := by
    unfold cmpN
    rw [if_neg (by omega)]
    split
    · exact .inr rfl
    · exact .inl rfl
  obtain ⟨cv, hcv⟩ : ∃ cv, cv = cmpN (val xs) (val ys) := ⟨_, rfl⟩
  rw [← hcv] at hcn
  have Hcv := Lib.hid hcv
  have g1 : ¬ cv < 0 := by omega
  have g2 : decide (cv < 0) = false := decide_eq_false g1
  clear hcv hcn
  go_enter Tryz.func95, Tryz.ntmps95
  go_wp2_with fail
  refine (bgCmp_any a1 a2 n1 n2 c1 c2 xs ys _ h1 h2 f1 f2).mono ?_
  rintro e w1 ⟨rfl, W1⟩
  rw [← Hcv.out]
  have hA := h1.below W1
  have hB := h2.below W1
  have hT1 := hT.below W1
  go_wp2_with fail
  with_reducible refine (bgZeros_any a2 n2 c2 ys _ hB h0 (by omega) hT1).mono ?_
  rintro e w2 ⟨rfl, rfl⟩
  rw [← HT2.out]
  go_wp2_with fail
  with_reducible refine (bgBitLen_any a2 n2 c2 ys _ hB (by omega)).mono ?_
  rintro e w2 ⟨rfl, rfl⟩
  rw [← HS2.out]
  go_wp2_with fail
  have ho := bgOwn_one w1 1
  have hs := own_sl ho (ok_cons (by decide) ok_nil)
  have W2 := more W1 (.cells #[.int .u32 1] 46)
  have hT2 := hT1.alloc (.cells #[.int .u32 1] 46)
  with_reducible refine (bgZeros_any a1 n1 c1 xs _ (hA.alloc _) hx (by omega) hT2).mono ?_
  rintro e w2 ⟨rfl, rfl⟩
  rw [← HT1.out]
  go_wp2_with fail
  with_reducible refine (bgZeros_any a2 n2 c2 ys _ (hB.alloc _) h0 (by omega) hT2).mono ?_
  rintro e w2 ⟨rfl, rfl⟩
  rw [← HT2.out]
  go_wp2_with fail
  refine (bgUp_any _ 1 1 (min T1 T2) _ (by first | omega | (split <;> omega)) [1] _ hs (by decide) (by omega)).mono ?_
  rintro e w3 ⟨ao, k, c, rfl, hF, hb3⟩
  go_wp2
  go_ret
  have hv : val [1] * 2 ^ min T1 T2 = Nat.gcd (val xs) (val ys) := by
    rw [HG.out, HT1.out, HT2.out]
    simp [val]
  rw [hv] at hF
  exact ⟨_, _, _, rfl, hF.mono W2.size, next W2 hb3⟩

set_option maxRecDepth 100000 in
set_option maxHeartbeats 8000000 in
theorem bgCommon_oneG (a1 a2 : Option Addr) (n1 n2 c1 c2 : Nat) (xs ys : List Nat) (w : World) (h1 : Sl w a1 n1 c1 xs) (h2 : Sl w a2 n2 c2 ys) (f1 : Fine xs) (f2 : Fine ys) (hn : n1 ≤ 67108864) (hm : n2 ≤ 67108864) (hT : Tab w) (hl : val ys ≤ val xs) (h0 : val ys ≠ 0) (hq2 : ¬ tz (val ys) + 1 = szN ys) (hq1 : tz (val xs) + 1 = szN xs) :
    Calls Tryz.prog 95 #[.slice a1 n1 c1, .slice a2 n2 c2] w (Wd 46 (Nat.gcd (val xs) (val ys)) w) := by
  have hx : val xs ≠ 0 := fun hh => h0 (Nat.eq_zero_of_le_zero (hh ▸ hl))
  have HG := Lib.hid (gcd_two (A := val xs) (B := val ys) hx h0 (.inl (two_of_sz f1 hx hq1)))
  have hn2 : 0 < n2 := Nat.pos_of_ne_zero fun hh => h0 ((fine_zero f2 h2.len).2 hh)
  have hn1 : 0 < n1 := Nat.pos_of_ne_zero fun hh => hx ((fine_zero f1 h1.len).2 hh)
  obtain ⟨b1, b2⟩ := tz_size f1 h1.len hn hx
  obtain ⟨b3, b4⟩ := tz_size f2 h2.len hm h0
  obtain ⟨T1, hT1e⟩ : ∃ T, T = tz (val xs) := ⟨_, rfl⟩
  obtain ⟨S1, hS1e⟩ : ∃ S, S = szN xs := ⟨_, rfl⟩
  obtain ⟨T2, hT2e⟩ : ∃ T, T = tz (val ys) := ⟨_, rfl⟩
  obtain ⟨S2, hS2e⟩ : ∃ S, S = szN ys := ⟨_, rfl⟩
  rw [← hT1e, ← hS1e] at b1
  rw [← hS1e] at b2
  rw [← hT2e, ← hS2e] at b3
  rw [← hS2e] at b4
  rw [← hT2e, ← hS2e] at hq2
  rw [← hT1e, ← hS1e] at hq1
  have HT1 := Lib.hid hT1e
  have HS1 := Lib.hid hS1e
  have HT2 := Lib.hid hT2e
  have HS2 := Lib.hid hS2e
  clear hT1e hS1e hT2e hS2e
  have j1 : (n1 : Int) > 0 := by omega
  have j2 : (n2 : Int) > 0 := by omega
  have z1 : wrap64 ((T1 : Int) + 1) = (T1 : Int) + 1 := IntWalk.wrap64_in _ (by omega)
  have z2 : wrap64 ((T2 : Int) + 1) = (T2 : Int) + 1 := IntWalk.wrap64_in _ (by omega)
  have q2 : ¬ (T2 : Int) + 1 = (S2 : Int) := by omega
  have q2d : decide ((T2 : Int) + 1 = (S2 : Int)) = false := decide_eq_false q2
  have q1 : (T1 : Int) + 1 = (S1 : Int) := by omega
  have q1d : decide ((T1 : Int) + 1 = (S1 : Int)) = true := decide_eq_true q1
  have hcn : cmpN (val xs) (val ys) = 0 ∨ cmpN (val xs) (val ys) = 1 := by
    unfold cmpN
    rw [if_neg (by omega)]
    split
    · exact .inr rfl
    · exact .inl rfl
  obtain ⟨cv, hcv⟩ : ∃ cv, cv = cmpN (val xs) (val ys) := ⟨_, rfl⟩
  rw [← hcv] at hcn
  have Hcv := Lib.hid hcv
  have g1 : ¬ cv < 0 := by omega
  have g2 : decide (cv < 0) = false := decide_eq_false g1
  clear hcv hcn
  go_enter Tryz.func95, Tryz.ntmps95
  go_wp2_with fail
  refine (bgCmp_any a1 a2 n1 n2 c1 c2 xs ys _ h1 h2 f1 f2).mono ?_
  rintro e w1 ⟨rfl, W1⟩
  rw [← Hcv.out]
  have hA := h1.below W1
  have hB := h2.below W1
  have hT1 := hT.below W1
  go_wp2_with fail
  with_reducible refine (bgZeros_any a2 n2 c2 ys _ hB h0 (by omega) hT1).mono ?_
  rintro e w2 ⟨rfl, rfl⟩
  rw [← HT2.out]
  go_wp2_with fail
  with_reducible refine (bgBitLen_any a2 n2 c2 ys _ hB (by omega)).mono ?_
  rintro e w2 ⟨rfl, rfl⟩
  rw [← HS2.out]
  go_wp2_with fail
  with_reducible refine (bgZeros_any a1 n1 c1 xs _ hA hx (by omega) hT1).mono ?_
  rintro e w2 ⟨rfl, rfl⟩
  rw [← HT1.out]
  go_wp2_with fail
  with_reducible refine (bgBitLen_any a1 n1 c1 xs _ hA (by omega)).mono ?_
  rintro e w2 ⟨rfl, rfl⟩
  rw [← HS1.out]
  go_wp2_with fail
  have ho := bgOwn_one w1 1
  have hs := own_sl ho (ok_cons (by decide) ok_nil)
  have W2 := more W1 (.cells #[.int .u32 1] 46)
  have hT2 := hT1.alloc (.cells #[.int .u32 1] 46)
  with_reducible refine (bgZeros_any a1 n1 c1 xs _ (hA.alloc _) hx (by omega) hT2).mono ?_
  rintro e w2 ⟨rfl, rfl⟩
  rw [← HT1.out]
  go_wp2_with fail
  with_reducible refine (bgZeros_any a2 n2 c2 ys _ (hB.alloc _) h0 (by omega) hT2).mono ?_
  rintro e w2 ⟨rfl, rfl⟩
  rw [← HT2.out]
  go_wp2_with fail
  refine (bgUp_any _ 1 1 (min T1 T2) _ (by first | omega | (split <;> omega)) [1] _ hs (by decide) (by omega)).mono ?_
  rintro e w3 ⟨ao, k, c, rfl, hF, hb3⟩
  go_wp2
  go_ret
  have hv : val [1] * 2 ^ min T1 T2 = Nat.gcd (val xs) (val ys) := by
    rw [HG.out, HT1.out, HT2.out]
    simp [val]
  rw [hv] at hF
  exact ⟨_, _, _, rfl, hF.mono W2.size, next W2 hb3⟩

set_option maxRecDepth 100000 in
set_option maxHeartbeats 8000000 in
theorem bgCommon_zeroL (a1 a2 : Option Addr) (n1 n2 c1 c2 : Nat) (xs ys : List Nat) (w : World) (h1 : Sl w a1 n1 c1 xs) (h2 : Sl w a2 n2 c2 ys) (f1 : Fine xs) (f2 : Fine ys) (hn : n1 ≤ 67108864) (hm : n2 ≤ 67108864) (hT : Tab w) (hl : val ys < val xs) (h0 : val ys = 0) :
    Calls Tryz.prog 95 #[.slice a2 n2 c2, .slice a1 n1 c1] w (Wd 46 (Nat.gcd (val xs) (val ys)) w) := by
  obtain rfl : n2 = 0 := (fine_zero f2 h2.len).1 h0
  have HG : Hid (limbs (Nat.gcd (val xs) (val ys)) = xs) := Lib.hid (by rw [h0, Nat.gcd_zero_right, limbs_val f1])
  by_cases hx : val xs = 0
  · obtain rfl : n1 = 0 := (fine_zero f1 h1.len).1 hx
    have hcv := Lib.hid (cmpN_lt hl)
    have g2 : decide ((-1 : Int) < 0) = true := by decide
    have hl := Nat.le_of_lt hl
    go_enter Tryz.func95, Tryz.ntmps95
    go_wp2_with fail
    refine (bgCmp_any a2 a1 (0 : Nat) (0 : Nat) c2 c1 ys xs _ h2 h1 f2 f1).mono ?_
    rintro e w1 ⟨rfl, W1⟩
    rw [hcv.out]
    go_wp2_with fail
    go_loopw [0, 1] (fun av bv wr => av = .slice a1 (0 : Nat) c1 ∧ bv = .slice a2 (0 : Nat) c2 ∧ wr = w1) (fun _ _ _ => 0)
    case atStart => exact ⟨rfl, rfl, rfl⟩
    case round =>
      obtain ⟨rfl, rfl, rfl⟩ := hrel
      go_wp2_with fail
      refine (bgCopied_any a1 (0 : Nat) c1 xs _ (h1.below W1) (by omega)).mono ?_
      rintro e w3 ⟨g, rfl, ho, hb3⟩
      go_wp2
      go_ret
      have hF := fr_own ho (h1.below W1).ok (Nat.le_refl _) (Nat.le_refl _) (Nat.le_refl _)
      rw [List.take_of_length_le (by rw [(h1.below W1).len]; exact Nat.le_refl _)] at hF
      exact ⟨_, _, _, rfl, by rw [HG.out]; exact hF.mono W1.size, next W1 hb3⟩
  · have hn1 : 0 < n1 := Nat.pos_of_ne_zero fun hh => hx ((fine_zero f1 h1.len).2 hh)
    obtain ⟨b1, b2⟩ := tz_size f1 h1.len hn hx
    obtain ⟨T, hTe⟩ : ∃ T, T = tz (val xs) := ⟨_, rfl⟩
    obtain ⟨S, hSe⟩ : ∃ S, S = szN xs := ⟨_, rfl⟩
    rw [← hTe, ← hSe] at b1
    rw [← hSe] at b2
    have HTe := Lib.hid hTe
    have HSe := Lib.hid hSe
    clear hTe hSe
    have j1 : (n1 : Int) > 0 := by omega
    have z1 : wrap64 ((T : Int) + 1) = (T : Int) + 1 := IntWalk.wrap64_in _ (by omega)
    have hcv := Lib.hid (cmpN_lt hl)
    have g2 : decide ((-1 : Int) < 0) = true := by decide
    have hl := Nat.le_of_lt hl
    go_enter Tryz.func95, Tryz.ntmps95
    go_wp2_with fail
    refine (bgCmp_any a2 a1 (0 : Nat) n1 c2 c1 ys xs _ h2 h1 f2 f1).mono ?_
    rintro e w1 ⟨rfl, W1⟩
    rw [hcv.out]
    have hA := h1.below W1
    have hT1 := hT.below W1
    go_wp2_with fail
    refine (bgZeros_any a1 n1 c1 xs _ hA hx (by omega) hT1).mono ?_
    rintro e w2 ⟨rfl, rfl⟩
    rw [← HTe.out]
    go_wp2_with fail
    refine (bgBitLen_any a1 n1 c1 xs _ hA (by omega)).mono ?_
    rintro e w2 ⟨rfl, rfl⟩
    rw [← HSe.out]
    by_cases q2 : (T : Int) + 1 = (S : Int)
    · have q1 : decide ((T : Int) + 1 = (S : Int)) = true := decide_eq_true q2
      go_wp2_with fail
      go_loopw [0, 1] (fun av bv wr => av = .slice a1 n1 c1 ∧ bv = .slice a2 (0 : Nat) c2 ∧ wr = w1) (fun _ _ _ => 0)
      case atStart => exact ⟨rfl, rfl, rfl⟩
      case round =>
        obtain ⟨rfl, rfl, rfl⟩ := hrel
        go_wp2_with fail
        refine (bgCopied_any a1 n1 c1 xs _ (h1.below W1) (by omega)).mono ?_
        rintro e w3 ⟨g, rfl, ho, hb3⟩
        go_wp2
        go_ret
        have hF := fr_own ho (h1.below W1).ok (Nat.le_refl _) (Nat.le_refl _) (Nat.le_refl _)
        rw [List.take_of_length_le (by rw [(h1.below W1).len]; exact Nat.le_refl _)] at hF
        exact ⟨_, _, _, rfl, by rw [HG.out]; exact hF.mono W1.size, next W1 hb3⟩
    · have q1 : decide ((T : Int) + 1 = (S : Int)) = false := decide_eq_false q2
      go_wp2_with fail
      go_loopw [0, 1] (fun av bv wr => av = .slice a1 n1 c1 ∧ bv = .slice a2 (0 : Nat) c2 ∧ wr = w1) (fun _ _ _ => 0)
      case atStart => exact ⟨rfl, rfl, rfl⟩
      case round =>
        obtain ⟨rfl, rfl, rfl⟩ := hrel
        go_wp2_with fail
        refine (bgCopied_any a1 n1 c1 xs _ (h1.below W1) (by omega)).mono ?_
        rintro e w3 ⟨g, rfl, ho, hb3⟩
        go_wp2
        go_ret
        have hF := fr_own ho (h1.below W1).ok (Nat.le_refl _) (Nat.le_refl _) (Nat.le_refl _)
        rw [List.take_of_length_le (by rw [(h1.below W1).len]; exact Nat.le_refl _)] at hF
        exact ⟨_, _, _, rfl, by rw [HG.out]; exact hF.mono W1.size, next W1 hb3⟩

set_option maxRecDepth 100000 in
set_option maxHeartbeats 8000000 in
theorem bgCommon_twoL (a1 a2 : Option Addr) (n1 n2 c1 c2 : Nat) (xs ys : List Nat) (w : World) (h1 : Sl w a1 n1 c1 xs) (h2 : Sl w a2 n2 c2 ys) (f1 : Fine xs) (f2 : Fine ys) (hn : n1 ≤ 67108864) (hm : n2 ≤ 67108864) (hT : Tab w) (hl : val ys < val xs) (h0 : val ys ≠ 0) (hq2 : tz (val ys) + 1 = szN ys) :
    Calls Tryz.prog 95 #[.slice a2 n2 c2, .slice a1 n1 c1] w (Wd 46 (Nat.gcd (val xs) (val ys)) w) := by
  have hx : val xs ≠ 0 := fun hh => h0 (Nat.eq_zero_of_le_zero (hh ▸ (Nat.le_of_lt hl)))
  have HG := Lib.hid (gcd_two (A := val xs) (B := val ys) hx h0 (.inr (two_of_sz f2 h0 hq2)))
  have hn2 : 0 < n2 := Nat.pos_of_ne_zero fun hh => h0 ((fine_zero f2 h2.len).2 hh)
  have hn1 : 0 < n1 := Nat.pos_of_ne_zero fun hh => hx ((fine_zero f1 h1.len).2 hh)
  obtain ⟨b1, b2⟩ := tz_size f1 h1.len hn hx
  obtain ⟨b3, b4⟩ := tz_size f2 h2.len hm h0
  obtain ⟨T1, hT1e⟩ : ∃ T, T = tz (val xs) := ⟨_, rfl⟩
  obtain ⟨S1, hS1e⟩ : ∃ S, S = szN xs := ⟨_, rfl⟩
  obtain ⟨T2, hT2e⟩ : ∃ T, T = tz (val ys) := ⟨_, rfl⟩
  obtain ⟨S2, hS2e⟩ : ∃ S, S = szN ys := ⟨_, rfl⟩
  rw [← hT1e, ← hS1e] at b1
  rw [← hS1e] at b2
  rw [← hT2e, ← hS2e] at b3
  rw [← hS2e] at b4
  rw [← hT2e, ← hS2e] at hq2
  have HT1 := Lib.hid hT1e
  have HS1 := Lib.hid hS1e
  have HT2 := Lib.hid hT2e
  have HS2 := Lib.hid hS2e
  clear hT1e hS1e hT2e hS2e
  have j1 : (n1 : Int) > 0 := by omega
  have j2 : (n2 : Int) > 0 := by omega
  have z1 : wrap64 ((T1 : Int) + 1) = (T1 : Int) + 1 := IntWalk.wrap64_in _ (by omega)
  have z2 : wrap64 ((T2 : Int) + 1) = (T2 : Int) + 1 := IntWalk.wrap64_in _ (by omega)
  have q2 : (T2 : Int) + 1 = (S2 : Int) := by omega
  have q2d : decide ((T2 : Int) + 1 = (S2 : Int)) = true := decide_eq_true q2
  have hcv := Lib.hid (cmpN_lt hl)
  have g2 : decide ((-1 : Int) < 0) = true := by decide
  have hl := Nat.le_of_lt hl
  go_enter Tryz.func95, Tryz.ntmps95
  go_wp2_with fail
  refine (bgCmp_any a2 a1 n2 n1 c2 c1 ys xs _ h2 h1 f2 f1).mono ?_
  rintro e w1 ⟨rfl, W1⟩
  rw [hcv.out]
  have hA := h1.below W1
  have hB := h2.below W1
  have hT1 := hT.below W1
  go_wp2_with fail
  with_reducible refine (bgZeros_any a2 n2 c2 ys _ hB h0 (by omega) hT1).mono ?_
  rintro e w2 ⟨rfl, rfl⟩
  rw [← HT2.out]
  go_wp2_with fail
  with_reducible refine (bgBitLen_any a2 n2 c2 ys _ hB (by omega)).mono ?_
  rintro e w2 ⟨rfl, rfl⟩
  rw [← HS2.out]
  go_wp2_with fail
  have ho := bgOwn_one w1 1
  have hs := own_sl ho (ok_cons (by decide) ok_nil)
  have W2 := more W1 (.cells #[.int .u32 1] 46)
  have hT2 := hT1.alloc (.cells #[.int .u32 1] 46)
  with_reducible refine (bgZeros_any a1 n1 c1 xs _ (hA.alloc _) hx (by omega) hT2).mono ?_
  rintro e w2 ⟨rfl, rfl⟩
  rw [← HT1.out]
  go_wp2_with fail
  with_reducible refine (bgZeros_any a2 n2 c2 ys _ (hB.alloc _) h0 (by omega) hT2).mono ?_
  rintro e w2 ⟨rfl, rfl⟩
  rw [← HT2.out]
  go_wp2_with fail
  refine (bgUp_any _ 1 1 (min T1 T2) _ (by first | omega | (split <;> omega)) [1] _ hs (by decide) (by omega)).mono ?_
  rintro e w3 ⟨ao, k, c, rfl, hF, hb3⟩
  go_wp2
  go_ret
  have hv : val [1] * 2 ^ min T1 T2 = Nat.gcd (val xs) (val ys) := by
    rw [HG.out, HT1.out, HT2.out]
    simp [val]
  rw [hv] at hF
  exact ⟨_, _, _, rfl, hF.mono W2.size, next W2 hb3⟩

set_option maxRecDepth 100000 in
set_option maxHeartbeats 8000000 in
theorem bgCommon_oneL (a1 a2 : Option Addr) (n1 n2 c1 c2 : Nat) (xs ys : List Nat) (w : World) (h1 : Sl w a1 n1 c1 xs) (h2 : Sl w a2 n2 c2 ys) (f1 : Fine xs) (f2 : Fine ys) (hn : n1 ≤ 67108864) (hm : n2 ≤ 67108864) (hT : Tab w) (hl : val ys < val xs) (h0 : val ys ≠ 0) (hq2 : ¬ tz (val ys) + 1 = szN ys) (hq1 : tz (val xs) + 1 = szN xs) :
    Calls Tryz.prog 95 #[.slice a2 n2 c2, .slice a1 n1 c1] w (Wd 46 (Nat.gcd (val xs) (val ys)) w) := by
  have hx : val xs ≠ 0 := fun hh => h0 (Nat.eq_zero_of_le_zero (hh ▸ (Nat.le_of_lt hl)))
  have HG := Lib.hid (gcd_two (A := val xs) (B := val ys) hx h0 (.inl (two_of_sz f1 hx hq1)))
  have hn2 : 0 < n2 := Nat.pos_of_ne_zero fun hh => h0 ((fine_zero f2 h2.len).2 hh)
  have hn1 : 0 < n1 := Nat.pos_of_ne_zero fun hh => hx ((fine_zero f1 h1.len).2 hh)
  obtain ⟨b1, b2⟩ := tz_size f1 h1.len hn hx
  obtain ⟨b3, b4⟩ := tz_size f2 h2.len hm h0
  obtain ⟨T1, hT1e⟩ : ∃ T, T = tz (val xs) := ⟨_, rfl⟩
  obtain ⟨S1, hS1e⟩ : ∃ S, S = szN xs := ⟨_, rfl⟩
  obtain ⟨T2, hT2e⟩ : ∃ T, T = tz (val ys) := ⟨_, rfl⟩
  obtain ⟨S2, hS2e⟩ : ∃ S, S = szN ys := ⟨_, rfl⟩
  rw [← hT1e, ← hS1e] at b1
  rw [← hS1e] at b2
  rw [← hT2e, ← hS2e] at b3
  rw [← hS2e] at b4
  rw [← hT2e, ← hS2e] at hq2
  rw [← hT1e, ← hS1e] at hq1
  have HT1 := Lib.hid hT1e
  have HS1 := Lib.hid hS1e
  have HT2 := Lib.hid hT2e
  have HS2 := Lib.hid hS2e
  clear hT1e hS1e hT2e hS2e
  have j1 : (n1 : Int) > 0 := by omega
  have j2 : (n2 : Int) > 0 := by omega
  have z1 : wrap64 ((T1 : Int) + 1) = (T1 : Int) + 1 := IntWalk.wrap64_in _ (by omega)
  have z2 : wrap64 ((T2 : Int) + 1) = (T2 : Int) + 1 := IntWalk.wrap64_in _ (by omega)
  have q2 : ¬ (T2 : Int) + 1 = (S2 : Int) := by omega
  have q2d : decide ((T2 : Int) + 1 = (S2 : Int)) = false := decide_eq_false q2
  have q1 : (T1 : Int) + 1 = (S1 : Int) := by omega
  have q1d : decide ((T1 : Int) + 1 = (S1 : Int)) = true := decide_eq_true q1
  have hcv := Lib.hid (cmpN_lt hl)
  have g2 : decide ((-1 : Int) < 0) = true := by decide
  have hl := Nat.le_of_lt hl
  go_enter Tryz.func95, Tryz.ntmps95
  go_wp2_with fail
  refine (bgCmp_any a2 a1 n2 n1 c2 c1 ys xs _ h2 h1 f2 f1).mono ?_
  rintro e w1 ⟨rfl, W1⟩
  rw [hcv.out]
  have hA := h1.below W1
  have hB := h2.below W1
  have hT1 := hT.below W1
  go_wp2_with fail
  with_reducible refine (bgZeros_any a2 n2 c2 ys _ hB h0 (by omega) hT1).mono ?_
  rintro e w2 ⟨rfl, rfl⟩
  rw [← HT2.out]
  go_wp2_with fail
  with_reducible refine (bgBitLen_any a2 n2 c2 ys _ hB (by omega)).mono ?_
  rintro e w2 ⟨rfl, rfl⟩
  rw [← HS2.out]
  go_wp2_with fail
  with_reducible refine (bgZeros_any a1 n1 c1 xs _ hA hx (by omega) hT1).mono ?_
  rintro e w2 ⟨rfl, rfl⟩
  rw [← HT1.out]
  go_wp2_with fail
  with_reducible refine (bgBitLen_any a1 n1 c1 xs _ hA (by omega)).mono ?_
  rintro e w2 ⟨rfl, rfl⟩
  rw [← HS1.out]
  go_wp2_with fail
  have ho := bgOwn_one w1 1
  have hs := own_sl ho (ok_cons (by decide) ok_nil)
  have W2 := more W1 (.cells #[.int .u32 1] 46)
  have hT2 := hT1.alloc (.cells #[.int .u32 1] 46)
  with_reducible refine (bgZeros_any a1 n1 c1 xs _ (hA.alloc _) hx (by omega) hT2).mono ?_
  rintro e w2 ⟨rfl, rfl⟩
  rw [← HT1.out]
  go_wp2_with fail
  with_reducible refine (bgZeros_any a2 n2 c2 ys _ (hB.alloc _) h0 (by omega) hT2).mono ?_
  rintro e w2 ⟨rfl, rfl⟩
  rw [← HT2.out]
  go_wp2_with fail
  refine (bgUp_any _ 1 1 (min T1 T2) _ (by first | omega | (split <;> omega)) [1] _ hs (by decide) (by omega)).mono ?_
  rintro e w3 ⟨ao, k, c, rfl, hF, hb3⟩
  go_wp2
  go_ret
  have hv : val [1] * 2 ^ min T1 T2 = Nat.gcd (val xs) (val ys) := by
    rw [HG.out, HT1.out, HT2.out]
    simp [val]
  rw [hv] at hF
  exact ⟨_, _, _, rfl, hF.mono W2.size, next W2 hb3⟩

end Go.Proofs.YthemcdnlcgmimaaGreatDoor
