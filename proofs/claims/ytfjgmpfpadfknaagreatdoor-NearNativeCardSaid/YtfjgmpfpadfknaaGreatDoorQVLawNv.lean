/-
  The law numerallaw06.NearNative answers true, whatever it is asked, in whatever memory; what it is asked reads behind the call as it read before. One condition: the table math/bits.deBruijn32tab reads as it was laid.
-/
import Derived.Test.YtfjgmpfpadfknaaGreatDoorQNbBase
import Derived.Test.YtfjgmpfpadfknaaGreatDoorQVNearNv
import Derived.Test.YtfjgmpfpadfknaaGreatDoorQVRchL
namespace Go.Proofs.YtfjgmpfpadfknaaGreatDoor

open Go.RowKit Go.Lb

set_option maxRecDepth 100000 in
theorem double6_any (w : World) :
    Calls Tryz.prog 35 #[] w fun e w' => e = .returned (.agg #[.int .i64 11, .int .i64 52]) ∧ Below w.heap.size w w' := by
  go_enter Tryz.func35, Tryz.ntmps35
  go_wp2
  refine bodyPost_ret (v := .agg #[.int .i64 11, .int .i64 52]) (by simp [results, Tryz.results35, go_sem]) rfl ⟨rfl, more (Below.refl _ _) _⟩

theorem form_double : formE ((11 : Nat) : Int) ((52 : Nat) : Int) = 0 := by decide

theorem fits_double {a : Nat} (ha : a < 18446744073709551616) : fitsE ((11 : Nat) : Int) ((52 : Nat) : Int) a = 0 := fits_of form_double (by rw [pw_all]; exact ha)

/-- Two doubles compared by Cmp and by Go. -/
theorem native_cmp {a b : Nat} (ha : a < 18446744073709551616) (hb : b < 18446744073709551616) :
    ∃ (L Q G is : Bool) (cm : Int), (FloatKind.f64.format.order a b == some .lt) = L ∧ (FloatKind.f64.format.order a b == some .eq) = Q ∧ (FloatKind.f64.format.order a b == some .gt) = G ∧ cmV 11 52 a b = cm ∧ decide (stE 11 52 a b = 0) = is ∧
      ((is = false ∧ L = false ∧ Q = false ∧ G = false ∧ cm = 0) ∨ (is = true ∧ L = true ∧ Q = false ∧ G = false ∧ cm = -1) ∨ (is = true ∧ L = false ∧ Q = true ∧ G = false ∧ cm = 0) ∨ (is = true ∧ L = false ∧ Q = false ∧ G = true ∧ cm = 1)) := by
  have fa := fits_double ha
  have fb := fits_double hb
  have t0 : twoE 11 52 a b = 0 := by
    show (if fitsE ((11 : Nat) : Int) ((52 : Nat) : Int) a ≠ 0 then fitsE ((11 : Nat) : Int) ((52 : Nat) : Int) a else fitsE ((11 : Nat) : Int) ((52 : Nat) : Int) b) = 0
    rw [if_neg (fun h => h fa), fb]
  have hst : stE 11 52 a b = if (nanB 11 52 a || nanB 11 52 b) = true then 2 else 0 := by
    show (if twoE 11 52 a b ≠ 0 then twoE 11 52 a b else if (nanB 11 52 a || nanB 11 52 b) = true then 2 else 0) = _
    rw [if_neg (fun h => h t0)]
  refine ⟨_, _, _, _, _, rfl, rfl, rfl, rfl, rfl, ?_⟩
  by_cases hn : ifN 11 52 < mgN 11 52 a ∨ ifN 11 52 < mgN 11 52 b
  · left
    have h2 : (nanB 11 52 a || nanB 11 52 b) = true := by
      rw [nan_iff, nan_iff]
      rcases hn with h | h
      · rw [decide_eq_true h, Bool.true_or]
      · rw [decide_eq_true h, Bool.or_true]
    rw [if_pos h2] at hst
    rw [show FloatKind.f64.format.order a b = none from order_none hn, hst, show cmV 11 52 a b = 0 from if_neg (by rw [hst]; decide)]
    exact ⟨rfl, rfl, rfl, rfl, rfl⟩
  · right
    have ln1 : mgN 11 52 a ≤ ifN 11 52 := by omega
    have ln2 : mgN 11 52 b ≤ ifN 11 52 := by omega
    have h2 : (nanB 11 52 a || nanB 11 52 b) = false := by
      rw [nan_iff, nan_iff, decide_eq_false (by omega), decide_eq_false (by omega), Bool.or_false]
    rw [if_neg (by simp [h2])] at hst
    have hcm : cmV 11 52 a b = if plI 11 52 a < plI 11 52 b then -1 else if plI 11 52 b < plI 11 52 a then 1 else 0 := by
      have h3 : cmV 11 52 a b = if IntKind.i64.wrap (plN 11 52 a : Int) < IntKind.i64.wrap (plN 11 52 b : Int) then -1 else if IntKind.i64.wrap (plN 11 52 b : Int) < IntKind.i64.wrap (plN 11 52 a : Int) then 1 else 0 := if_pos hst
      rw [h3, pl_i64 form_double (by rw [pw_all]; exact ha), pl_i64 form_double (by rw [pw_all]; exact hb)]
    rw [cmp_words ln1 ln2, cmp_words ln1 ln2, cmp_words ln1 ln2, hst, hcm]
    unfold cmI
    generalize plI 11 52 a = x
    generalize plI 11 52 b = y
    rcases Int.lt_trichotomy x y with h | h | h
    · left
      rw [if_pos h, if_pos h]
      exact ⟨rfl, rfl, rfl, rfl, rfl⟩
    · right; left
      rw [if_neg (by omega), if_pos h, if_neg (by omega), if_neg (by omega)]
      exact ⟨rfl, rfl, rfl, rfl, rfl⟩
    · right; right
      rw [if_neg (by omega), if_neg (by omega), if_neg (by omega), if_pos h]
      exact ⟨rfl, rfl, rfl, rfl, rfl⟩

/-- Neighbours and Go's own. -/
theorem native_next {a : Nat} (ha : a < 18446744073709551616) (hn : mgN 11 52 a ≤ ifN 11 52) :
    hiE 11 52 a = (if plI 11 52 a = 9218868437227405312 then 60 else 0) ∧ loE 11 52 a = (if plI 11 52 a = -9218868437227405312 then 60 else 0) ∧
    (plI 11 52 a ≠ 9218868437227405312 → hiB 11 52 a = nuW a ∧ mgN 11 52 (nuW a) ≤ ifN 11 52) ∧ (plI 11 52 a ≠ -9218868437227405312 → loB 11 52 a = ndW a ∧ mgN 11 52 (ndW a) ≤ ifN 11 52) ∧ nuW a < 18446744073709551616 ∧ ndW a < 18446744073709551616 := by
  have hp : a < pw (1 + 11 + 52) := by rw [pw_all]; exact ha
  have fa := fits_double ha
  obtain ⟨f1, f2, f3, f4, f5⟩ := fl_bits hp
  have ff := fits_of form_double f1
  have hnn : nanB 11 52 a = false := by rw [nan_iff]; exact decide_eq_false (by omega)
  have hin : infB 11 52 a = decide (mgN 11 52 a = ifN 11 52) := inf_iff
  have e1 : hiE 11 52 a = if sgB 11 52 a = true ∧ mgN 11 52 a ≠ 0 then 0 else if infB 11 52 a = true then 60 else 0 := by
    show (if fitsE ((11 : Nat) : Int) ((52 : Nat) : Int) a ≠ 0 then _ else if nanB 11 52 a = true then _ else _) = _
    rw [if_neg (fun h => h fa), if_neg (by simp [hnn])]
    rfl
  have e2 : loE 11 52 a = if sgB 11 52 (flN 11 52 a) = true ∧ mgN 11 52 (flN 11 52 a) ≠ 0 then 0 else if infB 11 52 (flN 11 52 a) = true then 60 else 0 := by
    show (if fitsE ((11 : Nat) : Int) ((52 : Nat) : Int) a ≠ 0 then _ else hiE 11 52 (flN 11 52 a)) = _
    rw [if_neg (fun h => h fa)]
    show (if fitsE ((11 : Nat) : Int) ((52 : Nat) : Int) (flN 11 52 a) ≠ 0 then _ else if nanB 11 52 (flN 11 52 a) = true then _ else _) = _
    rw [if_neg (fun h => h ff), if_neg (by simp [f4, hnn])]
    rfl
  rw [f2, f3, f5, hin] at e2
  rw [hin] at e1
  have b1 : hiE 11 52 a = 0 → hiB 11 52 a = hiN 11 52 a := fun h => if_pos h
  have b2 : loE 11 52 a = 0 → loB 11 52 a = flN 11 52 (hiN 11 52 (flN 11 52 a)) := fun h => by
    have h3 : hiE 11 52 (flN 11 52 a) = 0 := by
      have : loE 11 52 a = hiE 11 52 (flN 11 52 a) := if_neg (by simp [show fitsE 11 52 a = 0 from fa])
      rw [← this]; exact h
    have h4 : loB 11 52 a = flN 11 52 (hiB 11 52 (flN 11 52 a)) := if_pos h
    rw [h4, show hiB 11 52 (flN 11 52 a) = hiN 11 52 (flN 11 52 a) from if_pos h3]
  unfold hiN at b1 b2
  rw [f2, f3] at b2
  obtain ⟨k1, k2⟩ := pl_word ha
  have hk : plI 11 52 a = if sgB 11 52 a = true then -(mgN 11 52 a : Int) else (mgN 11 52 a : Int) := rfl
  have mg : ∀ M (s : Bool), M ≤ 9218868437227405312 → mgN 11 52 (M + if s = true then 9223372036854775808 else 0) = M := fun M s h => by
    have := (sg_mk (e := 11) (f := 52) (M := M) (by rw [pw_double]; omega) s).2.2
    rw [pw_double] at this
    exact this
  unfold flN at b2
  rw [pw_double] at b1 b2
  rw [if_double] at hn e1 e2 ⊢
  unfold nuW ndW
  generalize plI 11 52 a = K at *
  generalize hM : mgN 11 52 a = M at *
  generalize sgB 11 52 a = s at *
  clear f1 f2 f3 f4 f5 ff fa hnn hin hp
  cases s
  · simp only [Bool.false_eq_true, if_false, false_and, Bool.not_false, true_and, Nat.add_zero] at hk k1 e1 e2 b1 b2 ⊢
    subst hk
    refine ⟨by rw [e1]; by_cases h : M = 9218868437227405312 <;> simp [h] <;> omega, by rw [e2]; rw [if_neg (show ¬ (M : Int) = -9218868437227405312 by omega)]; by_cases h : M = 0 <;> simp [h], ?_, ?_, ?_, ?_⟩
    · intro h
      have h0 : hiE 11 52 a = 0 := by rw [e1, if_neg]; simp; omega
      rw [b1 h0, if_neg h]
      by_cases hz : M = 0
      · rw [if_pos hz, hz]; exact ⟨rfl, by decide +kernel⟩
      · rw [if_neg hz]
        refine ⟨by omega, ?_⟩
        have := mg (M + 1) false (by omega)
        simp at this
        rw [k1, this]; omega
    · intro _
      have h0 : loE 11 52 a = 0 := by rw [e2]; by_cases hz : M = 0 <;> simp [hz]
      rw [b2 h0, if_neg (show ¬ (M : Int) = -9218868437227405312 by omega)]
      by_cases hz : M = 0
      · simp [hz]; decide +kernel
      · rw [if_pos hz, if_neg hz, if_pos (by omega)]
        refine ⟨by omega, ?_⟩
        have := mg (M - 1) false (by omega)
        simp at this
        rw [k1, this]; omega
    · split
      · omega
      · split <;> omega
    · split
      · omega
      · split <;> omega
  · simp only [if_true, true_and, Bool.not_true, Bool.false_eq_true, false_and, if_false] at hk k1 e1 e2 b1 b2 ⊢
    subst hk
    refine ⟨by rw [e1]; rw [if_neg (show ¬ -(M : Int) = 9218868437227405312 by omega)]; by_cases h : M = 0 <;> simp [h], by rw [e2]; by_cases h : M = 9218868437227405312 <;> simp [h] <;> omega, ?_, ?_, ?_, ?_⟩
    · intro _
      have h0 : hiE 11 52 a = 0 := by rw [e1]; by_cases hz : M = 0 <;> simp [hz]
      rw [b1 h0, if_neg (show ¬ -(M : Int) = 9218868437227405312 by omega)]
      by_cases hz : M = 0
      · simp [hz]; decide +kernel
      · rw [if_pos hz, if_neg hz]
        refine ⟨by omega, ?_⟩
        have := mg (M - 1) true (by omega)
        simp at this
        rw [show a - 1 = M - 1 + 9223372036854775808 by omega, this]; omega
    · intro h
      have h0 : loE 11 52 a = 0 := by rw [e2, if_neg]; simp; omega
      rw [b2 h0, if_neg h]
      by_cases hz : M = 0
      · simp [hz]; decide +kernel
      · rw [if_neg hz, if_neg (by omega)]
        refine ⟨by omega, ?_⟩
        have := mg (M + 1) true (by omega)
        simp at this
        rw [show a + 1 = M + 1 + 9223372036854775808 by omega, this]; omega
    · split
      · omega
      · split <;> omega
    · split
      · omega
      · split <;> omega

set_option maxRecDepth 100000 in
set_option maxHeartbeats 8000000 in
theorem nativeLaw_any (a b : Nat) (w : World) (ha : a < 18446744073709551616) (hb : b < 18446744073709551616) (hT : Tab w) :
    Calls Tryz.prog 8 #[.int .u64 (a : Int), .int .u64 (b : Int)] w fun en w' => en = .returned (.bool true) ∧ Below w.heap.size w w' := by
  have cA := awake6_any w hT
  have cD := fun W => double6_any W
  have cC := fun W => nearCmp_any 11 52 a b W ha hb
  have cU := fun W => nearUp_any 11 52 a W ha
  have cL := fun W => nearDown_any 11 52 a W ha
  have hfb := fb_run
  obtain ⟨L, Q, G, is, cm, hL, hQ, hG, hcm, his, hcase⟩ := native_cmp ha hb
  have h2 : twoE 11 52 a b = 0 := by
    show (if fitsE ((11 : Nat) : Int) ((52 : Nat) : Int) a ≠ 0 then fitsE ((11 : Nat) : Int) ((52 : Nat) : Int) a else fitsE ((11 : Nat) : Int) ((52 : Nat) : Int) b) = 0
    rw [if_neg (fun h => h (fits_double ha)), fits_double hb]
  rw [hcm, his, h2] at cC
  have HC := Lib.hid hcase
  clear hcase hcm his h2
  go_enter Tryz.func8, Tryz.ntmps8
  go_wp2_with fail
  refine cA.mono ?_
  rintro en w2 ⟨rfl, V⟩
  clear cA
  go_wp2_with fail
  refine (cD w2).mono ?_
  rintro en w3 ⟨rfl, hb3⟩
  replace V := next V hb3
  clear hb3
  go_wp2_with fail
  refine (cC w3).mono ?_
  rintro en w4 ⟨rfl, hb4⟩
  replace V := next V hb4
  clear hb4 cC
  go_upto_region 7 with fail
  go_cut [75] from 31 to 74 (fun v75 wx => v75 = .bool false ∧ wx = w4)
  case first =>
    rcases HC.out with ⟨rfl, rfl, rfl, rfl, rfl⟩ | ⟨rfl, rfl, rfl, rfl, rfl⟩ | ⟨rfl, rfl, rfl, rfl, rfl⟩ | ⟨rfl, rfl, rfl, rfl, rfl⟩
    all_goals
      clear HC
      go_wp2
      go_meet
      exact ⟨by simp, rfl⟩
  case rest =>
    obtain ⟨rfl, hw⟩ := hcut
    subst hw
    clear HC hL hQ hG
    go_wp2_with fail
    refine (cD wc).mono ?_
    rintro en w5 ⟨rfl, hb5⟩
    replace V := next V hb5
    clear hb5
    go_wp2_with fail
    refine (cU w5).mono ?_
    rintro en w6 ⟨rfl, hb6⟩
    replace V := next V hb6
    clear hb6 cU
    go_wp2_with fail
    refine (cD w6).mono ?_
    rintro en w7 ⟨rfl, hb7⟩
    replace V := next V hb7
    clear hb7 cD
    go_wp2_with fail
    refine (cL w7).mono ?_
    rintro en w8 ⟨rfl, hb8⟩
    replace V := next V hb8
    clear hb8 cL
    by_cases hn : mgN 11 52 a ≤ ifN 11 52
    rotate_left
    · have o : FloatKind.f64.format.order a a = none := order_none (.inl (by omega))
      have o2 : (FloatKind.f64.format.order a a != some .eq) = true := by rw [o]; rfl
      have hnb : nanB 11 52 a = true := by rw [nan_iff]; exact decide_eq_true (by omega)
      have e1 : hiE 11 52 a = 2 := by
        show (if fitsE ((11 : Nat) : Int) ((52 : Nat) : Int) a ≠ 0 then _ else if nanB 11 52 a = true then _ else _) = _
        rw [if_neg (fun h => h (fits_double ha)), if_pos hnb]
      have e2 : loE 11 52 a = 2 := by
        have hp : a < pw (1 + 11 + 52) := by rw [pw_all]; exact ha
        obtain ⟨f1, f2, f3, f4, f5⟩ := fl_bits hp
        show (if fitsE ((11 : Nat) : Int) ((52 : Nat) : Int) a ≠ 0 then _ else hiE 11 52 (flN 11 52 a)) = _
        rw [if_neg (fun h => h (fits_double ha))]
        show (if fitsE ((11 : Nat) : Int) ((52 : Nat) : Int) (flN 11 52 a) ≠ 0 then _ else if nanB 11 52 (flN 11 52 a) = true then _ else _) = _
        rw [if_neg (fun h => h (fits_of form_double f1)), if_pos (by rw [f4]; exact hnb)]
      rw [e1, e2]
      generalize hiB 11 52 a = U
      generalize loB 11 52 a = D
      clear o e1 e2 hnb hn
      go_wp2
      go_ret
      exact ⟨by simp, V⟩
    obtain ⟨e1, e2, e3, e4, l1, l2⟩ := native_next ha hn
    have o : (FloatKind.f64.format.order a a == some .eq) = true := by rw [cmp_words hn hn]; unfold cmI; simp
    have o2 : (FloatKind.f64.format.order a a != some .eq) = false := by unfold bne; rw [o]; rfl
    have cP := fun W => infP_any W
    have cQ := fun W => infN_any W
    have cX := fun W => nextUp_any a W ha hn
    have cY := fun W => nextDn_any a W ha hn
    have cI := fun W => isInf_any a false W ha hn
    have cJ := fun W => isInf_any a true W ha hn
    simp only [Bool.false_eq_true, if_false, if_true] at cI cJ
    have sU := fun W => signbit_any (nuW a) W l1
    have sD := fun W => signbit_any (ndW a) W l2
    rw [e1, e2]
    have wU : ∀ x, mgN 11 52 x ≤ ifN 11 52 → (FloatKind.f64.format.order x x != some .eq) = false := fun x hx => by
      unfold bne
      rw [cmp_words hx hx]
      unfold cmI
      simp
    clear o e1 e2
    by_cases hP : plI 11 52 a = 9218868437227405312
    · have hN : ¬ plI 11 52 a = -9218868437227405312 := by omega
      obtain ⟨d1, d2⟩ := e4 hN
      have wd := wU _ d2
      rw [d1, if_pos hP, if_neg hN]
      rw [decide_eq_true hP] at cI
      rw [decide_eq_false hN] at cJ
      generalize hiB 11 52 a = U at *
      generalize nuW a = u at *
      generalize ndW a = d at *
      have gd : decide ((9223372036854775808 : Int) ≤ (d : Int)) = decide (9223372036854775808 ≤ d) := decide_eq_decide.2 (by omega)
      clear e3 e4 hP hN d1 d2 wU hn
      go_wp2_with (first | (go_at_call 37; (with_reducible refine (cP _).mono ?_); rintro en wX ⟨rfl, rfl⟩) | (go_at_call 37; (with_reducible refine (cQ _).mono ?_); rintro en wX ⟨rfl, rfl⟩) | (go_at_call 36; (with_reducible refine (cX _).mono ?_); rintro en wX ⟨rfl, rfl⟩) | (go_at_call 36; (with_reducible refine (cY _).mono ?_); rintro en wX ⟨rfl, rfl⟩) | (go_at_call 38; (with_reducible refine (sU _).mono ?_); rintro en wX ⟨rfl, rfl⟩) | (go_at_call 38; (with_reducible refine (sD _).mono ?_); rintro en wX ⟨rfl, rfl⟩) | (go_at_call 39; (with_reducible refine (cI _).mono ?_); rintro en wX ⟨rfl, rfl⟩) | (go_at_call 39; (with_reducible refine (cJ _).mono ?_); rintro en wX ⟨rfl, rfl⟩))
      go_ret
      exact ⟨by simp, V⟩
    · by_cases hN : plI 11 52 a = -9218868437227405312
      · obtain ⟨d1, d2⟩ := e3 hP
        have wd := wU _ d2
        rw [d1, if_neg hP, if_pos hN]
        rw [decide_eq_false hP] at cI
        rw [decide_eq_true hN] at cJ
        generalize loB 11 52 a = U at *
        generalize nuW a = u at *
        generalize ndW a = d at *
        have gu : decide ((9223372036854775808 : Int) ≤ (u : Int)) = decide (9223372036854775808 ≤ u) := decide_eq_decide.2 (by omega)
        clear e3 e4 hP hN d1 d2 wU hn
        go_wp2_with (first | (go_at_call 37; (with_reducible refine (cP _).mono ?_); rintro en wX ⟨rfl, rfl⟩) | (go_at_call 37; (with_reducible refine (cQ _).mono ?_); rintro en wX ⟨rfl, rfl⟩) | (go_at_call 36; (with_reducible refine (cX _).mono ?_); rintro en wX ⟨rfl, rfl⟩) | (go_at_call 36; (with_reducible refine (cY _).mono ?_); rintro en wX ⟨rfl, rfl⟩) | (go_at_call 38; (with_reducible refine (sU _).mono ?_); rintro en wX ⟨rfl, rfl⟩) | (go_at_call 38; (with_reducible refine (sD _).mono ?_); rintro en wX ⟨rfl, rfl⟩) | (go_at_call 39; (with_reducible refine (cI _).mono ?_); rintro en wX ⟨rfl, rfl⟩) | (go_at_call 39; (with_reducible refine (cJ _).mono ?_); rintro en wX ⟨rfl, rfl⟩))
        go_ret
        exact ⟨by simp, V⟩
      · obtain ⟨d1, d2⟩ := e3 hP
        obtain ⟨d3, d4⟩ := e4 hN
        have wd := wU _ d2
        have wd2 := wU _ d4
        rw [d1, d3, if_neg hP, if_neg hN]
        rw [decide_eq_false hP] at cI
        rw [decide_eq_false hN] at cJ
        generalize nuW a = u at *
        generalize ndW a = d at *
        have gu : decide ((9223372036854775808 : Int) ≤ (u : Int)) = decide (9223372036854775808 ≤ u) := decide_eq_decide.2 (by omega)
        have gd : decide ((9223372036854775808 : Int) ≤ (d : Int)) = decide (9223372036854775808 ≤ d) := decide_eq_decide.2 (by omega)
        clear e3 e4 hP hN d1 d2 d3 d4 wU hn
        go_wp2_with (first | (go_at_call 37; (with_reducible refine (cP _).mono ?_); rintro en wX ⟨rfl, rfl⟩) | (go_at_call 37; (with_reducible refine (cQ _).mono ?_); rintro en wX ⟨rfl, rfl⟩) | (go_at_call 36; (with_reducible refine (cX _).mono ?_); rintro en wX ⟨rfl, rfl⟩) | (go_at_call 36; (with_reducible refine (cY _).mono ?_); rintro en wX ⟨rfl, rfl⟩) | (go_at_call 38; (with_reducible refine (sU _).mono ?_); rintro en wX ⟨rfl, rfl⟩) | (go_at_call 38; (with_reducible refine (sD _).mono ?_); rintro en wX ⟨rfl, rfl⟩) | (go_at_call 39; (with_reducible refine (cI _).mono ?_); rintro en wX ⟨rfl, rfl⟩) | (go_at_call 39; (with_reducible refine (cJ _).mono ?_); rintro en wX ⟨rfl, rfl⟩))
        go_ret
        exact ⟨by simp, V⟩

end Go.Proofs.YtfjgmpfpadfknaaGreatDoor

