/-
  Contract of numeral/round: to. Contracts of numeral/round: signed, near.
-/
import Derived.Test.YtpmncmglmobjoaaGreatDoorQbTRdA
import Derived.Outline
set_option maxHeartbeats 6000000
set_option maxRecDepth 100000
namespace Go.Proofs.YtpmncmglmobjoaaGreatDoor
open Go.RowKit Go.Lb
section
attribute [local go_sem ↓] Go.wp_at_zero Go.wp_at_succ
theorem bsN_wrap {e : Nat} (h : e ≤ 11) : wrap64 (wrap64 (2 ^ (e - 1)) - 1) = (bsN e : Int) := by unfold bsN; exact bias_fin ⟨e, by omega⟩
theorem bsN_le {e : Nat} (h : e ≤ 11) : bsN e ≤ 1023 := by
 have : 2 ^ (e - 1) ≤ 2 ^ 10 := Nat.pow_le_pow_right (by decide) (by omega)
 unfold bsN; omega
theorem inf_wrap {E F : Nat} (h1 : 2 ≤ E) (h2 : E ≤ 11) (h4 : F ≤ 52) : 1 ≤ infN E F ∧ infN E F ≤ 9223372036854775808 ∧ IntKind.u64.wrap (IntKind.u64.wrap (2 ^ (E + F)) - IntKind.u64.wrap (2 ^ F)) = (infN E F : Int) := by
 have e1 : 2 ^ F < 2 ^ (E + F) := Nat.pow_lt_pow_right (by decide) (by omega)
 have e2 : 2 ^ (E + F) ≤ 2 ^ 63 := Nat.pow_le_pow_right (by decide) (by omega)
 have c1 : (2 : Int) ^ (E + F) = ((2 ^ (E + F) : Nat) : Int) := by simp
 have c2 : (2 : Int) ^ F = ((2 ^ F : Nat) : Int) := by simp
 rw [c1, c2]
 unfold infN
 generalize 2 ^ (E + F) = P at *
 generalize 2 ^ F = Q at *
 have e3 : (2 : Nat) ^ 63 = 9223372036854775808 := by decide
 refine ⟨by omega, by omega, ?_⟩
 rw [IntKind.wrap_u64, IntKind.wrap_u64, IntKind.wrap_u64]
 omega
theorem sB_wrap {F sM q Bs : Nat} (h4 : F ≤ 52) (hM : sM ≤ 2 ^ (F + 1)) (hB : Bs ≤ 1023) (hq : q ≤ 2 * Bs) : sM + q * 2 ^ F < 18446744073709551616 ∧ IntKind.u64.wrap ((sM : Int) + IntKind.u64.wrap ((q : Int) * 2 ^ F)) = ((sM + q * 2 ^ F : Nat) : Int) := by
 have e1 : 2 ^ (F + 1) ≤ 2 ^ 53 := Nat.pow_le_pow_right (by decide) (by omega)
 have e2 : 2 ^ F ≤ 2 ^ 52 := Nat.pow_le_pow_right (by decide) (by omega)
 have e3 : q * 2 ^ F ≤ 2046 * 2 ^ 52 := Nat.mul_le_mul (by omega) e2
 have c1 : (q : Int) * 2 ^ F = ((q * 2 ^ F : Nat) : Int) := by simp
 rw [c1]
 generalize q * 2 ^ F = P at *
 have e4 : (2 : Nat) ^ 53 = 9007199254740992 := by decide
 have e5 : (2046 : Nat) * 2 ^ 52 = 9214364837600034816 := by decide
 refine ⟨by omega, ?_⟩
 rw [IntKind.wrap_u64, IntKind.wrap_u64]
 omega
def fl0 (E F N D : Nat) (neg : Bool) (m : Nat) : Nat := if sgX E F N D = true then 0 else if tiny E F N D neg m = true then 5 else 1
theorem rdTo_any (B1 B2 b1 b2 N D E F m : Nat) (neg : Bool) (w : World) (h1 : Iz 40 w B1 b1 (N : Int)) (h2 : Iz 40 w B2 b2 (D : Int)) (hN : N ≠ 0) (hD : D ≠ 0) (hm : m < 5) (l1 : ln N ≤ 65536) (l2 : ln D ≤ 65536) (hE2 : 2 ≤ E) (hE11 : E ≤ 11) (hF1 : 1 ≤ F) (hF52 : F ≤ 52) :
 Calls Tryz.prog 96 #[.agg #[.pointer (some ⟨b1, 0, none⟩), .pointer (some ⟨b2, 0, none⟩)], .agg #[.int .i64 (E : Int), .int .i64 (F : Int)], .bool neg, .int .u8 (m : Int)] w fun e w' => e = .returned (.tuple #[.int .u64 (flB E F N D neg m : Int), .int .u8 (flG E F N D neg m : Int)]) ∧ Below w.heap.size w w' := by
 obtain ⟨W2, hW2⟩ : ∃ W2 : World, W2 = (w.alloc (.cells #[.pointer (some ⟨b1, 0, none⟩), .pointer (some ⟨b2, 0, none⟩)] 92)).alloc (.cells #[.int .i64 (E : Int), .int .i64 (F : Int)] 23) := ⟨_, rfl⟩
 have hb2 : Below w.heap.size w W2 := hW2 ▸ more (more (Below.refl _ _) _) _
 have c0 : W2.cell? ⟨w.heap.size, 0, none⟩ = some (.pointer (some ⟨b1, 0, none⟩)) := by rw [hW2]; simp [World.cell?_alloc_some]
 have c1 : W2.cell? ⟨w.heap.size, 1, none⟩ = some (.pointer (some ⟨b2, 0, none⟩)) := by rw [hW2]; simp [World.cell?_alloc_some]
 have c2 : W2.cell? ⟨w.heap.size + 1, 0, none⟩ = some (.int .i64 (E : Int)) := by rw [hW2]; simp
 have c3 : W2.cell? ⟨w.heap.size + 1, 1, none⟩ = some (.int .i64 (F : Int)) := by rw [hW2]; simp
 have i1 := h1.stay hb2
 have i2 := h2.stay hb2
 have hLog := rdLog_any B1 B2 b1 b2 N D W2 i1 i2 (by omega) (by omega)
 have hBs := Lib.hid (bsN_wrap hE11)
 have hBl := bsN_le hE11
 have hF1' : (F : Int) ≤ 52 := by omega
 have m1 := bl_le N
 have m2 := bl_le D
 have heb : -2097153 ≤ lgE N D ∧ lgE N D ≤ 2097152 := by unfold lgE; split <;> omega
 have hlw : lwE E N D = max (lgE N D) (1 - (bsN E : Int)) := rfl
 have hlwb : -2097153 ≤ lwE E N D ∧ lwE E N D ≤ 2097152 := by rw [hlw]; omega
 have hlnN : ∀ k : Int, k ≤ 4194304 → ln (scN N k) ≤ 16777216 := fun k hk => by
  unfold scN
  exact Nat.le_trans (ln_shl N _) (by omega)
 have hT : ∀ W (k : Int), Below W2.heap.size W2 W → -4194304 ≤ k → k ≤ 4194304 → Calls Tryz.prog 147 #[.agg #[.pointer (some ⟨b1, 0, none⟩), .pointer (some ⟨b2, 0, none⟩)], .int .i64 k] W (TmP (scN N k) (scD D k) W) := fun W k hW hk1 hk2 =>
  rdTimes_any B1 B2 b1 b2 N D k W (i1.stay hW) (i2.stay hW) (by omega) (by omega) (by omega) (by omega)
 have hWh : ∀ W c1 c2 (k : Int), k ≤ 4194304 → Iz 40 W 0 c1 (scN N k : Int) → Iz 40 W 0 c2 (scD D k : Int) → Calls Tryz.prog 148 #[.pointer (some ⟨c1, 0, none⟩), .pointer (some ⟨c2, 0, none⟩), .bool neg, .int .u8 (m : Int)] W (WhP (scN N k) (scD D k) neg m W) := fun W c1 c2 k hk ha hb =>
  rdWhole_any 0 0 c1 c2 _ _ m neg W ha hb (Nat.ne_of_gt (scD_pos (Nat.pos_of_ne_zero hD) k)) hm (hlnN k hk)
 have hMle := sg_le (E := E) (F := F) hN hD neg m
 have hKb := sgK_bounds (F := F) hN hD neg m
 have hfl : Hid (fl0 E F N D neg m = if sgX E F N D = true then 0 else if decide (lgE N D < 1 - (bsN E : Int) ∧ (lgE N D < -(bsN E : Int) ∨ blN (sgK F N D neg m) ≤ F + 1)) = true then 5 else 1) := Lib.hid rfl
 have hflB : Hid (flB E F N D neg m = if decide ((bsN E : Int) < lwE E N D ∨ infN E F ≤ sgM E F N D neg m + (lwE E N D + bsN E - 1).toNat * 2 ^ F) = true then (if stayB neg m = true then infN E F - 1 else infN E F) else sgM E F N D neg m + (lwE E N D + bsN E - 1).toNat * 2 ^ F) := Lib.hid rfl
 have hflG : Hid (flG E F N D neg m = if decide ((bsN E : Int) < lwE E N D ∨ infN E F ≤ sgM E F N D neg m + (lwE E N D + bsN E - 1).toNat * 2 ^ F) = true then 3 else fl0 E F N D neg m) := Lib.hid rfl
 obtain ⟨sM, hsM⟩ : ∃ x, x = sgM E F N D neg m := ⟨_, rfl⟩
 obtain ⟨sX, hsX⟩ : ∃ x, x = sgX E F N D := ⟨_, rfl⟩
 obtain ⟨sK, hsK⟩ : ∃ x, x = sgK F N D neg m := ⟨_, rfl⟩
 have HsM := Lib.hid hsM
 have HsX := Lib.hid hsX
 have HsK := Lib.hid hsK
 rw [← hsM] at hMle hflB hflG
 rw [← hsX] at hfl
 rw [← hsK] at hKb hfl
 clear hsM hsX hsK m1 m2 i1 i2 h1 h2 l1 l2 hlnN
 obtain ⟨e, he⟩ : ∃ e, e = lgE N D := ⟨_, rfl⟩
 obtain ⟨low, hlow⟩ : ∃ low, low = lwE E N D := ⟨_, rfl⟩
 have HE := Lib.hid he
 have HLOW := Lib.hid hlow
 rw [← he] at hLog heb hlw hfl
 rw [← hlow] at hlw hlwb hflB hflG
 clear he hlow
 have hlw' : max e (1 - (bsN E : Int)) = low := hlw.symm
 have HLW := Lib.hid hlw
 clear hlw
 have HM52 : Hid (∀ k : Nat, 2 ^ (F + 1) ≤ 2 ^ 53) := Lib.hid (fun _ => Nat.pow_le_pow_right (by decide) (by omega))
 obtain ⟨e1, e2⟩ := heb
 obtain ⟨w1', w2'⟩ := hlwb
 go_enter Tryz.func96, Tryz.ntmps96
 go_wp2_with fail
 rw [← hW2, hBs.out]
 have hBl2 := hBl
 generalize bsN E = Bs at *
 clear hW2 hBs
 refine hLog.mono ?_
 rintro en w3 ⟨rfl, hb3⟩
 have d0 := cellStay c0 hb3
 have d1 := cellStay c1 hb3
 have d2 := cellStay c2 hb3
 have d3 := cellStay c3 hb3
 have hx1 : exB (scN N ((F : Int) - low)) (scD D ((F : Int) - low)) = sX := by rw [HsX.out, HLOW.out]; rfl
 have hm1 : rdN (scN N ((F : Int) - low)) (scD D ((F : Int) - low)) neg m = sM := by rw [HsM.out, HLOW.out]; rfl
 have hk1 : rdN (scN N ((F : Int) - e)) (scD D ((F : Int) - e)) neg m = sK := by rw [HsK.out, HE.out]; rfl
 have HX1 := Lib.hid hx1
 have HM1 := Lib.hid hm1
 have HK1 := Lib.hid hk1
 clear hx1 hm1 hk1
 go_wp2_with fail
 refine (hT w3 _ hb3 (by omega) (by omega)).mono ?_
 rintro en w4 ⟨p1, p2, rfl, j1, j2, hb4⟩
 have V4 := next hb3 hb4
 have f0 := cellStay d0 hb4
 have f1 := cellStay d1 hb4
 have f2 := cellStay d2 hb4
 have f3 := cellStay d3 hb4
 have hW4 := hWh w4 p1 p2 _ (by omega) j1 j2
 unfold WhP at hW4
 rw [HX1.out, HM1.out] at hW4
 go_wp2_with fail
 refine hW4.mono ?_
 rintro en w5 ⟨cm, rfl, jm, hb5⟩
 have V5 := next V4 hb5
 have g0 := cellStay f0 hb5
 have g1 := cellStay f1 hb5
 have g2 := cellStay f2 hb5
 have g3 := cellStay f3 hb5
 obtain ⟨fl, hfl2⟩ : ∃ fl, fl = fl0 E F N D neg m := ⟨_, rfl⟩
 rw [← hfl2] at hfl hflG
 clear hfl2 j1 j2 hb4 V4 f0 f1 f2 f3 d0 d1 d2 d3 c0 c1 c2 c3 hb3 hW4 hLog
 go_upto_if 51 with fail
 go_cut [17] from 52 to 86 (fun fv wx => fv = .int .u8 (fl : Int) ∧ Below w5.heap.size w5 wx)
 case first =>
  have hw1 : IntKind.i64.wrap (-(Bs : Int)) = -(Bs : Int) := IntWalk.i64_in _ (by omega)
  have hw2 : IntKind.i64.wrap ((F : Int) + 1) = (F : Int) + 1 := IntWalk.i64_in _ (by omega)
  cases sX
  · by_cases hlt : e < 1 - (Bs : Int)
    · have hT2 := hT w5 ((F : Int) - e) V5 (by omega) (by omega)
      go_wp2_with fail
      refine hT2.mono ?_
      rintro en w6 ⟨p3, p4, rfl, j3, j4, hb6⟩
      have hW6 := hWh w6 p3 p4 _ (by omega) j3 j4
      unfold WhP at hW6
      rw [HK1.out] at hW6
      have f3 := cellStay g3 hb6
      go_wp2_with fail
      refine hW6.mono ?_
      rintro en w7 ⟨ck, rfl, jk, hb7⟩
      have d3 := cellStay f3 hb7
      have V7 := next hb6 hb7
      have hBK : ∀ W, Below w7.heap.size w7 W → Calls Tryz.prog 49 #[.pointer (some ⟨ck, 0, none⟩)] W fun e w' => e = .returned (.int .i64 (blN sK : Int)) ∧ W = w' := fun W hW => by
       have := bgBitLenZ_any ck _ _ W (jk.stay hW) (by rw [Int.natAbs_natCast]; exact Nat.le_trans (ln_mono hKb.2) (Nat.le_trans (ln_two (F + 1)) (by omega)))
       rwa [Int.natAbs_natCast] at this
      clear hT2 hW6 j3 j4 jk hb6 hb7 f3 g0 g1 g2
      by_cases hlt2 : e < -(Bs : Int)
      · have hfl3 : Hid ((fl : Int) = 5) := Lib.hid (by rw [hfl.out, if_neg (by decide), if_pos (decide_eq_true ⟨hlt, .inl hlt2⟩)]; rfl)
        have hdt : decide (e < -(Bs : Int)) = true := decide_eq_true hlt2
        go_wp2
        go_quiet (fail)
        go_wp2
        go_meet
        exact ⟨by rw [hfl3.out] <;> rfl, drewn V7 _⟩
      · have hdf : decide (e < -(Bs : Int)) = false := decide_eq_false hlt2
        by_cases hbk : blN sK ≤ F + 1
        · have hfl3 : Hid ((fl : Int) = 5) := Lib.hid (by rw [hfl.out, if_neg (by decide), if_pos (decide_eq_true ⟨hlt, .inr hbk⟩)]; rfl)
          have hbk2 : (blN sK : Int) ≤ (F : Int) + 1 := by omega
          go_wp2
          first
           | (go_region_held3 (fun w' => w'.cell? ⟨w.heap.size + 1, 1, none⟩ = some (.int .i64 (F : Int)))
                  ((go_keep; done))
                  ((go_at_call 49; (with_reducible refine (hBK _ ?_).mono ?_); (exact (Below.refl _ _).drew); rintro en wB ⟨rfl, rfl⟩)))
           | fail "no"
          all_goals
           go_wp2
           go_meet
           exact ⟨by rw [hfl3.out] <;> rfl, V7.drew⟩
        · have hfl3 : Hid ((fl : Int) = 1) := Lib.hid (by rw [hfl.out, if_neg (by decide), if_neg (by rw [decide_eq_true_iff]; rintro ⟨_, h | h⟩; exact hlt2 h; exact hbk h)]; rfl)
          have hbk2 : ¬ (blN sK : Int) ≤ (F : Int) + 1 := by omega
          go_wp2
          first
           | (go_region_held3 (fun w' => w'.cell? ⟨w.heap.size + 1, 1, none⟩ = some (.int .i64 (F : Int)))
                  ((go_keep; done))
                  ((go_at_call 49; (with_reducible refine (hBK _ ?_).mono ?_); (exact (Below.refl _ _).drew); rintro en wB ⟨rfl, rfl⟩)))
           | fail "no"
          all_goals
           go_wp2
           go_meet
           exact ⟨by rw [hfl3.out] <;> rfl, V7.drew⟩
    · have hfl3 : Hid ((fl : Int) = 1) := Lib.hid (by rw [hfl.out, if_neg (by decide), if_neg (by rw [decide_eq_true_iff]; rintro ⟨h, _⟩; exact hlt h)]; rfl)
      go_wp2
      go_meet
      exact ⟨by rw [hfl3.out] <;> rfl, Below.refl _ _⟩
  · have hfl3 : Hid ((fl : Int) = 0) := Lib.hid (by rw [hfl.out, if_pos rfl]; rfl)
    go_wp2
    go_meet
    exact ⟨by rw [hfl3.out] <;> rfl, Below.refl _ _⟩
 case rest =>
  obtain ⟨rfl, hbx⟩ := hcut
  have gg2 := cellStay g2 hbx
  have gg3 := cellStay g3 hbx
  have jmx := jm.stay hbx
  have V6 := next V5 hbx
  have hM53 : sM ≤ 9007199254740992 := Nat.le_trans hMle (Nat.le_trans (Nat.pow_le_pow_right (by decide) (show F + 1 ≤ 53 by omega)) (by decide))
  have hU : ∀ W, Below wc.heap.size wc W → Calls Tryz.prog 149 #[.pointer (some ⟨cm, 0, none⟩)] W fun e w' => e = .returned (.int .u64 (sM : Int)) ∧ W = w' := fun W hW => bgUint64_any _ cm sM W (jmx.stay hW) (by omega)
  obtain ⟨q, hq⟩ : ∃ q : Nat, low + Bs - 1 = (q : Int) := ⟨(low + Bs - 1).toNat, by have := HLW.out; omega⟩
  have hql : q ≤ 4194304 := by omega
  have hw1 : IntKind.i64.wrap (low + (Bs : Int)) = low + (Bs : Int) := IntWalk.i64_in _ (by omega)
  have hw2 : IntKind.i64.wrap (low + (Bs : Int) - 1) = (q : Int) := by rw [hq]; exact IntWalk.i64_in _ (by omega)
  have hw3 : IntKind.u64.wrap (q : Int) = (q : Int) := by rw [IntKind.wrap_u64]; omega
  have hw4 : IntKind.i64.wrap ((E : Int) + (F : Int)) = (E : Int) + (F : Int) := IntWalk.i64_in _ (by omega)
  have hEF : ((E : Int) + (F : Int)).toNat = E + F := by omega
  have HQ := Lib.hid hq
  clear hT hWh hb5 jm g0 g1 g2 g3 hbx V5 hq hM53 jmx
  go_wp2
  go_region_held3 (fun w' => w'.cell? ⟨w.heap.size + 1, 1, none⟩ = some (.int .i64 (F : Int)))
   ((go_keep; done))
   ((go_at_call 149; (with_reducible refine (hU _ ?_).mono ?_); (exact (Below.refl _ _).drew); rintro en wB ⟨rfl, rfl⟩))
  go_wp2
  go_region_held3 (fun w' => w'.cell? ⟨w.heap.size + 1, 0, none⟩ = some (.int .i64 (E : Int)) ∧ w'.cell? ⟨w.heap.size + 1, 1, none⟩ = some (.int .i64 (F : Int)))
   ((go_keep; done))
   (fail)
  have hI := inf_wrap hE2 hE11 hF52
  obtain ⟨hI1, hI2, hI3⟩ := hI
  rw [hI3]
  have V7 : Below w.heap.size w wc.drew.drew := next hb2 V6.drew.drew
  have HI4 : Hid (((infN E F - 1 : Nat) : Int) = (infN E F : Int) - 1) := Lib.hid (by omega)
  by_cases hov : (Bs : Int) < low
  · have hD1 : decide ((Bs : Int) < low ∨ infN E F ≤ sM + (low + Bs - 1).toNat * 2 ^ F) = true := decide_eq_true (.inl hov)
    rw [hD1, if_pos rfl] at hflB hflG
    have hg3 : Hid ((flG E F N D neg m : Int) = 3) := Lib.hid (by rw [hflG.out]; rfl)
    generalize IntKind.u64.wrap ((sM : Int) + IntKind.u64.wrap ((q : Int) * 2 ^ F)) = bv
    generalize infN E F = I at *
    have hov2 : low > (Bs : Int) := hov
    clear hD1 hMle hI3 hflG
    rcases m with _ | _ | _ | _ | _ | m
    · cases neg
      · have hb : Hid ((flB E F N D false 0 : Int) = ((I : Nat) : Int)) := Lib.hid (by rw [hflB.out]; rfl)
        go_wp2
        go_ret2
        exact ⟨by rw [hb.out, hg3.out]; rfl, V7⟩
      · have hb : Hid ((flB E F N D true 0 : Int) = ((I : Nat) : Int)) := Lib.hid (by rw [hflB.out]; rfl)
        go_wp2
        go_ret2
        exact ⟨by rw [hb.out, hg3.out]; rfl, V7⟩
    · cases neg
      · have hb : Hid ((flB E F N D false 1 : Int) = ((I : Nat) : Int)) := Lib.hid (by rw [hflB.out]; rfl)
        go_wp2
        go_ret2
        exact ⟨by rw [hb.out, hg3.out]; rfl, V7⟩
      · have hb : Hid ((flB E F N D true 1 : Int) = ((I : Nat) : Int)) := Lib.hid (by rw [hflB.out]; rfl)
        go_wp2
        go_ret2
        exact ⟨by rw [hb.out, hg3.out]; rfl, V7⟩
    · cases neg
      · have hb : Hid ((flB E F N D false 2 : Int) = ((I - 1 : Nat) : Int)) := Lib.hid (by rw [hflB.out]; rfl)
        go_wp2
        go_ret2
        exact ⟨by rw [hb.out, hg3.out, HI4.out]; rfl, V7⟩
      · have hb : Hid ((flB E F N D true 2 : Int) = ((I - 1 : Nat) : Int)) := Lib.hid (by rw [hflB.out]; rfl)
        go_wp2
        go_ret2
        exact ⟨by rw [hb.out, hg3.out, HI4.out]; rfl, V7⟩
    · cases neg
      · have hb : Hid ((flB E F N D false 3 : Int) = ((I : Nat) : Int)) := Lib.hid (by rw [hflB.out]; rfl)
        go_wp2
        go_ret2
        exact ⟨by rw [hb.out, hg3.out]; rfl, V7⟩
      · have hb : Hid ((flB E F N D true 3 : Int) = ((I - 1 : Nat) : Int)) := Lib.hid (by rw [hflB.out]; rfl)
        go_wp2
        go_ret2
        exact ⟨by rw [hb.out, hg3.out, HI4.out]; rfl, V7⟩
    · cases neg
      · have hb : Hid ((flB E F N D false 4 : Int) = ((I - 1 : Nat) : Int)) := Lib.hid (by rw [hflB.out]; rfl)
        go_wp2
        go_ret2
        exact ⟨by rw [hb.out, hg3.out, HI4.out]; rfl, V7⟩
      · have hb : Hid ((flB E F N D true 4 : Int) = ((I : Nat) : Int)) := Lib.hid (by rw [hflB.out]; rfl)
        go_wp2
        go_ret2
        exact ⟨by rw [hb.out, hg3.out]; rfl, V7⟩
    · omega
  · have hqe : (low + (Bs : Int) - 1).toNat = q := by rw [HQ.out]; omega
    rw [hqe] at hflB hflG
    have hsB := sB_wrap (sM := sM) (q := q) hF52 hMle hBl2 (by have := HQ.out; omega)
    obtain ⟨hs1, hs2⟩ := hsB
    rw [hs2]
    generalize sM + q * 2 ^ F = sB at *
    generalize infN E F = I at *
    have hov2 : ¬ low > (Bs : Int) := hov
    by_cases hin : I ≤ sB
    · have hD1 : decide ((Bs : Int) < low ∨ I ≤ sB) = true := decide_eq_true (.inr hin)
      rw [hD1, if_pos rfl] at hflB hflG
      have hg3 : Hid ((flG E F N D neg m : Int) = 3) := Lib.hid (by rw [hflG.out]; rfl)
      have hin2 : (sB : Int) ≥ (I : Int) := by omega
      clear hD1 hMle hI3 hflG hs2
      rcases m with _ | _ | _ | _ | _ | m
      · cases neg
        · have hb : Hid ((flB E F N D false 0 : Int) = ((I : Nat) : Int)) := Lib.hid (by rw [hflB.out]; rfl)
          go_wp2
          go_ret2
          exact ⟨by rw [hb.out, hg3.out]; rfl, V7⟩
        · have hb : Hid ((flB E F N D true 0 : Int) = ((I : Nat) : Int)) := Lib.hid (by rw [hflB.out]; rfl)
          go_wp2
          go_ret2
          exact ⟨by rw [hb.out, hg3.out]; rfl, V7⟩
      · cases neg
        · have hb : Hid ((flB E F N D false 1 : Int) = ((I : Nat) : Int)) := Lib.hid (by rw [hflB.out]; rfl)
          go_wp2
          go_ret2
          exact ⟨by rw [hb.out, hg3.out]; rfl, V7⟩
        · have hb : Hid ((flB E F N D true 1 : Int) = ((I : Nat) : Int)) := Lib.hid (by rw [hflB.out]; rfl)
          go_wp2
          go_ret2
          exact ⟨by rw [hb.out, hg3.out]; rfl, V7⟩
      · cases neg
        · have hb : Hid ((flB E F N D false 2 : Int) = ((I - 1 : Nat) : Int)) := Lib.hid (by rw [hflB.out]; rfl)
          go_wp2
          go_ret2
          exact ⟨by rw [hb.out, hg3.out, HI4.out]; rfl, V7⟩
        · have hb : Hid ((flB E F N D true 2 : Int) = ((I - 1 : Nat) : Int)) := Lib.hid (by rw [hflB.out]; rfl)
          go_wp2
          go_ret2
          exact ⟨by rw [hb.out, hg3.out, HI4.out]; rfl, V7⟩
      · cases neg
        · have hb : Hid ((flB E F N D false 3 : Int) = ((I : Nat) : Int)) := Lib.hid (by rw [hflB.out]; rfl)
          go_wp2
          go_ret2
          exact ⟨by rw [hb.out, hg3.out]; rfl, V7⟩
        · have hb : Hid ((flB E F N D true 3 : Int) = ((I - 1 : Nat) : Int)) := Lib.hid (by rw [hflB.out]; rfl)
          go_wp2
          go_ret2
          exact ⟨by rw [hb.out, hg3.out, HI4.out]; rfl, V7⟩
      · cases neg
        · have hb : Hid ((flB E F N D false 4 : Int) = ((I - 1 : Nat) : Int)) := Lib.hid (by rw [hflB.out]; rfl)
          go_wp2
          go_ret2
          exact ⟨by rw [hb.out, hg3.out, HI4.out]; rfl, V7⟩
        · have hb : Hid ((flB E F N D true 4 : Int) = ((I : Nat) : Int)) := Lib.hid (by rw [hflB.out]; rfl)
          go_wp2
          go_ret2
          exact ⟨by rw [hb.out, hg3.out]; rfl, V7⟩
      · omega
    · have hD1 : decide ((Bs : Int) < low ∨ I ≤ sB) = false := decide_eq_false (by rintro (h | h); exact hov h; exact hin h)
      rw [hD1, if_neg (by decide)] at hflB hflG
      have hin2 : ¬ (sB : Int) ≥ (I : Int) := by omega
      clear hD1 hMle hI3 hs2
      go_wp2
      go_ret2
      exact ⟨by rw [hflB.out, hflG.out]; rfl, V7⟩
end
section
attribute [local go_sem ↓] Go.wp_at_zero Go.wp_at_succ
theorem flB_le (E F N D : Nat) (neg : Bool) (m : Nat) : flB E F N D neg m ≤ infN E F := by
 by_cases h : ovB E F N D neg m = true
 · unfold flB
   rw [if_pos h]
   split <;> omega
 · unfold flB
   rw [if_neg h]
   unfold ovB at h
   rw [decide_eq_true_iff] at h
   omega
def sgBits (E F N D : Nat) (below neg : Bool) (m : Nat) : Nat :=
 if N = 0 then (if neg = true then 2 ^ (E + F) else 0) else if below = true then flB E F N D below m + 2 ^ (E + F) else flB E F N D below m
def sgFlags (E F N D : Nat) (below : Bool) (m : Nat) : Nat := if N = 0 then 0 else flG E F N D below m
theorem or_sign {b E F : Nat} (h1 : 2 ≤ E) (h2 : E ≤ 11) (h4 : F ≤ 52) (hb : b ≤ infN E F) : IntKind.u64.wrap (2 ^ (E + F)) = ((2 ^ (E + F) : Nat) : Int) ∧ bits BinOp.or IntKind.u64 (b : Int) ((2 ^ (E + F) : Nat) : Int) = ((b + 2 ^ (E + F) : Nat) : Int) := by
 have e1 : 2 ^ F < 2 ^ (E + F) := Nat.pow_lt_pow_right (by decide) (by omega)
 have e2 : 2 ^ (E + F) ≤ 2 ^ 63 := Nat.pow_le_pow_right (by decide) (by omega)
 have e3 : (2 : Nat) ^ 63 = 9223372036854775808 := by decide
 have e4 := Nat.two_pow_pos F
 have hlt : b < 2 ^ (E + F) := by unfold infN at hb; omega
 have c1 : (2 : Int) ^ (E + F) = ((2 ^ (E + F) : Nat) : Int) := by simp
 refine ⟨by rw [c1, IntKind.wrap_u64]; omega, ?_⟩
 rw [u64_or_nat _ _ (by omega) (by omega), Nat.or_comm, nat_join (E + F) _ _ (Nat.mod_self _) hlt, Nat.add_comm]
theorem rdSigned_any (B1 B2 b1 b2 N D E F m : Nat) (below neg : Bool) (w : World) (h1 : Iz 40 w B1 b1 (N : Int)) (h2 : Iz 40 w B2 b2 (D : Int)) (hD : D ≠ 0) (hm : m < 5) (l1 : ln N ≤ 65536) (l2 : ln D ≤ 65536) (hE2 : 2 ≤ E) (hE11 : E ≤ 11) (hF1 : 1 ≤ F) (hF52 : F ≤ 52) :
 Calls Tryz.prog 53 #[.agg #[.int .i64 (E : Int), .int .i64 (F : Int)], .agg #[.pointer (some ⟨b1, 0, none⟩), .pointer (some ⟨b2, 0, none⟩)], .bool below, .bool neg, .int .u8 (m : Int)] w fun e w' => e = .returned (.tuple #[.int .u64 (sgBits E F N D below neg m : Int), .int .u8 (sgFlags E F N D below m : Int), .int .i64 0]) ∧ Below w.heap.size w w' := by
 obtain ⟨W2, hW2⟩ : ∃ W2 : World, W2 = (w.alloc (.cells #[.int .i64 (E : Int), .int .i64 (F : Int)] 23)).alloc (.cells #[.pointer (some ⟨b1, 0, none⟩), .pointer (some ⟨b2, 0, none⟩)] 92) := ⟨_, rfl⟩
 have hb2 : Below w.heap.size w W2 := hW2 ▸ more (more (Below.refl _ _) _) _
 have c0 : W2.cell? ⟨w.heap.size, 0, none⟩ = some (.int .i64 (E : Int)) := by rw [hW2]; simp [World.cell?_alloc_some]
 have c1 : W2.cell? ⟨w.heap.size, 1, none⟩ = some (.int .i64 (F : Int)) := by rw [hW2]; simp [World.cell?_alloc_some]
 have c2 : W2.cell? ⟨w.heap.size + 1, 0, none⟩ = some (.pointer (some ⟨b1, 0, none⟩)) := by rw [hW2]; simp
 have c3 : W2.cell? ⟨w.heap.size + 1, 1, none⟩ = some (.pointer (some ⟨b2, 0, none⟩)) := by rw [hW2]; simp
 have i1 := h1.stay hb2
 have i2 := h2.stay hb2
 have hSg := bgSignZ_any b1 B1 (N : Int) W2 i1
 have hEF : ((E : Int) + (F : Int)).toNat = E + F := by omega
 have hfb := flB_le E F N D below m
 have hb64 : flB E F N D below m < 18446744073709551616 := by
  have e2 : 2 ^ (E + F) ≤ 2 ^ 63 := Nat.pow_le_pow_right (by decide) (by omega)
  have e3 : (2 : Nat) ^ 63 = 9223372036854775808 := by decide
  have e4 := Nat.two_pow_pos F
  unfold infN at hfb
  omega
 obtain ⟨o1, o2⟩ := or_sign hE2 hE11 hF52 hfb
 rw [show ((2 ^ (E + F) : Nat) : Int) = (2 : Int) ^ (E + F) by simp] at o1 o2
 obtain ⟨S, hS⟩ : ∃ S, S = flB E F N D below m + 2 ^ (E + F) := ⟨_, rfl⟩
 rw [← hS] at o2
 by_cases hN : N = 0
 · have hb0 : Hid (sgBits E F N D below neg m = if neg = true then 2 ^ (E + F) else 0) := Lib.hid (by unfold sgBits; rw [if_pos hN])
   have hf0 : Hid ((sgFlags E F N D below m : Int) = 0) := Lib.hid (by unfold sgFlags; rw [if_pos hN]; rfl)
   subst hN
   clear h1 h2 i1 i2 l1 l2 o2 hfb hb64 hS
   cases neg
   · go_enter Tryz.func53, Tryz.ntmps53
     go_wp2_with fail
     rw [← hW2]
     clear hW2
     refine hSg.mono ?_
     rintro en w3 ⟨rfl, rfl⟩
     go_wp2
     go_ret3
     exact ⟨by rw [hb0.out, hf0.out]; rfl, hb2⟩
   · go_enter Tryz.func53, Tryz.ntmps53
     go_wp2_with fail
     rw [← hW2]
     clear hW2
     refine hSg.mono ?_
     rintro en w3 ⟨rfl, rfl⟩
     go_wp2
     go_ret3
     exact ⟨by rw [hb0.out, hf0.out]; rfl, hb2⟩
 · have hb0 : Hid (sgBits E F N D below neg m = if below = true then S else flB E F N D below m) := Lib.hid (by unfold sgBits; rw [if_neg hN, hS])
   have hf0 : Hid (sgFlags E F N D below m = flG E F N D below m) := Lib.hid (by unfold sgFlags; rw [if_neg hN])
   have hTo := rdTo_any B1 B2 b1 b2 N D E F m below W2 i1 i2 hN hD hm l1 l2 hE2 hE11 hF1 hF52
   have hsg : (N : Int).sign = 1 := Int.sign_eq_one_of_pos (by omega)
   rw [hsg] at hSg
   generalize hbb : flB E F N D below m = bb at *
   generalize flG E F N D below m = gg at *
   clear h1 h2 i1 i2 l1 l2 hN hfb hbb hsg hS
   cases below
   · go_enter Tryz.func53, Tryz.ntmps53
     go_wp2_with fail
     rw [← hW2]
     clear hW2
     refine hSg.mono ?_
     rintro en w3 ⟨rfl, rfl⟩
     go_wp2_with fail
     refine hTo.mono ?_
     rintro en w4 ⟨rfl, hb4⟩
     go_wp2
     go_ret3
     exact ⟨by rw [hb0.out, hf0.out]; rfl, next hb2 hb4⟩
   · go_enter Tryz.func53, Tryz.ntmps53
     go_wp2_with fail
     rw [← hW2]
     clear hW2
     refine hSg.mono ?_
     rintro en w3 ⟨rfl, rfl⟩
     go_wp2_with fail
     refine hTo.mono ?_
     rintro en w4 ⟨rfl, hb4⟩
     go_wp2
     go_ret3
     exact ⟨by rw [hb0.out, hf0.out]; rfl, next hb2 hb4⟩
def nearZ (n : Int) (b : Nat) : Int := max (-(b : Int) - 1200) (min n ((b : Int) + 1200))
theorem rdNear_any (n : Int) (b : Nat) (w : World) (hb : b ≤ 1048576) :
 Calls Tryz.prog 48 #[.int .i64 n, .int .i64 (b : Int)] w fun e w' => e = .returned (.int .i64 (nearZ n b)) ∧ w = w' := by
 have hz : Hid (nearZ n b = max (-(b : Int) - 1200) (min n ((b : Int) + 1200))) := Lib.hid rfl
 go_enter Tryz.func48, Tryz.ntmps48
 go_wp2
 go_ret
 exact ⟨by rw [hz.out]; rfl, rfl⟩
end
def sgQ' (s : Bool) (N D : Nat) : Rat := mkRat (if s = true then -(N : Int) else (N : Int)) D
theorem mk_low {s : Bool} {N D : Nat} (hD : D ≠ 0) (hG : Nat.gcd N D = 1) (hs : s = true → N ≠ 0) : (sgQ' s N D).num.natAbs = N ∧ (sgQ' s N D).den = D ∧ decide ((sgQ' s N D).num < 0) = s := by
 have hz : (if s = true then -(N : Int) else (N : Int)).natAbs = N := by cases s <;> simp
 obtain ⟨e1, e2, e3⟩ := mk_parts (if s = true then -(N : Int) else (N : Int)) hD
 rw [hz, hG, Nat.div_one] at e1 e2
 refine ⟨e1, e2, Eq.trans e3 ?_⟩
 cases s
 · exact decide_eq_false (by simp)
 · have := hs rfl
   exact decide_eq_true (by simp; omega)
def upN (M : Nat) (X : Int) : Nat := M * 2 ^ X.toNat
def upD (X : Int) : Nat := 2 ^ (-X).toNat
theorem upD_pos (X : Int) : upD X ≠ 0 := Nat.ne_of_gt (Nat.two_pow_pos _)
theorem upN_ne {M : Nat} (h : M ≠ 0) (X : Int) : upN M X ≠ 0 := Nat.mul_ne_zero h (Nat.ne_of_gt (Nat.two_pow_pos _))
theorem inf_eq {E : Nat} (hE : 2 ≤ E) (F : Nat) : infN E F = (2 * bsN E + 1) * 2 ^ F := by
 unfold infN bsN
 have h1 : 2 ^ E = 2 * 2 ^ (E - 1) := by
  rw [show 2 * 2 ^ (E - 1) = 2 ^ (E - 1) * 2 by omega, ← Nat.pow_succ]
  congr 1
  omega
 have := Nat.two_pow_pos (E - 1)
 rw [Nat.pow_add, h1, show 2 * (2 ^ (E - 1) - 1) + 1 = 2 * 2 ^ (E - 1) - 1 by omega, Nat.sub_mul, Nat.one_mul]
end Go.Proofs.YtpmncmglmobjoaaGreatDoor
