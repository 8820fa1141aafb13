/-
  The law numerallaw06.NearMeets answers true, whatever it is asked, in whatever memory; what it is asked reads behind the call as it read before. One condition: the table math/bits.deBruijn32tab reads as it was laid.
-/
import Derived.Test.YtfjgmpfpadfknaaGreatDoorQNbBase
import Derived.Test.YtfjgmpfpadfknaaGreatDoorQMNearX
namespace Go.Proofs.YtfjgmpfpadfknaaGreatDoor

open Go.RowKit Go.Lb

attribute [local go_sem] Go.World.cell?_alloc_some

theorem jn_zero (e f : Nat) (s : Bool) : joinN e f s 0 0 = if s = true then pw (e + f) else 0 := by
  unfold joinN putN
  cases s <;> simp

theorem class_zero {e f b : Nat} (he : 2 ≤ e) : classN e (exN e f b) (frN f b) = 1 ↔ mgN e f b = 0 := by
  have hp := mg_parts e f b
  have hpw := pw_pos f
  have hmk : maskN e ≠ 0 := by
    unfold maskN
    have : 2 ^ 1 ≤ 2 ^ e := Nat.pow_le_pow_right (by decide) (by omega)
    omega
  unfold classN
  by_cases h0 : exN e f b = 0
  · rw [if_pos h0, hp, h0, Nat.zero_mul, Nat.zero_add]
    by_cases h1 : frN f b = 0
    · rw [if_pos h1]; simp [h1]
    · rw [if_neg h1]; simp [h1]
  · rw [if_neg h0]
    have hm : mgN e f b ≠ 0 := fun hh => by
      have : 0 < exN e f b * pw f := Nat.mul_pos (by omega) hpw
      omega
    refine ⟨fun h => ?_, fun h => absurd h hm⟩
    by_cases h1 : exN e f b = maskN e
    · rw [if_pos h1] at h
      by_cases h2 : frN f b = 0
      · rw [if_pos h2] at h; cases h
      · rw [if_neg h2] at h; cases h
    · rw [if_neg h1] at h; cases h

theorem class_four {e f b : Nat} (he : 2 ≤ e) : classN e (exN e f b) (frN f b) = 4 ↔ mgN e f b = ifN e f := by
  have h := class_inf (e := e) (f := f) (b := b) he
  rw [inf_iff] at h
  constructor
  · intro h1
    rw [h1] at h
    exact of_decide_eq_true (h.symm.trans rfl)
  · intro h1
    rw [decide_eq_true h1] at h
    have := beq_iff_eq.1 h
    omega

/-- The two floats and what they reach. -/
theorem meets_facts {E F b m : Nat} (hfit : fitsE (E : Int) (F : Int) b = 0) (hx : exN E F b ≠ maskN E) (hm : m < 5) :
    ∃ U : Nat, hiB (E : Int) (F : Int) b = U ∧ hiE (E : Int) (F : Int) b = 0 ∧ U < 18446744073709551616 ∧ fitsE (E : Int) (F : Int) U = 0 ∧
    (classN E (exN E F U) (frN F U) = 4 ∨
     (classN E (exN E F U) (frN F U) ≠ 4 ∧ classN E (exN E F U) (frN F U) ≠ 1 ∧ classN E (exN E F b) (frN F b) = 1 ∧ ∃ (D : Ds) (h l : Bool), h ≠ l ∧ ratB false (limbs (upN D.N D.x)) (limbs (upD D.x)) = true ∧
       (∀ W, Tab W → Calls Tryz.prog 11 #[.agg #[.int .i64 (E : Int), .int .i64 (F : Int)], .int .u64 0, .int .u8 (m : Int)] W (Hi false D h W)) ∧
       (∀ W, Tab W → Calls Tryz.prog 11 #[.agg #[.int .i64 (E : Int), .int .i64 (F : Int)], .int .u64 (U : Int), .int .u8 (m : Int)] W (Lo false D l W))) ∨
     (classN E (exN E F U) (frN F U) ≠ 4 ∧ classN E (exN E F b) (frN F b) ≠ 1 ∧ (classN E (exN E F U) (frN F U) = 1 → joinN E F true 0 0 = U) ∧ ∃ (s : Bool) (D : Ds) (h l : Bool), h ≠ l ∧ ratB s (limbs (upN D.N D.x)) (limbs (upD D.x)) = true ∧
       (∀ W, Tab W → Calls Tryz.prog 11 #[.agg #[.int .i64 (E : Int), .int .i64 (F : Int)], .int .u64 (b : Int), .int .u8 (m : Int)] W (Hi s D h W)) ∧
       (∀ W, Tab W → Calls Tryz.prog 11 #[.agg #[.int .i64 (E : Int), .int .i64 (F : Int)], .int .u64 (U : Int), .int .u8 (m : Int)] W (Lo s D l W)))) := by
  obtain ⟨hf, hb⟩ := fitsE_parts hfit
  replace hb : b < pw (1 + E + F) := hb
  obtain ⟨q1, q2, q3, q4⟩ := formE_ok hf
  have hP := (top63 hf).2
  have hpp : pw (1 + E + F) = 2 * pw (E + F) := pw_one_more E F
  have hi := if_lt hf
  have hm1 := fin_iff.1 hx
  have hnn : nanB E F b = false := by rw [nan_iff]; exact decide_eq_false (by omega)
  have hE : hiE (E : Int) (F : Int) b = 0 := by
    unfold hiE
    rw [if_neg (by simp [hfit]), if_neg (by show ¬ nanB E F b = true; rw [hnn]; simp)]
    by_cases hc : sgB E F b = true ∧ mgN E F b ≠ 0
    · exact if_pos hc
    · have hin : infB E F b = false := by rw [inf_iff]; exact decide_eq_false (by omega)
      exact (if_neg hc).trans (if_neg (by show ¬ infB E F b = true; rw [hin]; simp))
  have hB : hiB (E : Int) (F : Int) b = hiN E F b := if_pos hE
  have reach : ∀ a, fitsE (E : Int) (F : Int) a = 0 → mgN E F a < ifN E F → ∀ W, Tab W → Calls Tryz.prog 11 #[.agg #[.int .i64 (E : Int), .int .i64 (F : Int)], .int .u64 (a : Int), .int .u8 (m : Int)] W (RchG (sgB E F a) (rcI E F (mgN E F a) (seM m (sgB E F a))) (rcO E F (mgN E F a) (seM m (sgB E F a))) (rci (mgN E F a) (seM m (sgB E F a))) (rco (mgN E F a) (seM m (sgB E F a))) W) :=
    fun a h1 h2 W hT => nearReach_ok E F a m W h1 (fin_iff.2 h2) hm hT
  by_cases hc : sgB E F b = true ∧ mgN E F b ≠ 0
  · -- below nought
    have hN : hiN E F b = (mgN E F b - 1) + if true = true then pw (E + F) else 0 := by unfold hiN; rw [if_pos hc]; simp; omega
    obtain ⟨k1, k2, k3⟩ := sg_mk (e := E) (f := F) (M := mgN E F b - 1) (by omega) true
    rw [← hN] at k1 k2 k3
    have hfU := fits_of hf k1
    obtain ⟨m1, m2⟩ := rc_meet hf (m := mgN E F b - 1) (by omega) (seM m true)
    rw [show mgN E F b - 1 + 1 = mgN E F b by omega] at m1 m2
    refine ⟨_, hB, hE, by omega, hfU, .inr (.inr ⟨?_, ?_, ?_, decide ((rcI E F (mgN E F b) (seM m true)).N ≠ 0), rcI E F (mgN E F b) (seM m true), rci (mgN E F b) (seM m true), rco (mgN E F b - 1) (seM m true), fun h => m2 h.symm, ?_, ?_, ?_⟩)⟩
    · rw [Ne, class_four (by omega), k3]; omega
    · rw [Ne, class_zero (by omega)]; exact hc.2
    · rw [class_zero (by omega), k3]
      intro h0
      rw [jn_zero, hN, h0]
      simp
    · exact end_rat hf (by omega) (fin_iff.2 (by rw [mag_self (by omega)]; omega)) _ _ _ (.inl rfl) (fun h => of_decide_eq_true h)
    · intro W hT
      have := reach b hfit hm1 W hT
      rw [hc.1] at this
      exact this.mono fun _ _ h => rch_hi h
    · intro W hT
      have := reach _ hfU (by rw [k3]; omega) W hT
      rw [k2, k3, m1] at this
      exact this.mono fun _ _ h => rch_lo h
  · have hN : hiN E F b = (mgN E F b + 1) + if false = true then pw (E + F) else 0 := by unfold hiN; rw [if_neg hc]; simp
    obtain ⟨k1, k2, k3⟩ := sg_mk (e := E) (f := F) (M := mgN E F b + 1) (by omega) false
    rw [← hN] at k1 k2 k3
    have hfU := fits_of hf k1
    refine ⟨_, hB, hE, by omega, hfU, ?_⟩
    by_cases hinf : mgN E F b + 1 = ifN E F
    · left
      rw [class_four (by omega), k3]
      exact hinf
    · obtain ⟨m1, m2⟩ := rc_meet hf (m := mgN E F b) (by omega) (seM m false)
      have hr : ratB false (limbs (upN (rcO E F (mgN E F b) (seM m false)).N (rcO E F (mgN E F b) (seM m false)).x)) (limbs (upD (rcO E F (mgN E F b) (seM m false)).x)) = true := end_rat hf (by omega) (fin_iff.2 (by rw [mag_self (by omega)]; omega)) _ _ _ (.inr rfl) (fun h => by cases h)
      have hLo : ∀ W, Tab W → Calls Tryz.prog 11 #[.agg #[.int .i64 (E : Int), .int .i64 (F : Int)], .int .u64 ((hiN E F b : Nat) : Int), .int .u8 (m : Int)] W (Lo false (rcO E F (mgN E F b) (seM m false)) (rci (mgN E F b + 1) (seM m false)) W) := fun W hT => by
        have := reach _ hfU (by rw [k3]; omega) W hT
        rw [k2, k3, ← m1] at this
        exact this.mono fun _ _ h => rch_lo h
      by_cases hz : mgN E F b = 0
      · right; left
        refine ⟨by rw [Ne, class_four (by omega), k3]; omega, by rw [Ne, class_zero (by omega), k3]; omega, (class_zero (by omega)).2 hz, rcO E F (mgN E F b) (seM m false), rco (mgN E F b) (seM m false), rci (mgN E F b + 1) (seM m false), m2, hr, ?_, hLo⟩
        rw [hz]
        intro W hT
        have s0 : sgB E F 0 = false := by have := sg_mg E F 0; rwa [mag_self (pw_pos _)] at this
        have z0 : mgN E F 0 = 0 := mag_self (pw_pos _)
        have := reach 0 (fits_of hf (by omega)) (by rw [z0]; omega) W hT
        rw [s0, z0] at this
        exact this.mono fun _ _ h => rch_hi h
      · right; right
        have hs : sgB E F b = false := by
          cases hh : sgB E F b
          · rfl
          · exact absurd ⟨hh, hz⟩ hc
        refine ⟨by rw [Ne, class_four (by omega), k3]; omega, by rw [Ne, class_zero (by omega)]; exact hz, fun h => ?_, false, rcO E F (mgN E F b) (seM m false), rco (mgN E F b) (seM m false), rci (mgN E F b + 1) (seM m false), m2, hr, ?_, hLo⟩
        · rw [class_zero (by omega), k3] at h; omega
        · intro W hT
          have := reach b hfit hm1 W hT
          rw [hs] at this
          exact this.mono fun _ _ h => rch_hi h

/-- Reach of any finite float: some answer. -/
theorem reach_some {E F b m : Nat} (h : fitsE (E : Int) (F : Int) b = 0) (hx : exN E F b ≠ maskN E) (hm : m < 5) (W : World) (hT : Tab W) :
    Calls Tryz.prog 11 #[.agg #[.int .i64 (E : Int), .int .i64 (F : Int)], .int .u64 (b : Int), .int .u8 (m : Int)] W fun en w' => ∃ s D hh, Hi s D hh W en w' := by
  refine (nearReach_ok E F b m W h hx hm hT).mono fun en w' h => ?_
  unfold RchG at h
  split at h
  · exact ⟨_, _, _, rch_hi h⟩
  · exact ⟨_, _, _, rch_hi h⟩

set_option maxRecDepth 100000 in
set_option maxHeartbeats 8000000 in
theorem meetsLaw_any (e f : Int) (b m : Nat) (w : World) (hb : b < 18446744073709551616) (hm : m < 256) (hT : Tab w) :
    Calls Tryz.prog 5 #[.agg #[.int .i64 e, .int .i64 f], .int .u64 (b : Int), .int .u8 (m : Int)] w fun en w' => en = .returned (.bool true) ∧ Below w.heap.size w w' := by
  obtain ⟨W1, hW1⟩ : ∃ W1 : World, W1 = w.alloc (.cells #[.int .i64 e, .int .i64 f] 23) := ⟨_, rfl⟩
  have V : Below w.heap.size w W1 := hW1 ▸ more (Below.refl _ _) _
  have F0 : Box2 W1 w.heap.size (.int .i64 e) (.int .i64 f) := hW1 ▸ box2_new w _ _ _
  have cA := awake6_any W1 (hT.below V)
  by_cases h0 : rcE e f b m = 0
  · obtain ⟨E, F, rfl, rfl, hfit, hx, hm5⟩ := rc_ok h0
    obtain ⟨hf, hp⟩ := fitsE_parts hfit
    obtain ⟨U, u1, u2, u3, u4, cases3⟩ := meets_facts hfit hx hm5
    have cR := fun W hT => reach_some hfit hx hm5 W hT
    have cU := fun W => nearUp_any (E : Int) (F : Int) b W hb
    rw [u1, u2] at cU
    have cB := fun W => class_i (E : Int) (F : Int) b W hfit hb
    have cC := fun W => class_i (E : Int) (F : Int) U W u4 u3
    replace cB : ∀ W, Calls Tryz.prog 23 #[.agg #[.int .i64 (E : Int), .int .i64 (F : Int)], .int .u64 (b : Int)] W fun en w' => en = .returned (.tuple #[.int .u8 (classN E (exN E F b) (frN F b) : Int), .int .i64 0]) ∧ Below W.heap.size W w' := cB
    replace cC : ∀ W, Calls Tryz.prog 23 #[.agg #[.int .i64 (E : Int), .int .i64 (F : Int)], .int .u64 (U : Int)] W fun en w' => en = .returned (.tuple #[.int .u8 (classN E (exN E F U) (frN F U) : Int), .int .i64 0]) ∧ Below W.heap.size W w' := cC
    have cN := fun g W => formsNought_any E F g W hf
    have hj0 : joinN E F false 0 0 = 0 := by rw [jn_zero]; rfl
    generalize classN E (exN E F b) (frN F b) = kb at *
    generalize classN E (exN E F U) (frN F U) = kU at *
    have C3 : ∃ Qp : Bool → Ds → Bool → Prop, (∀ W, Tab W → Calls Tryz.prog 11 #[.agg #[.int .i64 (E : Int), .int .i64 (F : Int)], .int .u64 (b : Int), .int .u8 (m : Int)] W fun en w' => ∃ s1 D1 h1, Qp s1 D1 h1 ∧ Hi s1 D1 h1 W en w') ∧
        (kU = 4 ∨ kU ≠ 4 ∧ ∃ (s : Bool) (D : Ds) (h l : Bool), h ≠ l ∧ ratB s (limbs (upN D.N D.x)) (limbs (upD D.x)) = true ∧ (∀ W, Tab W → Calls Tryz.prog 11 #[.agg #[.int .i64 (E : Int), .int .i64 (F : Int)], .int .u64 (U : Int), .int .u8 (m : Int)] W (Lo s D l W)) ∧
          ((kU ≠ 1 ∧ kb = 1 ∧ ∀ W, Tab W → Calls Tryz.prog 11 #[.agg #[.int .i64 (E : Int), .int .i64 (F : Int)], .int .u64 0, .int .u8 (m : Int)] W (Hi s D h W)) ∨ (kb ≠ 1 ∧ (kU = 1 → joinN E F true 0 0 = U) ∧ ∀ s1 D1 h1, Qp s1 D1 h1 → s1 = s ∧ D1 = D ∧ h1 = h))) := by
      rcases cases3 with h | ⟨h1, h2, h3, D, h, l, h4, h5, h6, h7⟩ | ⟨h1, h2, h3, s, D, h, l, h4, h5, h6, h7⟩
      · exact ⟨fun _ _ _ => True, fun W hT => (cR W hT).mono fun _ _ ⟨s1, D1, h1, hh⟩ => ⟨s1, D1, h1, trivial, hh⟩, .inl h⟩
      · exact ⟨fun _ _ _ => True, fun W hT => (cR W hT).mono fun _ _ ⟨s1, D1, h1, hh⟩ => ⟨s1, D1, h1, trivial, hh⟩, .inr ⟨h1, false, D, h, l, h4, h5, h7, .inl ⟨h2, h3, h6⟩⟩⟩
      · exact ⟨fun s1 D1 h1 => s1 = s ∧ D1 = D ∧ h1 = h, fun W hT => (h6 W hT).mono fun _ _ hh => ⟨s, D, h, ⟨rfl, rfl, rfl⟩, hh⟩, .inr ⟨h1, s, D, h, l, h4, h5, h7, .inr ⟨h2, h3, fun _ _ _ q => q⟩⟩⟩
    obtain ⟨Qp, cQ, c3⟩ := C3
    have C4 := Lib.hid c3
    clear cR c3
    clear cases3 h0 u1 u2 u4 hfit hx hf hp hm5
    unfold Hi at cQ
    go_enter Tryz.func5, Tryz.ntmps5
    go_upto_region 1 with fail
    rw [← hW1]
    clear hW1
    go_wp2_with fail
    refine cA.mono ?_
    rintro en w2 ⟨rfl, hb2⟩
    replace V := next V hb2
    replace F0 := F0.stay hb2
    clear cA hb2
    have ⟨f0, f1⟩ := F0
    go_wp2_with fail
    refine (cQ w2 (hT.below V)).mono ?_
    rintro en w3 ⟨s1, D1, h1, hQ, a1, n1, c1, a2, n2, c2, t1, a3, n3, c3, a4, n4, c4, i1, rfl, S1, S2, hb3⟩
    replace S1 := S1.sl
    replace S2 := S2.sl
    have hq := Lib.hid hQ
    obtain ⟨W4, hW4⟩ : ∃ W4 : World, W4 = (w3.alloc (.cells #[.bool t1, .slice a3 n3 c3, .slice a4 n4 c4] 30)).alloc (.cells #[.bool s1, .slice a1 n1 c1, .slice a2 n2 c2] 30) := ⟨_, rfl⟩
    have hb4 : Below w3.heap.size w3 W4 := hW4 ▸ more (more (Below.refl _ _) _) _
    have B4 : Box3 W4 (w3.heap.size + 1) (.bool s1) (.slice a1 n1 c1) (.slice a2 n2 c2) := by
      have := box3_new (w3.alloc (.cells #[.bool t1, .slice a3 n3 c3, .slice a4 n4 c4] 30)) (.bool s1) (.slice a1 n1 c1) (.slice a2 n2 c2) 30
      rw [World.size_alloc] at this
      exact hW4 ▸ this
    have V4 := next (next V hb3) hb4
    have F4 := F0.stay (next hb3 hb4)
    replace S1 := S1.below hb4
    replace S2 := S2.below hb4
    have lF := F0.lt
    have l3 := hb3.size
    go_upto_region 7 with fail
    rw [← hW4]
    obtain ⟨P9, hP9⟩ : ∃ q, q = w3.heap.size + 1 := ⟨_, rfl⟩
    rw [← hP9] at B4 ⊢
    have l9 : w.heap.size < P9 := by omega
    clear hP9 hW4 hQ hb3 hb4 F0 f0 f1 V cQ
    have ⟨f0, f1⟩ := F4
    go_wp2_with fail
    refine (cU W4).mono ?_
    rintro en w5 ⟨rfl, hb5⟩
    have V5 := next V4 hb5
    have F5 := F4.stay hb5
    clear f0 f1
    have ⟨f0, f1⟩ := F5
    go_wp2_with fail
    refine (cB w5).mono ?_
    rintro en w6 ⟨rfl, hb6⟩
    have V6 := next V5 hb6
    have F6 := F5.stay hb6
    clear f0 f1
    have ⟨f0, f1⟩ := F6
    go_wp2_with fail
    refine (cC w6).mono ?_
    rintro en w7 ⟨rfl, hb7⟩
    have h57 := next (next hb5 hb6) hb7
    have V7 := next V6 hb7
    have F7 := F6.stay hb7
    have B7 := B4.stay h57
    replace S1 := S1.below h57
    replace S2 := S2.below h57
    clear f0 f1 V4 V5 V6 F4 F5 F6 B4 hb5 hb6 hb7 h57 cU cB cC
    rcases C4.out with hk | ⟨hk, s, D, h, l, hne, hr, hLo, hcase⟩
    · have hk4 : (kU : Int) = 4 := by omega
      clear C4
      go_wp2
      go_ret
      exact ⟨by simp, V7⟩
    · have hk4 : ¬ ((kU : Int) = 4) := by omega
      have CS := Lib.hid hcase
      have HR := Lib.hid hr
      have HN := Lib.hid hne
      unfold Lo at hLo
      clear C4 hcase hk hr hne
      have ⟨f0, f1⟩ := F7
      go_upto_if 70 with fail
      go_cut [12, 13] from 66 to 75 (fun v12 v13 wx => v12 = .int .i64 0 ∧ v13 = .int .u64 (U : Int) ∧ Below w7.heap.size w7 wx)
      case first => as_aux_lemma =>
        by_cases hk1 : kU = 1
        · have hj : joinN E F true 0 0 = U := by
            rcases CS.out with ⟨h1, _⟩ | ⟨_, h2, _⟩
            · exact absurd hk1 h1
            · exact h2 hk1
          have ck := cN true w7
          rw [hj] at ck
          have hk2 : ((kU : Int) = 1) = True := eq_true (by omega)
          have hk3 : ((kU : Int) == 1) = true := beq_iff_eq.2 (by omega)
          clear hj hk1 CS
          go_wp2_with fail
          refine ck.mono ?_
          rintro en w8 ⟨rfl, hb8⟩
          go_wp2
          go_meet
          exact ⟨rfl, rfl, hb8⟩
        · have hk2 : ¬ ((kU : Int) = 1) := by omega
          clear hk1 CS
          go_wp2
          go_meet
          exact ⟨rfl, rfl, Below.refl _ _⟩
      case rest => as_aux_lemma =>
        obtain ⟨rfl, rfl, hbc⟩ := hcut
        have VC := next V7 hbc
        have FC := F7.stay hbc
        have BC := B7.stay hbc
        replace S1 := S1.below hbc
        replace S2 := S2.below hbc
        clear V7 F7 B7 hbc f0 f1
        have ⟨f0, f1⟩ := FC
        go_upto_if 77 with fail
        go_cut [1, 11, 16] from 76 to 92 (fun _ v11 v16 wx => v16 = .int .i64 0 ∧ v11 = .bool h ∧ ∃ x1 k1 y1 x2 k2 y2, Box3 wx P9 (.bool s) (.slice x1 k1 y1) (.slice x2 k2 y2) ∧ Sl wx x1 k1 y1 (limbs (upN D.N D.x)) ∧ Sl wx x2 k2 y2 (limbs (upD D.x)) ∧ Box2 wx w.heap.size (.int .i64 (E : Int)) (.int .i64 (F : Int)) ∧ Below w.heap.size w wx)
        case first => as_aux_lemma =>
          rcases CS.out with ⟨_, hb1, hR0⟩ | ⟨hb1, _, hq1⟩
          · have hk2 : ((kb : Int) = 1) = True := eq_true (by omega)
            have hk3 : ((kb : Int) == 1) = true := beq_iff_eq.2 (by omega)
            have ck := cN false wc
            rw [hj0] at ck
            unfold Hi at hR0
            clear CS hb1
            go_wp2_with fail
            refine ck.mono ?_
            rintro en w8 ⟨rfl, hb8⟩
            have V8 := next VC hb8
            have F8 := FC.stay hb8
            have B8 := BC.stay hb8
            clear f0 f1
            have ⟨f0, f1⟩ := F8
            go_wp2_with fail
            refine (hR0 w8 (hT.below V8)).mono ?_
            rintro en w9 ⟨x1, k1, y1, x2, k2, y2, t2, z3, k3, y3, z4, k4, y4, i2, rfl, X1, X2, hb9⟩
            have V9 := next V8 hb9
            have F9 := F8.stay hb9
            have B9 := B8.stay hb9
            have ⟨r0, r1, r2, r3, r4, r5⟩ := B9
            have Y9 := box3_put B9 (.bool s) (.slice x1 k1 y1) (.slice x2 k2 y2)
            have l8 := B8.lt
            have X3 := (set3_fr (b := P9) X1 (fun hg => absurd (fr_in X1 hg).1 (by omega)) (.bool s) (.slice x1 k1 y1) (.slice x2 k2 y2)).sl
            have X4 := (set3_fr (b := P9) X2 (fun hg => absurd (fr_in X2 hg).1 (by omega)) (.bool s) (.slice x1 k1 y1) (.slice x2 k2 y2)).sl
            have F10 : Box2 (((w9.setCell ⟨P9, 0, none⟩ (.bool s)).setCell ⟨P9, 1, none⟩ (.slice x1 k1 y1)).setCell ⟨P9, 2, none⟩ (.slice x2 k2 y2)) w.heap.size (.int .i64 (E : Int)) (.int .i64 (F : Int)) :=
              ⟨(cell_set3 (by omega) _ _ _).trans F9.c0, (cell_set3 (by omega) _ _ _).trans F9.c1⟩
            have V10 : Below w.heap.size w (((w9.setCell ⟨P9, 0, none⟩ (.bool s)).setCell ⟨P9, 1, none⟩ (.slice x1 k1 y1)).setCell ⟨P9, 2, none⟩ (.slice x2 k2 y2)) := ((V9.setCell (by simp; omega) _).setCell (by simp; omega) _).setCell (by simp; omega) _
            clear hR0 V8 V9 F8 F9 B8 X1 X2
            go_wp2
            go_meet
            exact ⟨rfl, rfl, x1, k1, y1, x2, k2, y2, Y9, X3, X4, F10, V10⟩
          · have hk2 : ¬ ((kb : Int) = 1) := by omega
            obtain ⟨rfl, rfl, rfl⟩ := hq1 _ _ _ hq.out
            clear CS hb1 hq1
            go_wp2
            go_meet
            exact ⟨rfl, rfl, a1, n1, c1, a2, n2, c2, BC, S1, S2, FC, VC⟩
        case rest => as_aux_lemma =>
          obtain ⟨rfl, rfl, x1, k1, y1, x2, k2, y2, BD, X1, X2, FD, VD⟩ := hcut
          have hTD := hT.below VD
          clear f0 f1 VC FC BC S1 S2 CS hq cN hj0
          have ⟨f0, f1⟩ := FD
          have hcm := cmpQ_self (sgQ' s (upN D.N D.x) (upD D.x))
          go_wp2_with fail
          refine (hLo _ hTD).mono ?_
          rintro en we ⟨z1, k3, y3, z2, k4, y4, t2, v1, k5, y5, v2, k6, y6, o2, rfl, Z1, Z2, hbe⟩
          obtain ⟨Wf, hWf⟩ : ∃ Wf : World, Wf = (we.alloc (.cells #[.bool s, .slice z1 k3 y3, .slice z2 k4 y4] 30)).alloc (.cells #[.bool t2, .slice v1 k5 y5, .slice v2 k6 y6] 30) := ⟨_, rfl⟩
          have hbf : Below we.heap.size we Wf := hWf ▸ more (more (Below.refl _ _) _) _
          have Af : Box3 Wf we.heap.size (.bool s) (.slice z1 k3 y3) (.slice z2 k4 y4) := hWf ▸ (box3_new we _ _ _ _).alloc _
          have hbh := next hbe hbf
          have Bf := BD.stay hbh
          have J1 := (Z1.sl).below hbf
          have J2 := (Z2.sl).below hbf
          have K1 := X1.below hbh
          have K2 := X2.below hbh
          have Vf := next VD hbh
          have hTf := hT.below Vf
          go_upto_region 22 with fail
          rw [← hWf]
          obtain ⟨Pf, hPf⟩ : ∃ q, q = we.heap.size := ⟨_, rfl⟩
          rw [← hPf] at Af ⊢
          clear hPf hWf hbe hbf hbh BD FD X1 X2 Z1 Z2 VD hTD f0 f1 hLo
          have ⟨r0, r1, r2, _, _, _⟩ := Af
          have ⟨p0, p1, p2, _, _, _⟩ := Bf
          go_wp2_with fail
          refine (rtCmp_ok s s z1 z2 x1 x2 k3 k4 k1 k2 y3 y4 y1 y2 _ _ _ _ Wf J1 J2 K1 K2 hTf HR.out HR.out).mono ?_
          rw [val_limbs', val_limbs', hcm]
          rintro en wg ⟨rfl, hbg⟩
          have Vg := next Vf hbg
          go_wp2
          go_ret
          exact ⟨by simpa using HN.out, Vg⟩
  · have cR := fun W => nearReach_no e f b m W hb hm h0
    generalize rcE e f b m = T at *
    go_enter Tryz.func5, Tryz.ntmps5
    go_upto_region 1 with fail
    rw [← hW1]
    clear hW1
    go_wp2_with fail
    refine cA.mono ?_
    rintro en w2 ⟨rfl, hb2⟩
    replace V := next V hb2
    replace F0 := F0.stay hb2
    clear cA hb2
    have ⟨f0, f1⟩ := F0
    go_wp2_with fail
    refine (cR w2).mono ?_
    rintro en w3 ⟨rfl, hb3⟩
    have V3 := more (more (next V hb3) (.cells #[.bool false, .slice none 0 0, .slice none 0 0] 30)) (.cells #[.bool false, .slice none 0 0, .slice none 0 0] 30)
    go_wp2
    go_ret
    exact ⟨by simp, V3⟩

end Go.Proofs.YtfjgmpfpadfknaaGreatDoor

