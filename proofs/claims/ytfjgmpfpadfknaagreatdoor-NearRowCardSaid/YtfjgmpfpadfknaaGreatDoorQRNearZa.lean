/-
  The reference's Steps, Cmp, Order (numeralref06). (Printed by wip/gen/nearzz.py.)
-/
import Derived.Test.YtfjgmpfpadfknaaGreatDoorQNbBase
import Derived.Test.YtfjgmpfpadfknaaGreatDoorQRNearZ
namespace Go.Proofs.YtfjgmpfpadfknaaGreatDoor

open Go.RowKit Go.Lb

attribute [local go_sem] Go.World.cell?_alloc_some

theorem cls_nan {e f b : Nat} (he : 2 ≤ e) (h : nanB e f b = true) : classN e (exN e f b) (frN f b) = 5 := by
  have := class_nan (e := e) (f := f) (b := b) he
  rw [h] at this
  have := beq_iff_eq.1 this
  omega

theorem cls_num {e f b : Nat} (he : 2 ≤ e) (h : nanB e f b = false) : ((classN e (exN e f b) (frN f b) : Int) == 5) = false := (class_nan he).trans h

set_option maxRecDepth 100000 in
set_option maxHeartbeats 2000000 in
theorem rsteps6_any (e f : Int) (a b : Nat) (w : World) (ha : a < 18446744073709551616) (hb : b < 18446744073709551616) :
    Calls Tryz.prog 31 #[.agg #[.int .i64 e, .int .i64 f], .int .u64 (a : Int), .int .u64 (b : Int)] w fun en w' => en = .returned (.tuple #[.bool (stB e f a b), .int .u64 (stN e f a b), .int .i64 (stE e f a b)]) ∧ Below w.heap.size w w' := by
  obtain ⟨W1, hW1⟩ : ∃ W1 : World, W1 = w.alloc (.cells #[.int .i64 e, .int .i64 f] 23) := ⟨_, rfl⟩
  have V : Below w.heap.size w W1 := hW1 ▸ more (Below.refl _ _) _
  have F0 : Box2 W1 w.heap.size (.int .i64 e) (.int .i64 f) := hW1 ▸ box2_new w _ _ _
  have cT := fun W => two6_any e f a b W ha hb
  have ⟨f0, f1⟩ := F0
  by_cases h0 : twoE e f a b = 0
  · obtain ⟨p1, p2⟩ := twoE_ok h0
    obtain ⟨hf, l1⟩ := fitsE_parts p1
    obtain ⟨_, l2⟩ := fitsE_parts p2
    obtain ⟨q1, q2, q3, q4⟩ := formE_ok hf
    obtain ⟨E, rfl⟩ := Int.eq_ofNat_of_zero_le (by omega : 0 ≤ e)
    obtain ⟨F, rfl⟩ := Int.eq_ofNat_of_zero_le (by omega : 0 ≤ f)
    replace l1 : a < pw (1 + E + F) := l1
    replace l2 : b < pw (1 + E + F) := l2
    have cA := fun W => class6_any E F a W hf ha l1
    have cB := fun W => class6_any E F b W hf hb l2
    have cD := fun W => steps6_any E F a b W hf l1 l2
    rw [h0] at cT
    cases na : nanB E F a
    · have ka := cls_num (e := E) (f := F) (b := a) (by omega) na
      cases nb : nanB E F b
      · have kb := cls_num (e := E) (f := F) (b := b) (by omega) nb
        have hs : stE (E : Int) (F : Int) a b = 0 := st_ok.2 ⟨hf, l1, l2, na, nb⟩
        rw [show stB (E : Int) (F : Int) a b = stD E F a b from if_pos hs, show stN (E : Int) (F : Int) a b = stI E F a b from if_pos hs, hs]
        generalize stD E F a b = D at *
        generalize stI E F a b = I at *
        clear na nb hs h0 p1 p2 hf l1 l2 q1 q2 q3 q4
        generalize classN E (exN E F a) (frN F a) = va at *
        generalize classN E (exN E F b) (frN F b) = vb at *
        go_enter Tryz.func31, Tryz.ntmps31
        go_upto_region 1 with fail
        rw [← hW1]
        clear hW1
        go_wp2_with fail
        refine (cT W1).mono ?_
        rintro en w2 ⟨rfl, hb2⟩
        have V2 := next V hb2
        have F2 := F0.stay hb2
        clear f0 f1 F0 V hb2
        have ⟨f0, f1⟩ := F2
        go_wp2_with fail
        refine (cA w2).mono ?_
        rintro en w3 ⟨rfl, hb3⟩
        have V3 := next V2 hb3
        have F3 := F2.stay hb3
        clear f0 f1
        have ⟨f0, f1⟩ := F3
        go_wp2_with fail
        refine (cB w3).mono ?_
        rintro en w4 ⟨rfl, hb4⟩
        have V4 := next V3 hb4
        have F4 := F3.stay hb4
        clear f0 f1
        have ⟨f0, f1⟩ := F4
        go_wp2_with fail
        refine (cD w4).mono ?_
        rintro en w5 ⟨rfl, hb5⟩
        have V5 := next V4 hb5
        go_wp2
        go_ret3
        exact ⟨rfl, V5⟩
      · have kb := cls_nan (e := E) (f := F) (b := b) (by omega) nb
        have hs : stE (E : Int) (F : Int) a b = 2 := by unfold stE; rw [if_neg (by simp [h0])]; exact if_pos (by show (nanB E F a || nanB E F b) = true; exact (by rw [na, nb]; rfl))
        have hs0 : ¬ stE (E : Int) (F : Int) a b = 0 := by rw [hs]; decide
        rw [show stB (E : Int) (F : Int) a b = false from if_neg hs0, show stN (E : Int) (F : Int) a b = 0 from if_neg hs0, hs]
        clear hs hs0
        rw [kb] at cB
        clear na nb kb cD h0 p1 p2 hf l1 l2 q1 q2 q3 q4
        generalize classN E (exN E F a) (frN F a) = va at *
        go_enter Tryz.func31, Tryz.ntmps31
        go_upto_region 1 with fail
        rw [← hW1]
        clear hW1
        go_wp2_with fail
        refine (cT W1).mono ?_
        rintro en w2 ⟨rfl, hb2⟩
        have V2 := next V hb2
        have F2 := F0.stay hb2
        clear f0 f1 F0 V hb2
        have ⟨f0, f1⟩ := F2
        go_wp2_with fail
        refine (cA w2).mono ?_
        rintro en w3 ⟨rfl, hb3⟩
        have V3 := next V2 hb3
        have F3 := F2.stay hb3
        clear f0 f1
        have ⟨f0, f1⟩ := F3
        go_wp2_with fail
        refine (cB w3).mono ?_
        rintro en w4 ⟨rfl, hb4⟩
        go_wp2
        go_ret3
        exact ⟨rfl, next V3 hb4⟩
    · have ka := cls_nan (e := E) (f := F) (b := a) (by omega) na
      have hs : stE (E : Int) (F : Int) a b = 2 := by unfold stE; rw [if_neg (by simp [h0])]; exact if_pos (by show (nanB E F a || nanB E F b) = true; exact (by rw [na]; rfl))
      have hs0 : ¬ stE (E : Int) (F : Int) a b = 0 := by rw [hs]; decide
      rw [show stB (E : Int) (F : Int) a b = false from if_neg hs0, show stN (E : Int) (F : Int) a b = 0 from if_neg hs0, hs]
      clear hs hs0
      rw [ka] at cA
      clear na ka cD cB h0 p1 p2 hf l1 l2 q1 q2 q3 q4
      go_enter Tryz.func31, Tryz.ntmps31
      go_upto_region 1 with fail
      rw [← hW1]
      clear hW1
      go_wp2_with fail
      refine (cT W1).mono ?_
      rintro en w2 ⟨rfl, hb2⟩
      have V2 := next V hb2
      have F2 := F0.stay hb2
      clear f0 f1 F0 V hb2
      have ⟨f0, f1⟩ := F2
      go_wp2_with fail
      refine (cA w2).mono ?_
      rintro en w3 ⟨rfl, hb3⟩
      go_wp2
      go_ret3
      exact ⟨rfl, next V2 hb3⟩
  · have hs : stE e f a b = twoE e f a b := by unfold stE; rw [if_pos h0]
    rw [show stB e f a b = false from if_neg (by rw [hs]; exact h0), show stN e f a b = 0 from if_neg (by rw [hs]; exact h0), hs]
    clear hs
    generalize twoE e f a b = T at *
    go_enter Tryz.func31, Tryz.ntmps31
    go_upto_region 1 with fail
    rw [← hW1]
    clear hW1
    go_wp2_with fail
    refine (cT W1).mono ?_
    rintro en w2 ⟨rfl, hb2⟩
    have V2 := next V hb2
    have F2 := F0.stay hb2
    clear f0 f1 F0 V hb2
    have ⟨f0, f1⟩ := F2
    go_wp2
    go_ret3
    exact ⟨by simp, V2⟩

set_option maxRecDepth 100000 in
set_option maxHeartbeats 2000000 in
theorem rcmp6_any (e f : Int) (a b : Nat) (w : World) (ha : a < 18446744073709551616) (hb : b < 18446744073709551616) :
    Calls Tryz.prog 29 #[.agg #[.int .i64 e, .int .i64 f], .int .u64 (a : Int), .int .u64 (b : Int)] w fun en w' => en = .returned (.tuple #[.int .i64 (cmV e f a b), .bool (decide (stE e f a b = 0)), .int .i64 (twoE e f a b)]) ∧ Below w.heap.size w w' := by
  obtain ⟨W1, hW1⟩ : ∃ W1 : World, W1 = w.alloc (.cells #[.int .i64 e, .int .i64 f] 23) := ⟨_, rfl⟩
  have V : Below w.heap.size w W1 := hW1 ▸ more (Below.refl _ _) _
  have F0 : Box2 W1 w.heap.size (.int .i64 e) (.int .i64 f) := hW1 ▸ box2_new w _ _ _
  have cT := fun W => two6_any e f a b W ha hb
  have ⟨f0, f1⟩ := F0
  by_cases h0 : twoE e f a b = 0
  · obtain ⟨p1, p2⟩ := twoE_ok h0
    obtain ⟨hf, l1⟩ := fitsE_parts p1
    obtain ⟨_, l2⟩ := fitsE_parts p2
    obtain ⟨q1, q2, q3, q4⟩ := formE_ok hf
    obtain ⟨E, rfl⟩ := Int.eq_ofNat_of_zero_le (by omega : 0 ≤ e)
    obtain ⟨F, rfl⟩ := Int.eq_ofNat_of_zero_le (by omega : 0 ≤ f)
    replace l1 : a < pw (1 + E + F) := l1
    replace l2 : b < pw (1 + E + F) := l2
    have cA := fun W => class6_any E F a W hf ha l1
    have cB := fun W => class6_any E F b W hf hb l2
    have cD := fun W => steps6_any E F a b W hf l1 l2
    rw [h0] at cT
    cases na : nanB E F a
    · have ka := cls_num (e := E) (f := F) (b := a) (by omega) na
      cases nb : nanB E F b
      · have kb := cls_num (e := E) (f := F) (b := b) (by omega) nb
        have hs : stE (E : Int) (F : Int) a b = 0 := st_ok.2 ⟨hf, l1, l2, na, nb⟩
        have hV : cmV (E : Int) (F : Int) a b = if stI E F a b = 0 then 0 else if stD E F a b = true then 1 else -1 := by
          obtain ⟨d1, s1⟩ := st_plain hf l1 l2
          have e5 : cmV (E : Int) (F : Int) a b = if IntKind.i64.wrap (plN E F a : Int) < IntKind.i64.wrap (plN E F b : Int) then -1 else if IntKind.i64.wrap (plN E F b : Int) < IntKind.i64.wrap (plN E F a : Int) then 1 else 0 := if_pos hs
          rw [e5, pl_i64 hf l1, pl_i64 hf l2, d1, s1]
          by_cases h1 : plI E F a < plI E F b
          · rw [if_pos h1, if_neg (by omega), if_neg (by simp; omega)]
          · by_cases h2 : plI E F b < plI E F a
            · rw [if_neg h1, if_pos h2, if_neg (by omega), if_pos (by simpa using h2)]
            · rw [if_neg h1, if_neg h2, if_pos (by omega)]
        rw [decide_eq_true hs, h0]
        generalize cmV (E : Int) (F : Int) a b = R at *
        generalize stD E F a b = D at *
        generalize stI E F a b = I at *
        have HR := Lib.hid hV
        clear hV
        clear na nb hs h0 p1 p2 hf l1 l2 q1 q2 q3 q4
        generalize classN E (exN E F a) (frN F a) = va at *
        generalize classN E (exN E F b) (frN F b) = vb at *
        go_enter Tryz.func29, Tryz.ntmps29
        go_upto_region 1 with fail
        rw [← hW1]
        clear hW1
        go_wp2_with fail
        refine (cT W1).mono ?_
        rintro en w2 ⟨rfl, hb2⟩
        have V2 := next V hb2
        have F2 := F0.stay hb2
        clear f0 f1 F0 V hb2
        have ⟨f0, f1⟩ := F2
        go_wp2_with fail
        refine (cA w2).mono ?_
        rintro en w3 ⟨rfl, hb3⟩
        have V3 := next V2 hb3
        have F3 := F2.stay hb3
        clear f0 f1
        have ⟨f0, f1⟩ := F3
        go_wp2_with fail
        refine (cB w3).mono ?_
        rintro en w4 ⟨rfl, hb4⟩
        have V4 := next V3 hb4
        have F4 := F3.stay hb4
        clear f0 f1
        have ⟨f0, f1⟩ := F4
        go_wp2_with fail
        refine (cD w4).mono ?_
        rintro en w5 ⟨rfl, hb5⟩
        have V5 := next V4 hb5
        by_cases hI : I = 0
        · have hr := HR.out
          rw [if_pos hI] at hr
          subst hI hr
          go_wp2
          go_ret3
          exact ⟨rfl, V5⟩
        · have hr := HR.out
          rw [if_neg hI] at hr
          clear HR
          cases D
          · rw [if_neg (by decide)] at hr
            subst hr
            go_wp2
            go_ret3
            exact ⟨rfl, V5⟩
          · rw [if_pos rfl] at hr
            subst hr
            go_wp2
            go_ret3
            exact ⟨rfl, V5⟩
      · have kb := cls_nan (e := E) (f := F) (b := b) (by omega) nb
        have hs : stE (E : Int) (F : Int) a b = 2 := by unfold stE; rw [if_neg (by simp [h0])]; exact if_pos (by show (nanB E F a || nanB E F b) = true; exact (by rw [na, nb]; rfl))
        have hs0 : ¬ stE (E : Int) (F : Int) a b = 0 := by rw [hs]; decide
        rw [show cmV (E : Int) (F : Int) a b = 0 from if_neg hs0, decide_eq_false hs0, h0]
        clear hs hs0
        rw [kb] at cB
        clear na nb kb cD h0 p1 p2 hf l1 l2 q1 q2 q3 q4
        generalize classN E (exN E F a) (frN F a) = va at *
        go_enter Tryz.func29, Tryz.ntmps29
        go_upto_region 1 with fail
        rw [← hW1]
        clear hW1
        go_wp2_with fail
        refine (cT W1).mono ?_
        rintro en w2 ⟨rfl, hb2⟩
        have V2 := next V hb2
        have F2 := F0.stay hb2
        clear f0 f1 F0 V hb2
        have ⟨f0, f1⟩ := F2
        go_wp2_with fail
        refine (cA w2).mono ?_
        rintro en w3 ⟨rfl, hb3⟩
        have V3 := next V2 hb3
        have F3 := F2.stay hb3
        clear f0 f1
        have ⟨f0, f1⟩ := F3
        go_wp2_with fail
        refine (cB w3).mono ?_
        rintro en w4 ⟨rfl, hb4⟩
        go_wp2
        go_ret3
        exact ⟨rfl, next V3 hb4⟩
    · have ka := cls_nan (e := E) (f := F) (b := a) (by omega) na
      have hs : stE (E : Int) (F : Int) a b = 2 := by unfold stE; rw [if_neg (by simp [h0])]; exact if_pos (by show (nanB E F a || nanB E F b) = true; exact (by rw [na]; rfl))
      have hs0 : ¬ stE (E : Int) (F : Int) a b = 0 := by rw [hs]; decide
      rw [show cmV (E : Int) (F : Int) a b = 0 from if_neg hs0, decide_eq_false hs0, h0]
      clear hs hs0
      rw [ka] at cA
      clear na ka cD cB h0 p1 p2 hf l1 l2 q1 q2 q3 q4
      go_enter Tryz.func29, Tryz.ntmps29
      go_upto_region 1 with fail
      rw [← hW1]
      clear hW1
      go_wp2_with fail
      refine (cT W1).mono ?_
      rintro en w2 ⟨rfl, hb2⟩
      have V2 := next V hb2
      have F2 := F0.stay hb2
      clear f0 f1 F0 V hb2
      have ⟨f0, f1⟩ := F2
      go_wp2_with fail
      refine (cA w2).mono ?_
      rintro en w3 ⟨rfl, hb3⟩
      go_wp2
      go_ret3
      exact ⟨rfl, next V2 hb3⟩
  · have hs : stE e f a b = twoE e f a b := by unfold stE; rw [if_pos h0]
    rw [show cmV e f a b = 0 from if_neg (by rw [hs]; exact h0), decide_eq_false (show ¬ stE e f a b = 0 by rw [hs]; exact h0)]
    clear hs
    generalize twoE e f a b = T at *
    go_enter Tryz.func29, Tryz.ntmps29
    go_upto_region 1 with fail
    rw [← hW1]
    clear hW1
    go_wp2_with fail
    refine (cT W1).mono ?_
    rintro en w2 ⟨rfl, hb2⟩
    have V2 := next V hb2
    have F2 := F0.stay hb2
    clear f0 f1 F0 V hb2
    have ⟨f0, f1⟩ := F2
    go_wp2
    go_ret3
    exact ⟨by simp, V2⟩

set_option maxRecDepth 100000 in
set_option maxHeartbeats 2000000 in
theorem rorder6_any (e f : Int) (a b : Nat) (w : World) (ha : a < 18446744073709551616) (hb : b < 18446744073709551616) :
    Calls Tryz.prog 30 #[.agg #[.int .i64 e, .int .i64 f], .int .u64 (a : Int), .int .u64 (b : Int)] w fun en w' => en = .returned (.tuple #[.int .i64 (orV e f a b), .int .i64 (twoE e f a b)]) ∧ Below w.heap.size w w' := by
  obtain ⟨W1, hW1⟩ : ∃ W1 : World, W1 = w.alloc (.cells #[.int .i64 e, .int .i64 f] 23) := ⟨_, rfl⟩
  have V : Below w.heap.size w W1 := hW1 ▸ more (Below.refl _ _) _
  have F0 : Box2 W1 w.heap.size (.int .i64 e) (.int .i64 f) := hW1 ▸ box2_new w _ _ _
  have cT := fun W => two6_any e f a b W ha hb
  have ⟨f0, f1⟩ := F0
  by_cases h0 : twoE e f a b = 0
  · obtain ⟨p1, p2⟩ := twoE_ok h0
    obtain ⟨hf, l1⟩ := fitsE_parts p1
    obtain ⟨_, l2⟩ := fitsE_parts p2
    obtain ⟨q1, q2, q3, q4⟩ := formE_ok hf
    obtain ⟨E, rfl⟩ := Int.eq_ofNat_of_zero_le (by omega : 0 ≤ e)
    obtain ⟨F, rfl⟩ := Int.eq_ofNat_of_zero_le (by omega : 0 ≤ f)
    replace l1 : a < pw (1 + E + F) := l1
    replace l2 : b < pw (1 + E + F) := l2
    have cH := fun W => half6_any E F W hf
    have hV : orV (E : Int) (F : Int) a b = if a = b then 0 else if rwA E F a < rwA E F b ∨ rwA E F a = rwA E F b ∧ rwN E F a < rwN E F b then -1 else 1 := if_neg (by simp [h0])
    have hpp : pw (1 + E + F) = 2 * pw (E + F) := pw_one_more E F
    have hL : (rwA E F a < rwA E F b ∨ rwA E F a = rwA E F b ∧ rwN E F a < rwN E F b) ↔ (if pw (E + F) ≤ a then (b < pw (E + F) ∨ b < a) else if pw (E + F) ≤ b then False else a < b) := by
      unfold rwA rwN
      rw [sg_iff l1, sg_iff l2]
      by_cases h1 : pw (E + F) ≤ a <;> by_cases h2 : pw (E + F) ≤ b <;> simp [h1, h2] <;> omega
    rw [h0] at cT
    rw [h0, hV]
    clear hV p1 p2 hf q1 q2 q3 q4 hpp l1 l2 h0
    generalize rwA E F a = x0 at *
    generalize rwN E F a = x1 at *
    generalize rwA E F b = y0 at *
    generalize rwN E F b = y1 at *
    generalize pw (E + F) = T at *
    have HL := Lib.hid hL
    clear hL
    by_cases hab : a = b
    · rw [if_pos hab]
      subst hab
      go_enter Tryz.func30, Tryz.ntmps30
      go_upto_region 1 with fail
      rw [← hW1]
      clear hW1
      go_wp2_with fail
      refine (cT W1).mono ?_
      rintro en w2 ⟨rfl, hb2⟩
      have V2 := next V hb2
      have F2 := F0.stay hb2
      clear f0 f1 F0 V hb2
      have ⟨f0, f1⟩ := F2
      go_wp2
      go_ret2
      exact ⟨rfl, V2⟩
    · rw [if_neg hab]
      have hab' : ((a : Int) == (b : Int)) = false := by simpa using (by omega : ¬ (a : Int) = (b : Int))
      have hab2 : ¬ (a : Int) = (b : Int) := by omega
      by_cases hTa : T ≤ a
      · have k1 : (T : Int) ≤ (a : Int) := by omega
        by_cases hLL : x0 < y0 ∨ x0 = y0 ∧ x1 < y1
        · rw [if_pos hLL]
          have hc := HL.out.1 hLL
          rw [if_pos hTa] at hc
          clear HL hLL
          rcases hc with k2 | k2
          · have k3 : (b : Int) < (T : Int) := by omega
            go_enter Tryz.func30, Tryz.ntmps30
            go_upto_region 1 with fail
            rw [← hW1]
            clear hW1
            go_wp2_with fail
            refine (cT W1).mono ?_
            rintro en w2 ⟨rfl, hb2⟩
            have V2 := next V hb2
            have F2 := F0.stay hb2
            clear f0 f1 F0 V hb2
            have ⟨f0, f1⟩ := F2
            go_wp2_with fail
            refine (cH w2).mono ?_
            rintro en w3 ⟨rfl, hb3⟩
            have F3 := F2.stay hb3
            clear f0 f1
            have ⟨f0, f1⟩ := F3
            go_wp2_with fail
            refine (cH w3).mono ?_
            rintro en w4 ⟨rfl, hb4⟩
            go_wp2
            go_ret2
            exact ⟨by simp, next (next V2 hb3) hb4⟩
          · by_cases k4 : b < T
            · have k3 : (b : Int) < (T : Int) := by omega
              go_enter Tryz.func30, Tryz.ntmps30
              go_upto_region 1 with fail
              rw [← hW1]
              clear hW1
              go_wp2_with fail
              refine (cT W1).mono ?_
              rintro en w2 ⟨rfl, hb2⟩
              have V2 := next V hb2
              have F2 := F0.stay hb2
              clear f0 f1 F0 V hb2
              have ⟨f0, f1⟩ := F2
              go_wp2_with fail
              refine (cH w2).mono ?_
              rintro en w3 ⟨rfl, hb3⟩
              have F3 := F2.stay hb3
              clear f0 f1
              have ⟨f0, f1⟩ := F3
              go_wp2_with fail
              refine (cH w3).mono ?_
              rintro en w4 ⟨rfl, hb4⟩
              go_wp2
              go_ret2
              exact ⟨by simp, next (next V2 hb3) hb4⟩
            · have k3 : ¬ (b : Int) < (T : Int) := by omega
              have k5 : (b : Int) < (a : Int) := by omega
              go_enter Tryz.func30, Tryz.ntmps30
              go_upto_region 1 with fail
              rw [← hW1]
              clear hW1
              go_wp2_with fail
              refine (cT W1).mono ?_
              rintro en w2 ⟨rfl, hb2⟩
              have V2 := next V hb2
              have F2 := F0.stay hb2
              clear f0 f1 F0 V hb2
              have ⟨f0, f1⟩ := F2
              go_wp2_with fail
              refine (cH w2).mono ?_
              rintro en w3 ⟨rfl, hb3⟩
              have F3 := F2.stay hb3
              clear f0 f1
              have ⟨f0, f1⟩ := F3
              go_wp2_with fail
              refine (cH w3).mono ?_
              rintro en w4 ⟨rfl, hb4⟩
              go_wp2
              go_ret2
              exact ⟨by simp, next (next V2 hb3) hb4⟩
        · rw [if_neg hLL]
          have hc : ¬ (if T ≤ a then (b < T ∨ b < a) else if T ≤ b then False else a < b) := fun h => hLL (HL.out.2 h)
          rw [if_pos hTa] at hc
          have k3 : ¬ (b : Int) < (T : Int) := fun h => hc (.inl (by omega))
          have k5 : ¬ (b : Int) < (a : Int) := fun h => hc (.inr (by omega))
          clear HL hLL hc
          go_enter Tryz.func30, Tryz.ntmps30
          go_upto_region 1 with fail
          rw [← hW1]
          clear hW1
          go_wp2_with fail
          refine (cT W1).mono ?_
          rintro en w2 ⟨rfl, hb2⟩
          have V2 := next V hb2
          have F2 := F0.stay hb2
          clear f0 f1 F0 V hb2
          have ⟨f0, f1⟩ := F2
          go_wp2_with fail
          refine (cH w2).mono ?_
          rintro en w3 ⟨rfl, hb3⟩
          have F3 := F2.stay hb3
          clear f0 f1
          have ⟨f0, f1⟩ := F3
          go_wp2_with fail
          refine (cH w3).mono ?_
          rintro en w4 ⟨rfl, hb4⟩
          go_wp2
          go_ret2
          exact ⟨by simp, next (next V2 hb3) hb4⟩
      · have k1 : ¬ (T : Int) ≤ (a : Int) := by omega
        by_cases hLL : x0 < y0 ∨ x0 = y0 ∧ x1 < y1
        · rw [if_pos hLL]
          have hc := HL.out.1 hLL
          rw [if_neg hTa] at hc
          by_cases hTb : T ≤ b
          · rw [if_pos hTb] at hc; exact hc.elim
          · rw [if_neg hTb] at hc
            have k3 : ¬ (T : Int) ≤ (b : Int) := by omega
            have k5 : (a : Int) < (b : Int) := by omega
            clear HL hLL hc
            go_enter Tryz.func30, Tryz.ntmps30
            go_upto_region 1 with fail
            rw [← hW1]
            clear hW1
            go_wp2_with fail
            refine (cT W1).mono ?_
            rintro en w2 ⟨rfl, hb2⟩
            have V2 := next V hb2
            have F2 := F0.stay hb2
            clear f0 f1 F0 V hb2
            have ⟨f0, f1⟩ := F2
            go_wp2_with fail
            refine (cH w2).mono ?_
            rintro en w3 ⟨rfl, hb3⟩
            have F3 := F2.stay hb3
            clear f0 f1
            have ⟨f0, f1⟩ := F3
            go_wp2_with fail
            refine (cH w3).mono ?_
            rintro en w4 ⟨rfl, hb4⟩
            go_wp2
            go_ret2
            exact ⟨by simp, next (next V2 hb3) hb4⟩
        · rw [if_neg hLL]
          have hc : ¬ (if T ≤ a then (b < T ∨ b < a) else if T ≤ b then False else a < b) := fun h => hLL (HL.out.2 h)
          rw [if_neg hTa] at hc
          by_cases hTb : T ≤ b
          · have k3 : (T : Int) ≤ (b : Int) := by omega
            clear HL hLL hc
            go_enter Tryz.func30, Tryz.ntmps30
            go_upto_region 1 with fail
            rw [← hW1]
            clear hW1
            go_wp2_with fail
            refine (cT W1).mono ?_
            rintro en w2 ⟨rfl, hb2⟩
            have V2 := next V hb2
            have F2 := F0.stay hb2
            clear f0 f1 F0 V hb2
            have ⟨f0, f1⟩ := F2
            go_wp2_with fail
            refine (cH w2).mono ?_
            rintro en w3 ⟨rfl, hb3⟩
            have F3 := F2.stay hb3
            clear f0 f1
            have ⟨f0, f1⟩ := F3
            go_wp2_with fail
            refine (cH w3).mono ?_
            rintro en w4 ⟨rfl, hb4⟩
            go_wp2
            go_ret2
            exact ⟨by simp, next (next V2 hb3) hb4⟩
          · rw [if_neg hTb] at hc
            have k3 : ¬ (T : Int) ≤ (b : Int) := by omega
            have k5 : ¬ (a : Int) < (b : Int) := by omega
            clear HL hLL hc
            go_enter Tryz.func30, Tryz.ntmps30
            go_upto_region 1 with fail
            rw [← hW1]
            clear hW1
            go_wp2_with fail
            refine (cT W1).mono ?_
            rintro en w2 ⟨rfl, hb2⟩
            have V2 := next V hb2
            have F2 := F0.stay hb2
            clear f0 f1 F0 V hb2
            have ⟨f0, f1⟩ := F2
            go_wp2_with fail
            refine (cH w2).mono ?_
            rintro en w3 ⟨rfl, hb3⟩
            have F3 := F2.stay hb3
            clear f0 f1
            have ⟨f0, f1⟩ := F3
            go_wp2_with fail
            refine (cH w3).mono ?_
            rintro en w4 ⟨rfl, hb4⟩
            go_wp2
            go_ret2
            exact ⟨by simp, next (next V2 hb3) hb4⟩
  · rw [show orV e f a b = 0 from if_pos h0]
    generalize twoE e f a b = T at *
    go_enter Tryz.func30, Tryz.ntmps30
    go_upto_region 1 with fail
    rw [← hW1]
    clear hW1
    go_wp2_with fail
    refine (cT W1).mono ?_
    rintro en w2 ⟨rfl, hb2⟩
    have V2 := next V hb2
    have F2 := F0.stay hb2
    clear f0 f1 F0 V hb2
    have ⟨f0, f1⟩ := F2
    go_wp2
    go_ret2
    exact ⟨by simp, V2⟩

end Go.Proofs.YtfjgmpfpadfknaaGreatDoor

