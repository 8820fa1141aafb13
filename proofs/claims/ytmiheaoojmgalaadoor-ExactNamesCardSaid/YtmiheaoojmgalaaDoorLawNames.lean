/-
  The law ExactNames answers true.
-/
import Derived.Test.YtmiheaoojmgalaaDoorAlive
import Derived.Deep.Cut
import Derived.Deep.RegionHeld3
namespace Go.Proofs.YtmiheaoojmgalaaDoor
open Go.RowKit Go.Lb

theorem nm_one : (mkA false 1 1073741824).s = false ∧ (mkA false 1 1073741824).N = 1 ∧ (mkA false 1 1073741824).x = 1073741824 ∧ (mkA false 1 1073741824).e = 0 := by decide +kernel

theorem nm_two : (mkA false 2 1073741824).e = 4 := by decide +kernel

theorem nm_dy1 : Dy false 1 1073741824 := ⟨fun h => absurd h (by decide), fun _ => rfl, by decide, by decide, by decide +kernel⟩

theorem nm_dy2 : Dy false 1 0 := ⟨fun h => absurd h (by decide), fun _ => rfl, by decide, by decide, by decide +kernel⟩

theorem nm_add : (addA false (limbs 1) 1073741824 false (limbs 1) 0).e = 4 := by
  obtain ⟨E, hE⟩ : ∃ E : Int, E = 1073741824 := ⟨_, rfl⟩
  have hd := nm_dy1
  rw [← hE] at hd ⊢
  rw [addA_dy hd nm_dy2, if_neg (by decide), if_neg (by decide), if_pos]
  · rfl
  · left
    have : ¬ (limbs (lvN 1 E 0)).length ≤ 16384 := by
      rw [len_big]
      unfold lvN
      rw [Nat.one_mul]
      have h2 : 32 * 16384 ≤ (E - min E 0).toNat := by omega
      generalize (E - min E 0).toNat = k at h2
      generalize 32 * 16384 = m at h2
      exact Nat.not_lt.2 (Nat.pow_le_pow_right (by decide) h2)
    rw [(bigE_many this).1]
    decide

theorem nm_cmp : cmpA false (limbs 1) 1073741824 false (limbs 5) 0 = 1 ∧ cmpF false (limbs 1) 1073741824 false (limbs 5) 0 = 0 := by decide +kernel

theorem nm_val : valE 5 10 31744 = 8 ∧ valE 5 10 65536 = 6 ∧ valE 1 5 0 = 5 := by decide +kernel

theorem nm_chk : dchk false (limbs 2) 0 = 40 := by decide +kernel

set_option maxRecDepth 100000 in
set_option maxHeartbeats 4000000 in
theorem names_any (w : World) (hT : Tab w) :
    Calls Tryd.prog 4 #[] w fun e w' => e = .returned (.bool true) ∧ Below w.heap.size w w' := by
  obtain ⟨oS, oN, oX, oE⟩ := nm_one
  have tE := nm_two
  have gE := nm_add
  obtain ⟨c1, c2⟩ := nm_cmp
  obtain ⟨i1, i2, i3⟩ := nm_val
  have hk := nm_chk
  go_enter Tryd.func4, Tryd.ntmps4
  go_wp2_with fail
  refine (natOf_i 1 1 rfl _ (by decide)).mono ?_
  rintro en w1 ⟨a1, n1, k1, rfl, hF1, hb1⟩
  have hW := Below.refl w.heap.size w
  replace hW := next hW hb1
  replace hT := hT.below hb1
  go_wp2_with fail
  refine (exMake_any false a1 n1 k1 (limbs 1) 1073741824 _ hF1.sl hT).mono ?_
  rintro en v2 hM
  obtain ⟨a2, n2, k2, rfl, hF2, hb2⟩ := (show Dyn (mkA false 1 1073741824) _ _ _ from dyn_made hM)
  rw [oS, oX, oE]
  rw [oN] at hF2
  replace hW := next hW hb2
  replace hT := hT.below hb2
  clear hM
  have hV := more (Below.refl v2.heap.size v2) (.cells #[.bool false, .slice a2 n2 k2, .int .i64 1073741824] 37)
  have A := box3_new v2 (.bool false) (.slice a2 n2 k2) (.int .i64 1073741824) 37
  have fA := hF2.sl.alloc (.cells #[.bool false, .slice a2 n2 k2, .int .i64 1073741824] 37)
  replace hW := next hW hV
  replace hT := hT.below hV
  clear hb1 hb2 hV hF1 hF2
  go_wp2_with fail
  generalize v2.heap.size = pA at A ⊢
  generalize v2.alloc (.cells #[.bool false, .slice a2 n2 k2, .int .i64 1073741824] 37) = w2 at A fA hW hT ⊢
  refine (natOf_i 2 2 rfl _ (by decide)).mono ?_
  rintro en w3 ⟨a3, n3, k3, rfl, hF3, hb3⟩
  replace A := A.stay hb3
  replace fA := fA.below hb3
  replace hW := next hW hb3
  replace hT := hT.below hb3
  go_wp2_with fail
  refine (exMake_any false a3 n3 k3 (limbs 2) 1073741824 _ hF3.sl hT).mono ?_
  rintro en v4 hM
  obtain ⟨a4, n4, k4, rfl, _, hb4⟩ := (show Dyn (mkA false 2 1073741824) _ _ _ from dyn_made hM)
  rw [tE]
  replace A := A.stay hb4
  replace fA := fA.below hb4
  replace hW := next hW hb4
  replace hT := hT.below hb4
  clear hM hb3 hb4 hF3
  have hV := more (Below.refl v4.heap.size v4) (.cells #[.bool (mkA false 2 1073741824).s, .slice a4 n4 k4, .int .i64 (mkA false 2 1073741824).x] 37)
  replace A := A.stay hV
  replace fA := fA.below hV
  replace hW := next hW hV
  replace hT := hT.below hV
  clear hV
  go_wp2
  generalize v4.heap.size = p4
  generalize v4.alloc (.cells #[.bool (mkA false 2 1073741824).s, .slice a4 n4 k4, .int .i64 (mkA false 2 1073741824).x] 37) = w4 at A fA hW hT ⊢
  have kS : ∀ w' : World, Below w4.heap.size w4 w' → (w'.cell? ⟨pA, 0, none⟩ = some (.bool false) ∧ w'.cell? ⟨pA, 1, none⟩ = some (.slice a2 n2 k2) ∧ w'.cell? ⟨pA, 2, none⟩ = some (.int .i64 1073741824) ∧ Below w4.heap.size w4 w') := fun w' hb => ⟨cellStay A.c0 hb, cellStay A.c1 hb, cellStay A.c2 hb, hb⟩
  have hb0 := Below.refl w4.heap.size w4
  have hTk : ∀ w' : World, Below w4.heap.size w4 w' → Tab w' := fun w' hb => hT.below hb
  have fAk : ∀ w' : World, Below w4.heap.size w4 w' → Sl w' a2 n2 k2 (limbs 1) := fun w' hb => fA.below hb
  go_cut [5, 6] from 15 (fun p g wx => ∃ b, p = .pointer (some ⟨b, 0, none⟩) ∧ g = .int .i64 4 ∧ Below w4.heap.size w4 wx)
  case first =>
    go_region_held3 (fun w' => w'.cell? ⟨pA, 0, none⟩ = some (.bool false) ∧ w'.cell? ⟨pA, 1, none⟩ = some (.slice a2 n2 k2) ∧ w'.cell? ⟨pA, 2, none⟩ = some (.int .i64 1073741824) ∧ Below w4.heap.size w4 w')
      ((refine kS _ ?_; (repeat (with_reducible (first | exact hWB | exact hWA | exact Below.refl _ _ | refine Below.drew ?_ | refine more ?_ _ | refine Below.setCell ?_ ?_ _ | exact Nat.le_refl _ | exact szA | exact szB | exact Nat.le_succ_of_le szA | exact Nat.le_succ _ | exact Nat.le_succ_of_le szB))); done))
      (first
        | (go_at_call 21; (with_reducible refine (whole_any false 1 1 0 rfl _ (by decide)).mono ?_); rintro en wA ⟨aA, nA, kA, rfl, hFA, hbA⟩; have hWA : Below w4.heap.size w4 wA := (by go_split_ands; exact next (by assumption) hbA); have szA := hWA.size; (first | (have Z1 := (box3_new w4 (.bool false) (.slice none 0 0) (.int .i64 0) 37).stay (by first | exact hbA | exact undrew hbA); have ⟨v1_0, v1_1, v1_2, v1z0, v1z1, v1z2⟩ := Z1; have v1l := Z1.lt; have v1m := Nat.lt_succ_of_lt v1l) | skip))
        | (go_at_call 20; (with_reducible refine (exAdd_any false false a2 aA n2 nA k2 kA 1073741824 0 (limbs 1) (limbs 1) _ (fAk _ (by go_split_ands; assumption)) (by first | exact hFA.sl | exact hFA.sl.alloc _ | exact hFA.sl.drew | exact (hFA.sl.alloc _).drew | exact hFA.sl.drew.alloc _) (hTk _ (by go_split_ands; assumption))).mono ?_); rintro en wB ⟨aB, nB, kB, rfl, hFB, hbB⟩; rw [gE]; have hWB : Below w4.heap.size w4 wB := (by go_split_ands; exact next (by assumption) hbB); have szB := hWB.size; (first | (have Y1 := Z1.stay (by first | exact hbB | exact undrew hbB); have ⟨v2_0, v2_1, v2_2, v2z0, v2z1, v2z2⟩ := Y1; have v2l := Y1.lt; have v2m := Nat.lt_succ_of_lt v2l) | (have Z2 := (box3_new wA (.bool false) (.slice none 0 0) (.int .i64 0) 37).stay (by first | exact hbB | exact undrew hbB); have ⟨v3_0, v3_1, v3_2, v3z0, v3z1, v3z2⟩ := Z2; have v3l := Z2.lt; have v3m := Nat.lt_succ_of_lt v3l) | skip)))
    all_goals go_split_ands
    all_goals go_wp2
    all_goals go_meet
    all_goals
      refine ⟨_, rfl, rfl, ?_⟩
      (repeat (with_reducible (first | exact hWB | exact hWA | exact Below.refl _ _ | refine Below.drew ?_ | refine more ?_ _ | refine Below.setCell ?_ ?_ _ | exact Nat.le_refl _ | exact szA | exact szB | exact Nat.le_succ_of_le szA | exact Nat.le_succ _ | exact Nat.le_succ_of_le szB)))
  case rest =>
    obtain ⟨p5, rfl, rfl, hX⟩ := hcut
    replace A := A.stay hX
    replace fA := fA.below hX
    replace hT := hT.below hX
    replace hW := next hW hX
    clear hX kS hb0 hTk fAk
    have kS : ∀ w' : World, Below wc.heap.size wc w' → (w'.cell? ⟨pA, 0, none⟩ = some (.bool false) ∧ w'.cell? ⟨pA, 1, none⟩ = some (.slice a2 n2 k2) ∧ w'.cell? ⟨pA, 2, none⟩ = some (.int .i64 1073741824) ∧ Below wc.heap.size wc w') := fun w' hb => ⟨cellStay A.c0 hb, cellStay A.c1 hb, cellStay A.c2 hb, hb⟩
    have fAk : ∀ w' : World, Below wc.heap.size wc w' → Sl w' a2 n2 k2 (limbs 1) := fun w' hb => fA.below hb
    go_wp2
    go_region_held3 (fun w' => w'.cell? ⟨pA, 0, none⟩ = some (.bool false) ∧ w'.cell? ⟨pA, 1, none⟩ = some (.slice a2 n2 k2) ∧ w'.cell? ⟨pA, 2, none⟩ = some (.int .i64 1073741824) ∧ Below wc.heap.size wc w')
      ((refine kS _ ?_; (repeat (with_reducible (first | exact hWB | exact hWA | exact Below.refl _ _ | refine Below.drew ?_ | refine more ?_ _ | refine Below.setCell ?_ ?_ _ | exact Nat.le_refl _ | exact szA | exact szB | exact Nat.le_succ_of_le szA | exact Nat.le_succ _ | exact Nat.le_succ_of_le szB))); done))
      (first
        | (go_at_call 21; (with_reducible refine (whole_any false 5 5 0 rfl _ (by decide)).mono ?_); rintro en wA ⟨aA, nA, kA, rfl, hFA, hbA⟩; have hWA : Below wc.heap.size wc wA := (by go_split_ands; exact next (by first | assumption | exact Below.refl _ _) hbA); have szA := hWA.size)
        | (go_at_call 22; (with_reducible refine (exCmp_any false false a2 aA n2 nA k2 kA 1073741824 0 (limbs 1) (limbs 5) _ (fAk _ (by go_split_ands; assumption)) (by first | exact hFA.sl | exact hFA.sl.drew)).mono ?_); rintro en wB ⟨rfl, hbB⟩; rw [c1, c2]; have hWB : Below wc.heap.size wc wB := (by go_split_ands; exact next (by assumption) hbB); have szB := hWB.size))
    all_goals go_split_ands
    all_goals go_wp2_with fail
    replace hW := next hW hWB
    replace hT := hT.below hWB
    refine (half_any _).mono ?_
    rintro en w5 ⟨rfl, hb5⟩
    replace hW := next hW hb5
    replace hT := hT.below hb5
    go_wp2_with fail
    refine (value_any 5 10 31744 _ (by decide) hT).mono ?_
    rintro en w6 ⟨a6, n6, k6, rfl, _, hb6⟩
    rw [i1]
    replace hW := more (next hW hb6) (.cells #[.bool (valS 5 10 31744), .slice a6 n6 k6, .int .i64 (valX 5 10 31744)] 37)
    replace hT := (hT.below hb6).alloc (.cells #[.bool (valS 5 10 31744), .slice a6 n6 k6, .int .i64 (valX 5 10 31744)] 37)
    go_wp2_with fail
    generalize w6.alloc (.cells #[.bool (valS 5 10 31744), .slice a6 n6 k6, .int .i64 (valX 5 10 31744)] 37) = w7 at hW hT ⊢
    refine (half_any _).mono ?_
    rintro en w8 ⟨rfl, hb8⟩
    replace hW := next hW hb8
    replace hT := hT.below hb8
    go_wp2_with fail
    refine (value_any 5 10 65536 _ (by decide) hT).mono ?_
    rintro en w9 ⟨a9, n9, k9, rfl, _, hb9⟩
    rw [i2]
    replace hW := more (next hW hb9) (.cells #[.bool (valS 5 10 65536), .slice a9 n9 k9, .int .i64 (valX 5 10 65536)] 37)
    replace hT := (hT.below hb9).alloc (.cells #[.bool (valS 5 10 65536), .slice a9 n9 k9, .int .i64 (valX 5 10 65536)] 37)
    go_wp2_with fail
    generalize w9.alloc (.cells #[.bool (valS 5 10 65536), .slice a9 n9 k9, .int .i64 (valX 5 10 65536)] 37) = w10 at hW hT ⊢
    refine (value_any 1 5 0 _ (by decide) hT).mono ?_
    rintro en w11 ⟨a11, n11, k11, rfl, _, hb11⟩
    rw [i3]
    replace hW := more (next hW hb11) (.cells #[.bool (valS 1 5 0), .slice a11 n11 k11, .int .i64 (valX 1 5 0)] 37)
    replace hT := (hT.below hb11).alloc (.cells #[.bool (valS 1 5 0), .slice a11 n11 k11, .int .i64 (valX 1 5 0)] 37)
    go_wp2_with fail
    generalize w11.alloc (.cells #[.bool (valS 1 5 0), .slice a11 n11 k11, .int .i64 (valX 1 5 0)] 37) = w12 at hW hT ⊢
    refine (alive_any _ hT).mono ?_
    rintro en w13 ⟨rfl, hb13⟩
    replace hW := next hW hb13
    go_wp2_with fail
    refine (whole_any false 2 2 0 rfl _ (by decide)).mono ?_
    rintro en w14 ⟨a14, n14, k14, rfl, hF14, hb14⟩
    replace hW := next hW hb14
    go_wp2_with fail
    refine (dyCheck_any false a14 n14 k14 0 (limbs 2) _ hF14.sl).mono ?_
    rintro en w15 ⟨rfl, hb15⟩
    rw [hk]
    replace hW := next hW hb15
    go_wp2
    go_ret
    exact ⟨rfl, hW⟩

end Go.Proofs.YtmiheaoojmgalaaDoor
