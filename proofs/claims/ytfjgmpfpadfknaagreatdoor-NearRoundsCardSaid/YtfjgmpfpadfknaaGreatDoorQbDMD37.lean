/-
  The law's own helper numerallaw06.awake: what the document's examples say.
-/
import Derived.Test.YtfjgmpfpadfknaaGreatDoorQbDNearP
import Derived.Test.YtfjgmpfpadfknaaGreatDoorQbDMD34
import Derived.Deep.CutRange
import Derived.ChangeKeysEq
import Derived.Test.YtfjgmpfpadfknaaGreatDoorQbDMD31
import Derived.Test.YtfjgmpfpadfknaaGreatDoorQbDMD30
import Derived.Deep.RegionHeld3
import Derived.Test.YtfjgmpfpadfknaaGreatDoorQbDBase
namespace Go.Proofs.YtfjgmpfpadfknaaGreatDoor

open Go.RowKit Go.Lb

attribute [local go_sem] Go.World.cell?_alloc_some

theorem aw_words : hiB 5 10 32769 = 32768 ∧ hiE 5 10 32769 = 0 ∧ hiE 5 10 31744 = 60 ∧ stE 5 10 31744 64512 = 0 ∧ stD 5 10 31744 64512 = true ∧ stI 5 10 31744 64512 = 63488 := by decide +kernel

theorem aw_reach : fitsE 5 10 0 = 0 ∧ exN 5 10 0 ≠ maskN 5 ∧ sgB 5 10 0 = false ∧ mgN 5 10 0 = 0 ∧ seM 1 false = 1 ∧ rci 0 1 = true ∧ rco 0 1 = false := by decide +kernel

theorem aw_ends : upN (rcI 5 10 0 1).N (rcI 5 10 0 1).x = 0 ∧ upD (rcI 5 10 0 1).x = 1 ∧ upN (rcO 5 10 0 1).N (rcO 5 10 0 1).x = 1 ∧ upD (rcO 5 10 0 1).x = 33554432 := by decide +kernel

theorem aw_limbs : limbs 0 = [] ∧ limbs 1 = [1] ∧ limbs 33554432 = [33554432] := by decide +kernel

theorem aw_ulp : ulD 5 10 31743 = ⟨false, 1, 5, 0⟩ := by
  have h : fnE 5 10 [31743] = 0 ∧ unI 5 10 31743 = 5 := by decide +kernel
  unfold ulD
  rw [if_pos h.1]
  show (⟨false, 1, unI 5 10 31743, 0⟩ : Ds) = _
  rw [h.2]

set_option maxRecDepth 100000 in
set_option maxHeartbeats 4000000 in
theorem awake6_any (w : World) (hT : Tab w) :
    Calls Tryz.prog 10 #[] w fun en w' => en = .returned (.bool true) ∧ Below w.heap.size w w' := by
  obtain ⟨u1, u2, u3, u4, u5, u6⟩ := aw_words
  obtain ⟨r1, r2, r3, r4, r5, r6, r7⟩ := aw_reach
  obtain ⟨e1, e2, e3, e4⟩ := aw_ends
  obtain ⟨l0, l1, l2⟩ := aw_limbs
  have cH := fun W => half06_any W
  have cU := fun W => nearUp_any 5 10 32769 W (by decide)
  have cV := fun W => nearUp_any 5 10 31744 W (by decide)
  rw [u1, u2] at cU
  rw [u3] at cV
  have cS := fun W => nearSteps_ok 5 10 31744 64512 W u4 (by decide) (by decide)
  rw [u5, u6] at cS
  have cR := fun W hT => nearReach_ok 5 10 0 1 W r1 r2 (by decide) hT
  rw [r3, r4, r5, r6, r7] at cR
  unfold RchG at cR
  simp only at cR
  unfold Rch at cR
  rw [e1, e2, e3, e4, l0, l1, l2] at cR
  have cL := fun W hT => nearUlp_any 5 10 31743 W (by decide) hT
  rw [aw_ulp] at cL
  unfold Dyn at cL
  simp only at cL
  generalize hiB 5 10 31744 = hb0 at cV
  clear u1 u2 u3 u4 u5 u6 r1 r2 r3 r4 r5 r6 r7 e1 e2 e3 e4 l0 l1 l2
  have b0 := Below.refl w.heap.size w
  go_enter Tryz.func10, Tryz.ntmps10
  go_wp2_with fail
  refine (cH w).mono ?_
  rintro en w1 ⟨rfl, hb1⟩
  have V1 := next b0 hb1
  go_wp2_with fail
  refine (cU w1).mono ?_
  rintro en w2 ⟨rfl, hb2⟩
  have V2 := next V1 hb2
  go_wp2_with fail
  refine (cH w2).mono ?_
  rintro en w3 ⟨rfl, hb3⟩
  have V3 := next V2 hb3
  go_wp2_with fail
  refine (cV w3).mono ?_
  rintro en w4 ⟨rfl, hb4⟩
  have V4 := next V3 hb4
  go_wp2_with fail
  refine (cH w4).mono ?_
  rintro en w5 ⟨rfl, hb5⟩
  have V5 := next V4 hb5
  go_wp2_with fail
  refine (cS w5).mono ?_
  rintro en w6 ⟨rfl, hb6⟩
  have V6 := next V5 hb6
  go_wp2_with fail
  refine (cH w6).mono ?_
  rintro en w7 ⟨rfl, hb7⟩
  have V7 := next V6 hb7
  clear b0 hb1 V1 hb2 V2 hb3 V3 hb4 V4 hb5 V5 hb6 V6 hb7 cU cV cS
  go_wp2_with fail
  refine (cR w7 (hT.below V7)).mono ?_
  rintro en w8 ⟨a1, n1, c1, a2, n2, c2, a3, n3, c3, a4, n4, c4, rfl, F1, F2, F3, F4, _, hb8⟩
  obtain rfl : n1 = 0 := F1.sl.len.symm
  obtain rfl : n3 = 1 := F3.sl.len.symm
  obtain rfl : n4 = 1 := F4.sl.len.symm
  have V8 := next V7 hb8
  obtain ⟨W9, hW9⟩ : ∃ W9 : World, W9 = (w8.alloc (.cells #[.bool false, .slice a1 0 c1, .slice a2 n2 c2] 30)).alloc (.cells #[.bool false, .slice a3 1 c3, .slice a4 1 c4] 30) := ⟨_, rfl⟩
  have hb9 : Below w8.heap.size w8 W9 := hW9 ▸ more (more (Below.refl _ _) _) _
  have V9 := next V8 hb9
  have A9 : Box3 W9 w8.heap.size (.bool false) (.slice a1 0 c1) (.slice a2 n2 c2) := hW9 ▸ (box3_new w8 _ _ _ _).alloc _
  have B9 : Box3 W9 (w8.heap.size + 1) (.bool false) (.slice a3 1 c3) (.slice a4 1 c4) := by
    have := box3_new (w8.alloc (.cells #[.bool false, .slice a1 0 c1, .slice a2 n2 c2] 30)) (.bool false) (.slice a3 1 c3) (.slice a4 1 c4) 30
    rw [World.size_alloc] at this
    exact hW9 ▸ this
  have G4 := F4.below hb9
  go_upto_region 5 with fail
  rw [← hW9]
  clear V7 V8 hb8 hb9 F1 F2 F3 F4 hW9 cR
  go_wp2_with fail
  refine (cH W9).mono ?_
  rintro en wA ⟨rfl, hbA⟩
  have AA := A9.stay hbA
  have BA := B9.stay hbA
  have GA := G4.below hbA
  have VA := next V9 hbA
  clear A9 B9 G4 V9 hbA
  go_wp2_with fail
  refine (cL wA (hT.below VA)).mono ?_
  rintro en wB ⟨d1, dn, dc, rfl, dF, hbB⟩
  have sB := more hbB (.cells #[.bool false, .slice d1 dn dc, .int .i64 5] 41)
  have DB := box3_new wB (.bool false) (.slice d1 dn dc) (.int .i64 5) 41
  have AB := AA.stay sB
  have BB := BA.stay sB
  have GB := GA.below sB
  have VB := next VA sB
  obtain ⟨g4, o4, rfl, _, k9⟩ := GB.sl.at_ (by decide)
  have k0 := k9 0 (by decide)
  rw [Nat.add_zero, show ((nth [33554432] 0 : Nat) : Int) = 33554432 from rfl] at k0
  clear k9
  go_upto_region 6 with fail
  obtain ⟨Db, hDb⟩ : ∃ q, q = wB.heap.size := ⟨_, rfl⟩
  rw [← hDb] at DB ⊢
  clear hDb AA BA GA VA sB dF hbB cL cH
  generalize wB.alloc (.cells #[.bool false, .slice d1 dn dc, .int .i64 5] 41) = wC at *
  have ⟨x0, x1, x2, _, _, _⟩ := AB
  have ⟨y0, y1, y2, _, _, _⟩ := BB
  have ⟨z0, z1, z2, _, _, _⟩ := DB
  go_wp2
  go_ret
  exact ⟨rfl, VB⟩

end Go.Proofs.YtfjgmpfpadfknaaGreatDoor

/-
  near.Reach where it refuses: the walk.
-/
namespace Go.Proofs.YtfjgmpfpadfknaaGreatDoor

open Go.RowKit Go.Lb

attribute [local go_sem] Go.World.cell?_alloc_some

/-- Why Reach refuses. -/
def rcE (e f : Int) (b m : Nat) : Int := if fitsE e f b ≠ 0 then fitsE e f b else if 4 < m then 7 else fnE e f [b]

theorem rc_ok {e f : Int} {b m : Nat} (h : rcE e f b m = 0) : ∃ E F : Nat, e = (E : Int) ∧ f = (F : Int) ∧ fitsE (E : Int) (F : Int) b = 0 ∧ exN E F b ≠ maskN E ∧ m < 5 := by
  unfold rcE at h
  by_cases h0 : fitsE e f b = 0
  · rw [if_neg (by simp [h0])] at h
    by_cases h1 : 4 < m
    · rw [if_pos h1] at h; cases h
    · rw [if_neg h1] at h
      obtain ⟨_, hx⟩ := fn_ok h
      obtain ⟨hf, _⟩ := fitsE_parts h0
      obtain ⟨q1, q2, q3, q4⟩ := formE_ok hf
      obtain ⟨E, rfl⟩ := Int.eq_ofNat_of_zero_le (by omega : 0 ≤ e)
      obtain ⟨F, rfl⟩ := Int.eq_ofNat_of_zero_le (by omega : 0 ≤ f)
      exact ⟨E, F, rfl, rfl, h0, hx, by omega⟩
  · rw [if_pos h0] at h
    exact absurd h h0

set_option maxRecDepth 100000 in
set_option maxHeartbeats 4000000 in
theorem nearReach_no (e f : Int) (b m : Nat) (w : World) (hb : b < 18446744073709551616) (hm : m < 256) (hE : rcE e f b m ≠ 0) :
    Calls Tryz.prog 11 #[.agg #[.int .i64 e, .int .i64 f], .int .u64 (b : Int), .int .u8 (m : Int)] w fun en w' => en = .returned (.tuple #[.agg #[.bool false, .slice none 0 0, .slice none 0 0], .agg #[.bool false, .slice none 0 0, .slice none 0 0], .bool false, .bool false, .int .i64 (rcE e f b m)]) ∧ Below w.heap.size w w' := by
  obtain ⟨W2, hW2⟩ : ∃ W2 : World, W2 = ((w.alloc (.cells #[.int .i64 e, .int .i64 f] 23)).alloc (.cells #[.bool false, .slice none 0 0, .slice none 0 0] 30)).alloc (.cells #[.bool false, .slice none 0 0, .slice none 0 0] 30) := ⟨_, rfl⟩
  have hb2 : Below w.heap.size w W2 := hW2 ▸ more (more (more (Below.refl _ _) _) _) _
  have F2 : Box2 W2 w.heap.size (.int .i64 e) (.int .i64 f) := by
    rw [hW2]; exact ((box2_new w _ _ _).alloc _).alloc _
  have R2 : Box3 W2 (w.heap.size + 1) (.bool false) (.slice none 0 0) (.slice none 0 0) := by
    have := (box3_new (w.alloc (.cells #[.int .i64 e, .int .i64 f] 23)) (.bool false) (.slice none 0 0) (.slice none 0 0) 30).alloc (.cells #[.bool false, .slice none 0 0, .slice none 0 0] 30)
    rw [World.size_alloc] at this
    exact hW2 ▸ this
  have S2 : Box3 W2 (w.heap.size + 1 + 1) (.bool false) (.slice none 0 0) (.slice none 0 0) := by
    have := box3_new ((w.alloc (.cells #[.int .i64 e, .int .i64 f] 23)).alloc (.cells #[.bool false, .slice none 0 0, .slice none 0 0] 30)) (.bool false) (.slice none 0 0) (.slice none 0 0) 30
    rw [World.size_alloc, World.size_alloc] at this
    exact hW2 ▸ this
  obtain ⟨W3, hW3⟩ : ∃ W3 : World, W3 = W2.alloc (.cells #[.int .u64 (b : Int)] 24) := ⟨_, rfl⟩
  have hb3 : Below W2.heap.size W2 W3 := hW3 ▸ more (Below.refl _ _) _
  have v0 : W3.cell? ⟨W2.heap.size, 0, none⟩ = some (.int .u64 (b : Int)) := by rw [hW3]; simp
  have cN := nearNumber_any W2.heap.size e f [b] W3 (by simp) (by simp) (one_cells hb v0)
  rw [askL_one, anN_one] at cN
  replace cN : Calls Tryz.prog 47 #[.agg #[.int .i64 e, .int .i64 f], .slice (some ⟨W2.heap.size, 0, none⟩) 1 1] W3 fun en w' => en = .returned (.tuple #[.int .i64 (fitsE e f b), .bool (decide (fitsE e f b = 0) && !nanB e.toNat f.toNat b)]) ∧ Below W3.heap.size W3 w' := cN
  have cF := fun P W (v : W.cell? ⟨P, 0, none⟩ = some (.int .u64 (b : Int))) => nearFinite_any P e f [b] W (by simp) (by simp) (one_cells hb v)
  replace cF : ∀ P W, W.cell? ⟨P, 0, none⟩ = some (.int .u64 (b : Int)) → Calls Tryz.prog 48 #[.agg #[.int .i64 e, .int .i64 f], .slice (some ⟨P, 0, none⟩) 1 1] W fun en w' => en = .returned (.int .i64 (fnE e f [b])) ∧ Below W.heap.size W w' := cF
  generalize (decide (fitsE e f b = 0) && !nanB e.toNat f.toNat b) = nn at cN
  unfold rcE at hE ⊢
  by_cases h0 : fitsE e f b = 0
  · rw [if_neg (by simp [h0])] at hE ⊢
    rw [h0] at cN
    clear h0
    by_cases h1 : 4 < m
    · rw [if_pos h1]
      have hmI : (4 : Int) < (m : Int) := by omega
      clear cF hE h1
      have ⟨f0, f1⟩ := F2
      go_enter Tryz.func11, Tryz.ntmps11
      go_upto_region 1 with fail
      rw [← hW2]
      clear hW2
      go_wp2_with fail
      rw [← hW3]
      refine cN.mono ?_
      rintro en w4 ⟨rfl, hb4⟩
      have hs4 := next hb3 hb4
      have R4 := R2.stay hs4
      have S4 := S2.stay hs4
      have V4 := next hb2 hs4
      have ⟨r0, r1, r2, r3, r4, r5⟩ := R4
      have ⟨s0, s1, s2, s3, s4, s5⟩ := S4
      clear f0 f1 cN
      go_wp2
      have y6 := set3_other (box3_put R4 (.bool false) (.slice none 0 0) (.slice none 0 0)) (show w.heap.size + 1 ≠ w.heap.size + 1 + 1 by omega) (.bool false) (.slice none 0 0) (.slice none 0 0)
      have y7 := box3_put (set3_other S4 (show w.heap.size + 1 + 1 ≠ w.heap.size + 1 by omega) (.bool false) (.slice none 0 0) (.slice none 0 0)) (.bool false) (.slice none 0 0) (.slice none 0 0)
      have ⟨t0, t1, t2, _, _, _⟩ := y6
      have ⟨t3, t4, t5, _, _, _⟩ := y7
      refine bodyPost_ret (v := .tuple #[.agg #[.bool false, .slice none 0 0, .slice none 0 0], .agg #[.bool false, .slice none 0 0, .slice none 0 0], .bool false, .bool false, .int .i64 7]) (by simp [results, Tryz.results11, go_sem, t0, t1, t2, t3, t4, t5]) rfl ⟨rfl, ?_⟩
      exact (((((V4.setCell (by simp) _).setCell (by simp) _).setCell (by simp) _).setCell (by simp; omega) _).setCell (by simp; omega) _).setCell (by simp; omega) _
    · rw [if_neg h1] at hE ⊢
      have hmI : ¬ (4 : Int) < (m : Int) := by omega
      generalize fnE e f [b] = T at *
      clear h1
      have ⟨f0, f1⟩ := F2
      go_enter Tryz.func11, Tryz.ntmps11
      go_upto_region 1 with fail
      rw [← hW2]
      clear hW2
      go_wp2_with fail
      rw [← hW3]
      refine cN.mono ?_
      rintro en w4 ⟨rfl, hb4⟩
      have hs4 := next hb3 hb4
      have F4 := F2.stay hs4
      have R4 := R2.stay hs4
      have S4 := S2.stay hs4
      have V4 := next hb2 hs4
      clear F2 R2 S2 hb2 hb3 hb4 hs4 cN f0 f1 v0 hW3
      have ⟨f0, f1⟩ := F4
      obtain ⟨W5, hW5⟩ : ∃ W5 : World, W5 = w4.alloc (.cells #[.int .u64 (b : Int)] 24) := ⟨_, rfl⟩
      have hb5 : Below w4.heap.size w4 W5 := hW5 ▸ more (Below.refl _ _) _
      have v5 : W5.cell? ⟨w4.heap.size, 0, none⟩ = some (.int .u64 (b : Int)) := by rw [hW5]; simp
      go_wp2_with fail
      rw [← hW5]
      refine (cF w4.heap.size W5 v5).mono ?_
      rintro en w6 ⟨rfl, hb6⟩
      have hs6 := next hb5 hb6
      have R6 := R4.stay hs6
      have S6 := S4.stay hs6
      have V6 := next V4 hs6
      clear f0 f1 v5 cF hW5
      have ⟨r0, r1, r2, r3, r4, r5⟩ := R6
      have ⟨s0, s1, s2, s3, s4, s5⟩ := S6
      go_wp2
      have y6 := set3_other (box3_put R6 (.bool false) (.slice none 0 0) (.slice none 0 0)) (show w.heap.size + 1 ≠ w.heap.size + 1 + 1 by omega) (.bool false) (.slice none 0 0) (.slice none 0 0)
      have y7 := box3_put (set3_other S6 (show w.heap.size + 1 + 1 ≠ w.heap.size + 1 by omega) (.bool false) (.slice none 0 0) (.slice none 0 0)) (.bool false) (.slice none 0 0) (.slice none 0 0)
      have ⟨t0, t1, t2, _, _, _⟩ := y6
      have ⟨t3, t4, t5, _, _, _⟩ := y7
      refine bodyPost_ret (v := .tuple #[.agg #[.bool false, .slice none 0 0, .slice none 0 0], .agg #[.bool false, .slice none 0 0, .slice none 0 0], .bool false, .bool false, .int .i64 T]) (by simp [results, Tryz.results11, go_sem, t0, t1, t2, t3, t4, t5]) rfl ⟨rfl, ?_⟩
      exact (((((V6.setCell (by simp) _).setCell (by simp) _).setCell (by simp) _).setCell (by simp; omega) _).setCell (by simp; omega) _).setCell (by simp; omega) _
  · rw [if_pos h0]
    generalize fitsE e f b = T at *
    clear cF hE
    have ⟨f0, f1⟩ := F2
    go_enter Tryz.func11, Tryz.ntmps11
    go_upto_region 1 with fail
    rw [← hW2]
    clear hW2
    go_wp2_with fail
    rw [← hW3]
    refine cN.mono ?_
    rintro en w4 ⟨rfl, hb4⟩
    have hs4 := next hb3 hb4
    have R4 := R2.stay hs4
    have S4 := S2.stay hs4
    have V4 := next hb2 hs4
    have ⟨r0, r1, r2, r3, r4, r5⟩ := R4
    have ⟨s0, s1, s2, s3, s4, s5⟩ := S4
    clear f0 f1 cN
    go_wp2
    have y6 := set3_other (box3_put R4 (.bool false) (.slice none 0 0) (.slice none 0 0)) (show w.heap.size + 1 ≠ w.heap.size + 1 + 1 by omega) (.bool false) (.slice none 0 0) (.slice none 0 0)
    have y7 := box3_put (set3_other S4 (show w.heap.size + 1 + 1 ≠ w.heap.size + 1 by omega) (.bool false) (.slice none 0 0) (.slice none 0 0)) (.bool false) (.slice none 0 0) (.slice none 0 0)
    have ⟨t0, t1, t2, _, _, _⟩ := y6
    have ⟨t3, t4, t5, _, _, _⟩ := y7
    refine bodyPost_ret (v := .tuple #[.agg #[.bool false, .slice none 0 0, .slice none 0 0], .agg #[.bool false, .slice none 0 0, .slice none 0 0], .bool false, .bool false, .int .i64 T]) (by simp [results, Tryz.results11, go_sem, t0, t1, t2, t3, t4, t5]) rfl ⟨rfl, ?_⟩
    exact (((((V4.setCell (by simp) _).setCell (by simp) _).setCell (by simp) _).setCell (by simp; omega) _).setCell (by simp; omega) _).setCell (by simp; omega) _

end Go.Proofs.YtfjgmpfpadfknaaGreatDoor

/-
  Plain: what ends a float's reach begins that of its upper neighbour, and is in just one of the two.
-/
namespace Go.Proofs.YtfjgmpfpadfknaaGreatDoor

open Go.RowKit Go.Lb

theorem uniq_div {P a b c d : Nat} (hb : b < P) (hd : d < P) (h : a * P + b = c * P + d) : a = c ∧ b = d := by
  have hp : 0 < P := by omega
  have e1 : (a * P + b) / P = a := by rw [Nat.mul_comm, Nat.mul_add_div hp, Nat.div_eq_of_lt hb, Nat.add_zero]
  have e2 : (c * P + d) / P = c := by rw [Nat.mul_comm, Nat.mul_add_div hp, Nat.div_eq_of_lt hd, Nat.add_zero]
  have h1 : a = c := by rw [← e1, h, e2]
  subst h1
  exact ⟨rfl, by omega⟩

theorem gN_next {e f m : Nat} (h : m + 1 < pw (e + f)) : gN e f (m + 1) = gN e f m + 2 ^ (max (exN e f m) 1 - 1) := by
  have hp := pw_pos f
  have la : frN f m < pw f := by rw [frN_eq]; exact Nat.mod_lt _ hp
  have lb : frN f (m + 1) < pw f := by rw [frN_eq]; exact Nat.mod_lt _ hp
  have p1 := mg_parts e f m
  have p2 := mg_parts e f (m + 1)
  rw [mag_self (by omega)] at p1
  rw [mag_self h] at p2
  have hx : ∀ b, (vX e f b - baseI e f).toNat = max (exN e f b) 1 - 1 := fun b => by
    unfold vX baseI
    by_cases h0 : exN e f b = 0
    · rw [if_pos h0, h0]; omega
    · rw [if_neg h0]; omega
  unfold gN upW
  rw [hx, hx]
  unfold vN
  by_cases hc : frN f m + 1 < pw f
  · obtain ⟨q1, q2⟩ := uniq_div (P := pw f) (a := exN e f (m + 1)) (b := frN f (m + 1)) (c := exN e f m) (d := frN f m + 1) lb hc (by omega)
    rw [q1, q2]
    by_cases h0 : exN e f m = 0
    · rw [if_pos h0, if_pos h0, h0]; simp
    · rw [if_neg h0, if_neg h0, ← Nat.add_assoc, Nat.add_mul, Nat.one_mul]
  · have hc' : frN f m + 1 = pw f := by omega
    obtain ⟨q1, q2⟩ := uniq_div (P := pw f) (a := exN e f (m + 1)) (b := frN f (m + 1)) (c := exN e f m + 1) (d := 0) lb hp (by rw [Nat.add_mul, Nat.one_mul]; omega)
    rw [q1, q2]
    by_cases h0 : exN e f m = 0
    · rw [if_neg (by omega), if_pos h0, h0]; simp; omega
    · rw [if_neg (by omega), if_neg h0, Nat.add_zero, show max (exN e f m + 1) 1 - 1 = (exN e f m - 1) + 1 by omega, show max (exN e f m) 1 - 1 = exN e f m - 1 by omega, Nat.pow_succ]
      generalize 2 ^ (exN e f m - 1) = Z
      have h1 : (pw f + frN f m) * Z + Z = (pw f + frN f m + 1) * Z := by rw [Nat.add_mul (pw f + frN f m) 1, Nat.one_mul]
      rw [h1, show pw f + frN f m + 1 = 2 * pw f by omega, Nat.mul_comm Z 2, ← Nat.mul_assoc, Nat.mul_comm (pw f) 2]

/-- The magnitude's ends may be taken as fractions, with either sign. -/
theorem end_rat {e f m : Nat} (hf : formE (e : Int) (f : Int) = 0) (hp : m < pw (e + f)) (hx : exN e f m ≠ maskN e) (M : Nat) (s : Bool) (D : Ds) (hD : D = rcI e f m M ∨ D = rcO e f m M) (hs : s = true → D.N ≠ 0) : ratB s (limbs (upN D.N D.x)) (limbs (upD D.x)) = true := by
  obtain ⟨dI, gI, dO, gO⟩ := mean_bds hf hp hx M
  obtain ⟨s1, s2, _⟩ := rc_s hf hp hx M
  obtain ⟨b1, b2, b3, b4⟩ := base_small hf
  rw [s1] at dI
  rw [s2] at dO
  have key : ratB false (limbs (upN D.N D.x)) (limbs (upD D.x)) = true := by
    rcases hD with rfl | rfl
    · exact (low6 dI gI (by omega) (by omega) (by omega)).1
    · exact (low6 dO gO (by omega) (by omega) (by omega)).1
  unfold ratB at key ⊢
  have k := of_decide_eq_true key
  refine decide_eq_true ⟨k.1, k.2.1, k.2.2.1, k.2.2.2.1, fun h => ?_⟩
  rw [val_limbs']
  unfold upN
  exact Nat.mul_ne_zero (hs h) (Nat.ne_of_gt (Nat.two_pow_pos _))

theorem cmpQ_self (q : Rat) : cmpQ q q = 0 := by
  unfold cmpQ
  rw [if_neg (Rat.lt_irrefl), if_neg (Rat.lt_irrefl)]

end Go.Proofs.YtfjgmpfpadfknaaGreatDoor

/-
  A law for a region that draws its order and whose last call writes what its loads read: the condition on the world need not
  stand behind the one call for which all the loads are waited.
-/
namespace Go.Proofs.YtfjgmpfpadfknaaGreatDoor

open Go.RowKit Go.Lb

section

variable {P : Program} {ops : Array Oper} {Q : Exit → Act → World → Prop} {md : Region.Mode} {S : World → Prop} {t : Nat}

/-- Whatever order is picked from here on; S holds behind each operation that is carried out ahead of number t. -/
def tillT (P : Program) (md : Region.Mode) (ops : Array Oper) (Q : Exit → Act → World → Prop) (S : World → Prop) (t : Nat) : Nat → Array Bool → Act → World → Prop
  | 0, listed, a, w => Region.ready md ops listed = [] ∧ Q .normal a w
  | fuel + 1, listed, a, w =>
    (Region.ready md ops listed = [] → Q .normal a w) ∧
    ∀ i ∈ Region.ready md ops listed, wpOp P ops Q i (fun a' w' => (i = t → wpAny P md ops Q fuel (listed.setIfInBounds i true) a' w') ∧ (i ≠ t → S w' ∧ tillT P md ops Q S t fuel (listed.setIfInBounds i true) a' w')) a w

theorem any_of_till : ∀ (fuel : Nat) (listed : Array Bool) (a : Act) (w : World), tillT P md ops Q S t fuel listed a w → wpAny P md ops Q fuel listed a w
  | 0, _, _, _, h => h
  | fuel + 1, _, _, _, h => ⟨h.1, fun i hi => wpOp_mono (fun a' w' h' => by
      by_cases e : i = t
      · exact h'.1 e
      · exact any_of_till fuel _ a' w' (h'.2 e).2) (h.2 i hi)⟩

/-- Number j waits for number d. -/
def waitsB (md : Region.Mode) (ops : Array Oper) (j d : Nat) : Bool := match ops[j]? with
  | some o => o.after.any fun e => Region.binds md e && e.on == d
  | none => false

/-- All of C wait, one for the other, for number i; number t is among them. -/
def barred (md : Region.Mode) (ops : Array Oper) (listed : Array Bool) (i t : Nat) (C : List Nat) : Bool :=
  C.contains t && (i != t) && C.all fun c => !listed.getD c true && (c == i || C.any fun d => waitsB md ops c d)

theorem not_ready {listed : Array Bool} {i j : Nat} {C : List Nat} (hsta : ∀ c ∈ C, c ≠ i → ∃ d ∈ C, waitsB md ops c d = true) (hun : ∀ c ∈ C, listed.getD c true = false) (hj : j ∈ Region.ready md ops listed) (hji : j ≠ i) : j ∉ C := fun hC => by
  obtain ⟨d, hd, hw⟩ := hsta j hC hji
  obtain ⟨_, o, ho, hall⟩ := mem_ready.1 hj
  unfold waitsB at hw
  rw [ho] at hw
  obtain ⟨k, hk, he⟩ := Array.any_eq_true.1 hw
  rw [Bool.and_eq_true] at he
  have h1 := hall _ (Array.getElem_mem hk) he.1
  rw [beq_iff_eq.1 he.2] at h1
  have h0 := hun d hd
  rcases Nat.lt_or_ge d listed.size with h' | h'
  · simp [h'] at h0 h1; rw [h0] at h1; cases h1
  · simp [Array.getElem?_eq_none h'] at h1

theorem till_first {i : Nat} {oi : Oper} {v : Value} {C : List Nat} (hi : ops[i]? = some oi) (hsel : ∀ (j : Nat) (o : Oper) cs b, ops[j]? = some o → o.op ≠ .select cs b)
    (hQ : ∀ c a w, Q (.panic c) (a.put oi.dst v) w → Q (.panic c) a w) (hsta : ∀ c ∈ C, c ≠ i → ∃ d ∈ C, waitsB md ops c d = true) (htC : t ∈ C) (hit : i ≠ t) :
    ∀ (fuel : Nat) (listed : Array Bool) (a : Act) (w : World),
      (∀ j oj, ops[j]? = some oj → j ≠ i → listed.getD j true = false → (∀ e ∈ oj.after, Region.binds md e = true → e.on ≠ i) → oi.apart ops oj = true) →
      (∀ c ∈ C, listed.getD c true = false) →
      i ∈ Region.ready md ops listed → YieldsIf P ops S oi v a → S w →
      tillT P md ops Q S t fuel (listed.setIfInBounds i true) (a.put oi.dst v) w → tillT P md ops Q S t (fuel + 1) listed a w := by
  intro fuel
  induction fuel with
  | zero =>
    intro listed a w _ _ hr hy hS H
    refine ⟨fun h => (by rw [h] at hr; cases hr), fun j hj => ?_⟩
    by_cases hji : j = i
    · subst hji; exact hy.wpOp hi hS ⟨fun e => absurd e hit, fun _ => ⟨hS, H⟩⟩
    · have := ready_mono hj hji
      rw [H.1] at this
      cases this
  | succ fuel ih =>
    intro listed a w hfree hun hr hy hS H
    refine ⟨fun h => (by rw [h] at hr; cases hr), fun j hj => ?_⟩
    by_cases hji : j = i
    · subst hji; exact hy.wpOp hi hS ⟨fun e => absurd e hit, fun _ => ⟨hS, H⟩⟩
    · have hjC := not_ready hsta hun hj hji
      have hjt : j ≠ t := fun e => hjC (e ▸ htC)
      have h1 := wpOp_mono (fun a' w' h => h.2 hjt) (H.2 j (ready_mono hj hji))
      obtain ⟨hjun, oj, hoj, hall⟩ := mem_ready.1 hj
      have hnot : ∀ e ∈ oj.after, Region.binds md e = true → e.on ≠ i := fun e he hb heq => by
        have h1 := hall e he hb
        have h0 := (mem_ready.1 hr).1
        rw [heq] at h1
        rcases Nat.lt_or_ge i listed.size with h' | h'
        · simp [h'] at h0 h1; rw [h0] at h1; cases h1
        · simp [Array.getElem?_eq_none h'] at h1
      have h2 := wpOp_putIf hoj (hfree j oj hoj hji hjun hnot) (fun cs b => hsel i oi cs b hi) (fun cs b => hsel j oj cs b hoj) hQ hy h1
      have hfree' : ∀ k ok, ops[k]? = some ok → k ≠ i → (listed.setIfInBounds j true).getD k true = false →
          (∀ e ∈ ok.after, Region.binds md e = true → e.on ≠ i) → oi.apart ops ok = true := fun k ok hk hki hun hno => by
        refine hfree k ok hk hki ?_ hno
        by_cases hjk : j = k
        · subst hjk; exact hjun
        · rw [getD_set_ne true hjk] at hun; exact hun
      have hun' : ∀ c ∈ C, (listed.setIfInBounds j true).getD c true = false := fun c hc => by
        have hjc : j ≠ c := fun e => hjC (by rw [e]; exact hc)
        rw [getD_set_ne true hjc]
        exact hun c hc
      refine wpOp_mono (fun a' w' h3 => ⟨fun e => absurd e hjt, fun _ => ⟨h3.2.1, ih (listed.setIfInBounds j true) a' w' hfree' hun' (ready_mono hr (Ne.symm hji)) h3.1 h3.2.1 ?_⟩⟩) h2
      rw [Array.setIfInBounds_comm _ _ hji]
      exact h3.2.2

theorem till_take {i : Nat} (C : List Nat) {oi : Oper} {v : Value} {fuel : Nat} {listed : Array Bool} {a : Act} {w : World} (hi : ops[i]? = some oi)
    (hs : Region.noSelect ops = true) (hf : Region.free md ops listed i = true) (hr : (Region.ready md ops listed).contains i = true) (hb : barred md ops listed i t C = true)
    (hQ : ∀ c a w, Q (.panic c) (a.put oi.dst v) w → Q (.panic c) a w) (hy : YieldsIf P ops S oi v a) (hS : S w)
    (h : tillT P md ops Q S t fuel (listed.setIfInBounds i true) (a.put oi.dst v) w) : tillT P md ops Q S t (fuel + 1) listed a w := by
  unfold barred at hb
  rw [Bool.and_eq_true, Bool.and_eq_true] at hb
  obtain ⟨⟨b1, b2⟩, b3⟩ := hb
  have b4 : ∀ c ∈ C, listed.getD c true = false ∧ (c = i ∨ ∃ d ∈ C, waitsB md ops c d = true) := fun c hc => by
    have := List.all_eq_true.1 b3 c hc
    rw [Bool.and_eq_true, Bool.or_eq_true, beq_iff_eq, List.any_eq_true] at this
    exact ⟨by simpa using this.1, this.2⟩
  exact till_first hi (Region.noSelect_spec hs) hQ (fun c hc h => (b4 c hc).2.resolve_left h) (by simpa using b1) (by simpa using b2) fuel listed a w (Region.free_spec hi hf) (fun c hc => (b4 c hc).1) (by simpa using hr) hy hS h

theorem till_step {i : Nat} {o : Oper} {fuel : Nat} {listed : Array Bool} {a : Act} {w : World} (hr : Region.ready md ops listed = [i]) (ho : ops[i]? = some o) (hit : i ≠ t)
    (h : ∀ K' : Act → World → Prop, Shut (∀ a w, S w → tillT P md ops Q S t fuel (listed.setIfInBounds i true) a w → K' a w) → if Region.wanted o (yielded ops a.tmps) = true then Oper.wp P o a w K' Q else K' (a.put o.dst undef) w) :
    tillT P md ops Q S t (fuel + 1) listed a w := by
  refine ⟨fun h0 => (by rw [hr] at h0; cases h0), ?_⟩
  rw [hr]
  intro j hj
  cases List.mem_singleton.1 hj
  exact wpOp_step ho (fun K' hK => h K' (fun a w hS hW => hK a w ⟨fun e => absurd e hit, fun _ => ⟨hS, hW⟩⟩))

theorem till_last {o : Oper} {fuel : Nat} {listed : Array Bool} {a : Act} {w : World} (hr : Region.ready md ops listed = [t]) (ho : ops[t]? = some o)
    (h : ∀ K' : Act → World → Prop, Shut (∀ a w, wpAny P md ops Q fuel (listed.setIfInBounds t true) a w → K' a w) → if Region.wanted o (yielded ops a.tmps) = true then Oper.wp P o a w K' Q else K' (a.put o.dst undef) w) :
    tillT P md ops Q S t (fuel + 1) listed a w := by
  refine ⟨fun h0 => (by rw [hr] at h0; cases h0), ?_⟩
  rw [hr]
  intro j hj
  cases List.mem_singleton.1 hj
  exact wpOp_step ho (fun K' hK => h K' (fun a w hW => hK a w ⟨fun _ => hW, fun e => absurd rfl e⟩))

theorem till_region {id : Nat} {a : Act} {w : World} (S : World → Prop) (t : Nat) (hm : P.follows .mixedOrders = true) (hS : S w.drew)
    (h : S w.drew → tillT P .any ops Q S t ops.size (Array.replicate ops.size false) a w.drew) : (Code.region id ops true).wp P Q a w :=
  wp_region_any hm (any_of_till _ _ _ _ (h hS))

end

end Go.Proofs.YtfjgmpfpadfknaaGreatDoor

