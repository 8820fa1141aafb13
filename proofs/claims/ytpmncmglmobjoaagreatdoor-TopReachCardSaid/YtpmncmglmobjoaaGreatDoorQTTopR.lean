/-
  Contracts for TopReach: numeralref02's both and Cmp of fractions that may be; the top's cmp, minus, brief, rounds.
-/
import Derived.Test.YtpmncmglmobjoaaGreatDoorQTrBase
set_option maxHeartbeats 2000000
set_option maxRecDepth 100000
namespace Go.Proofs.YtpmncmglmobjoaaGreatDoor
open Go.RowKit Go.Lb
attribute [local go_sem] Go.World.cell?_alloc_some
theorem rf2Both_ok (s t : Bool) (a1 a2 b1 b2 : Option Addr) (n1 n2 m1 m2 c1 c2 d1 d2 : Nat) (xs ys us vs : List Nat) (w : World) (h1 : Sl w a1 n1 c1 xs) (h2 : Sl w a2 n2 c2 ys) (h3 : Sl w b1 m1 d1 us) (h4 : Sl w b2 m2 d2 vs) (hT : Tab w) (hr : ratB s xs ys = true) (ht : ratB t us vs = true) :
 Calls Tryz.prog 54 #[.agg #[.bool s, .slice a1 n1 c1, .slice a2 n2 c2], .agg #[.bool t, .slice b1 m1 d1, .slice b2 m2 d2]] w fun en w' => ∃ p q, en = .returned (.tuple #[.pointer (some ⟨p, 0, none⟩), .pointer (some ⟨q, 0, none⟩), .int .i64 0]) ∧ Rq 40 w' w.heap.size p (sgQ' s (val xs) (val ys)) ∧ Rq 40 w' w.heap.size q (sgQ' t (val us) (val vs)) ∧ Below w.heap.size w w' := by
 obtain ⟨W2, hW2⟩ : ∃ W2 : World, W2 = (w.alloc (.cells #[.bool s, .slice a1 n1 c1, .slice a2 n2 c2] 29)).alloc (.cells #[.bool t, .slice b1 m1 d1, .slice b2 m2 d2] 29) := ⟨_, rfl⟩
 have hb2 : Below w.heap.size w W2 := hW2 ▸ more (more (Below.refl _ _) _) _
 have D2 : Box3 W2 w.heap.size (.bool s) (.slice a1 n1 c1) (.slice a2 n2 c2) := hW2 ▸ (box3_new w _ _ _ _).alloc _
 have R2 : Box3 W2 (w.heap.size + 1) (.bool t) (.slice b1 m1 d1) (.slice b2 m2 d2) := by
  have := box3_new (w.alloc (.cells #[.bool s, .slice a1 n1 c1, .slice a2 n2 c2] 29)) (.bool t) (.slice b1 m1 d1) (.slice b2 m2 d2) 29
  rw [World.size_alloc] at this
  exact hW2 ▸ this
 obtain ⟨fx, fy, hD, hG, hs, l1, l2⟩ := rat_facts5 h1 h2 hr
 obtain ⟨fu, fv, hD', hG', hs', l3, l4⟩ := rat_facts5 h3 h4 ht
 have cA : ∀ W, Below w.heap.size w W → Calls Tryz.prog 13 #[.agg #[.bool s, .slice a1 n1 c1, .slice a2 n2 c2]] W fun e w' => e = .returned (.int .i64 0) ∧ Below W.heap.size W w' := fun W hW => by
  have := rf2Check_any s a1 a2 n1 n2 c1 c2 xs ys W (h1.below hW) (h2.below hW) (hT.below hW)
  rwa [show ratE s xs ys = 0 from if_pos hr] at this
 have cB : ∀ W, Below w.heap.size w W → Calls Tryz.prog 13 #[.agg #[.bool t, .slice b1 m1 d1, .slice b2 m2 d2]] W fun e w' => e = .returned (.int .i64 0) ∧ Below W.heap.size W w' := fun W hW => by
  have := rf2Check_any t b1 b2 m1 m2 d1 d2 us vs W (h3.below hW) (h4.below hW) (hT.below hW)
  rwa [show ratE t us vs = 0 from if_pos ht] at this
 have rA : ∀ W, Below w.heap.size w W → Calls Tryz.prog 97 #[.agg #[.bool s, .slice a1 n1 c1, .slice a2 n2 c2]] W (MkQ 40 (sgQ' s (val xs) (val ys)) W) := fun W hW => rf2Rat_any a1 a2 n1 n2 c1 c2 s xs ys W (h1.below hW) (h2.below hW) fx fy hD l1 l2 (hT.below hW)
 have rB : ∀ W, Below w.heap.size w W → Calls Tryz.prog 97 #[.agg #[.bool t, .slice b1 m1 d1, .slice b2 m2 d2]] W (MkQ 40 (sgQ' t (val us) (val vs)) W) := fun W hW => rf2Rat_any b1 b2 m1 m2 d1 d2 t us vs W (h3.below hW) (h4.below hW) fu fv hD' l3 l4 (hT.below hW)
 generalize sgQ' s (val xs) (val ys) = qx at *
 generalize sgQ' t (val us) (val vs) = qy at *
 clear h1 h2 h3 h4 hT hr ht fx fy hD hG hs l1 l2 fu fv hD' hG' hs' l3 l4
 have ⟨x0, x1, x2, _, _, _⟩ := D2
 go_enter Tryz.func54, Tryz.ntmps54
 go_upto_region 1 with fail
 rw [← hW2]
 clear hW2
 go_wp2_with fail
 (with_reducible refine (cA W2 hb2).mono ?_)
 rintro en w3 ⟨rfl, hb3⟩
 have V3 := next hb2 hb3
 have D3 := D2.stay hb3
 have R3 := R2.stay hb3
 clear x0 x1 x2 D2 R2 hb3 cA
 have ⟨y0, y1, y2, _, _, _⟩ := R3
 go_wp2_with fail
 (with_reducible refine (cB w3 V3).mono ?_)
 rintro en w4 ⟨rfl, hb4⟩
 have V4 := next V3 hb4
 have D4 := D3.stay hb4
 have R4 := R3.stay hb4
 clear y0 y1 y2 D3 R3 hb4 cB V3
 have ⟨x0, x1, x2, _, _, _⟩ := D4
 have ⟨y0, y1, y2, _, _, _⟩ := R4
 have kS : ∀ W, Below w4.heap.size w4 W → W.cell? ⟨w.heap.size, 0, none⟩ = some (.bool s) ∧ W.cell? ⟨w.heap.size, 1, none⟩ = some (.slice a1 n1 c1) ∧ W.cell? ⟨w.heap.size, 2, none⟩ = some (.slice a2 n2 c2) ∧ W.cell? ⟨w.heap.size + 1, 0, none⟩ = some (.bool t) ∧ W.cell? ⟨w.heap.size + 1, 1, none⟩ = some (.slice b1 m1 d1) ∧ W.cell? ⟨w.heap.size + 1, 2, none⟩ = some (.slice b2 m2 d2) :=
  fun W hb => ⟨cellStay x0 hb, cellStay x1 hb, cellStay x2 hb, cellStay y0 hb, cellStay y1 hb, cellStay y2 hb⟩
 go_upto_region 3 with fail
 go_region_held3 (fun W => W.cell? ⟨w.heap.size, 0, none⟩ = some (.bool s) ∧ W.cell? ⟨w.heap.size, 1, none⟩ = some (.slice a1 n1 c1) ∧ W.cell? ⟨w.heap.size, 2, none⟩ = some (.slice a2 n2 c2) ∧ W.cell? ⟨w.heap.size + 1, 0, none⟩ = some (.bool t) ∧ W.cell? ⟨w.heap.size + 1, 1, none⟩ = some (.slice b1 m1 d1) ∧ W.cell? ⟨w.heap.size + 1, 2, none⟩ = some (.slice b2 m2 d2))
  (((refine kS _ ?_); (first | exact (Below.refl _ _).drew | exact hWA | exact hWA.drew | exact hWB | exact hWB.drew)))
  (first
    | (go_at_call 97; (with_reducible refine (rA _ (by first | exact V4.drew | exact V4)).mono ?_); rintro en wA ⟨p, rfl, Q5, hbA⟩; have hWA : Below w4.heap.size w4 wA := undrew hbA)
    | (go_at_call 97; (with_reducible refine (rB _ (next V4 hWA)).mono ?_); rintro en wB ⟨q, rfl, Q6, hbB⟩; have hWB : Below w4.heap.size w4 wB := next hWA hbB))
 have V6 := next V4 hWB
 have z4 : w.heap.size ≤ w4.heap.size := V4.size
 have z5 : w.heap.size ≤ wA.heap.size := (next V4 hWA).size
 have g1 := (Q5.stay hbB).mono (show w.heap.size ≤ w4.drew.heap.size from z4)
 have g2 := Q6.mono z5
 rename_i hh
 clear hh kS x0 x1 x2 y0 y1 y2 D4 R4 rA rB Q5 Q6 hbA hbB hWA hWB
 go_wp2
 go_ret3
 exact ⟨p, q, rfl, g1, g2, V6⟩
theorem rf2Cmp_ok (s t : Bool) (a1 a2 b1 b2 : Option Addr) (n1 n2 m1 m2 c1 c2 d1 d2 : Nat) (xs ys us vs : List Nat) (w : World) (h1 : Sl w a1 n1 c1 xs) (h2 : Sl w a2 n2 c2 ys) (h3 : Sl w b1 m1 d1 us) (h4 : Sl w b2 m2 d2 vs) (hT : Tab w) (hr : ratB s xs ys = true) (ht : ratB t us vs = true) :
 Calls Tryz.prog 22 #[.agg #[.bool s, .slice a1 n1 c1, .slice a2 n2 c2], .agg #[.bool t, .slice b1 m1 d1, .slice b2 m2 d2]] w fun en w' => en = .returned (.tuple #[.int .i64 (cmpQ (sgQ' s (val xs) (val ys)) (sgQ' t (val us) (val vs))), .int .i64 0]) ∧ Below w.heap.size w w' := by
 obtain ⟨W2, hW2⟩ : ∃ W2 : World, W2 = (w.alloc (.cells #[.bool s, .slice a1 n1 c1, .slice a2 n2 c2] 29)).alloc (.cells #[.bool t, .slice b1 m1 d1, .slice b2 m2 d2] 29) := ⟨_, rfl⟩
 have hb2 : Below w.heap.size w W2 := hW2 ▸ more (more (Below.refl _ _) _) _
 have D2 : Box3 W2 w.heap.size (.bool s) (.slice a1 n1 c1) (.slice a2 n2 c2) := hW2 ▸ (box3_new w _ _ _ _).alloc _
 have R2 : Box3 W2 (w.heap.size + 1) (.bool t) (.slice b1 m1 d1) (.slice b2 m2 d2) := by
  have := box3_new (w.alloc (.cells #[.bool s, .slice a1 n1 c1, .slice a2 n2 c2] 29)) (.bool t) (.slice b1 m1 d1) (.slice b2 m2 d2) 29
  rw [World.size_alloc] at this
  exact hW2 ▸ this
 have cB := rf2Both_ok s t a1 a2 b1 b2 n1 n2 m1 m2 c1 c2 d1 d2 xs ys us vs W2 (h1.below hb2) (h2.below hb2) (h3.below hb2) (h4.below hb2) (hT.below hb2) hr ht
 obtain ⟨_, _, hD, hG, hs, l1, l2⟩ := rat_facts5 h1 h2 hr
 obtain ⟨_, _, hD', hG', hs', l3, l4⟩ := rat_facts5 h3 h4 ht
 obtain ⟨q1, q2, _⟩ := mk_low hD hG hs
 obtain ⟨r1, r2, _⟩ := mk_low hD' hG' hs'
 have lN : ln (val xs) ≤ 16384 := Nat.le_trans (ln_le (val_lt h1.ok)) (by rw [h1.len]; exact l1)
 have lD : ln (val ys) ≤ 16384 := Nat.le_trans (ln_le (val_lt h2.ok)) (by rw [h2.len]; exact l2)
 have lM : ln (val us) ≤ 16384 := Nat.le_trans (ln_le (val_lt h3.ok)) (by rw [h3.len]; exact l3)
 have lE : ln (val vs) ≤ 16384 := Nat.le_trans (ln_le (val_lt h4.ok)) (by rw [h4.len]; exact l4)
 have hC : ∀ (W : World) (B1 B2 z1 z2 : Nat), Rq 40 W B1 z1 (sgQ' s (val xs) (val ys)) → Rq 40 W B2 z2 (sgQ' t (val us) (val vs)) → Calls Tryz.prog 55 #[.pointer (some ⟨z1, 0, none⟩), .pointer (some ⟨z2, 0, none⟩)] W fun e w' => e = .returned (.int .i64 (cmpQ (sgQ' s (val xs) (val ys)) (sgQ' t (val us) (val vs)))) ∧ Below W.heap.size W w' := fun W B1 B2 z1 z2 x y => nbRCmp_any z1 z2 B1 B2 _ _ W x y (by rw [q1]; omega) (by rw [q2]; omega) (by rw [r1]; omega) (by rw [r2]; omega)
 generalize sgQ' s (val xs) (val ys) = qx at *
 generalize sgQ' t (val us) (val vs) = qy at *
 generalize cmpQ qx qy = cv at *
 clear q1 q2 r1 r2 hD hG hs hD' hG' hs' l1 l2 l3 l4 lN lD lM lE h1 h2 h3 h4 hr ht hT
 have ⟨x0, x1, x2, _, _, _⟩ := D2
 have ⟨y0, y1, y2, _, _, _⟩ := R2
 go_enter Tryz.func22, Tryz.ntmps22
 go_upto_region 1 with fail
 rw [← hW2]
 clear hW2
 go_wp2_with fail
 (with_reducible refine cB.mono ?_)
 rintro en w3 ⟨p, q, rfl, Q1, Q2, hb3⟩
 clear x0 x1 x2 y0 y1 y2 D2 R2 cB
 go_wp2_with fail
 (with_reducible refine (hC w3 _ _ p q Q1 Q2).mono ?_)
 rintro en w5 ⟨rfl, hb5⟩
 go_wp2
 go_ret2
 exact ⟨rfl, next (next hb2 hb3) hb5⟩
theorem topCmp_ok (s t : Bool) (a1 a2 b1 b2 : Option Addr) (n1 n2 m1 m2 c1 c2 d1 d2 : Nat) (xs ys us vs : List Nat) (w : World) (h1 : Sl w a1 n1 c1 xs) (h2 : Sl w a2 n2 c2 ys) (h3 : Sl w b1 m1 d1 us) (h4 : Sl w b2 m2 d2 vs) (hT : Tab w) (hr : ratB s xs ys = true) (ht : ratB t us vs = true) :
 Calls Tryz.prog 10 #[.agg #[.bool s, .slice a1 n1 c1, .slice a2 n2 c2], .agg #[.bool t, .slice b1 m1 d1, .slice b2 m2 d2]] w fun en w' => en = .returned (.int .i64 (cmpQ (sgQ' s (val xs) (val ys)) (sgQ' t (val us) (val vs)))) ∧ Below w.heap.size w w' := by
 obtain ⟨W2, hW2⟩ : ∃ W2 : World, W2 = (w.alloc (.cells #[.bool s, .slice a1 n1 c1, .slice a2 n2 c2] 29)).alloc (.cells #[.bool t, .slice b1 m1 d1, .slice b2 m2 d2] 29) := ⟨_, rfl⟩
 have hb2 : Below w.heap.size w W2 := hW2 ▸ more (more (Below.refl _ _) _) _
 have D2 : Box3 W2 w.heap.size (.bool s) (.slice a1 n1 c1) (.slice a2 n2 c2) := hW2 ▸ (box3_new w _ _ _ _).alloc _
 have R2 : Box3 W2 (w.heap.size + 1) (.bool t) (.slice b1 m1 d1) (.slice b2 m2 d2) := by
  have := box3_new (w.alloc (.cells #[.bool s, .slice a1 n1 c1, .slice a2 n2 c2] 29)) (.bool t) (.slice b1 m1 d1) (.slice b2 m2 d2) 29
  rw [World.size_alloc] at this
  exact hW2 ▸ this
 have cB := rf2Cmp_ok s t a1 a2 b1 b2 n1 n2 m1 m2 c1 c2 d1 d2 xs ys us vs W2 (h1.below hb2) (h2.below hb2) (h3.below hb2) (h4.below hb2) (hT.below hb2) hr ht
 generalize cmpQ (sgQ' s (val xs) (val ys)) (sgQ' t (val us) (val vs)) = cv at *
 clear h1 h2 h3 h4 hr ht hT
 have ⟨x0, x1, x2, _, _, _⟩ := D2
 have ⟨y0, y1, y2, _, _, _⟩ := R2
 go_enter Tryz.func10, Tryz.ntmps10
 go_upto_region 1 with fail
 rw [← hW2]
 clear hW2
 go_wp2_with fail
 (with_reducible refine cB.mono ?_)
 rintro en w3 ⟨rfl, hb3⟩
 clear x0 x1 x2 y0 y1 y2 D2 R2
 go_wp2
 go_ret
 exact ⟨rfl, next hb2 hb3⟩
theorem topBrief_any (s : Bool) (a1 a2 : Option Addr) (n1 n2 c1 c2 : Nat) (xs ys : List Nat) (w : World) (h1 : Sl w a1 n1 c1 xs) (h2 : Sl w a2 n2 c2 ys) (hT : Tab w) :
 Calls Tryz.prog 6 #[.agg #[.bool s, .slice a1 n1 c1, .slice a2 n2 c2], .int .i64 200] w fun en w' => en = .returned (.bool (decide (n1 ≤ 200 ∧ n2 ≤ 200 ∧ ratB s xs ys = true))) ∧ Below w.heap.size w w' := by
 obtain ⟨W2, hW2⟩ : ∃ W2 : World, W2 = w.alloc (.cells #[.bool s, .slice a1 n1 c1, .slice a2 n2 c2] 29) := ⟨_, rfl⟩
 have V : Below w.heap.size w W2 := hW2 ▸ more (Below.refl _ _) _
 have D2 : Box3 W2 w.heap.size (.bool s) (.slice a1 n1 c1) (.slice a2 n2 c2) := hW2 ▸ box3_new w _ _ _ _
 have cK := rf2Check_any s a1 a2 n1 n2 c1 c2 xs ys W2 (h1.below V) (h2.below V) (hT.below V)
 have ⟨d0, d1, d2, _, _, _⟩ := D2
 clear h1 h2 hT D2
 by_cases e1 : n1 ≤ 200
 · have q1 : (n1 : Int) ≤ 200 := by omega
   by_cases e2 : n2 ≤ 200
   · have q2 : (n2 : Int) ≤ 200 := by omega
     by_cases hr : ratB s xs ys = true
     · rw [show ratE s xs ys = 0 from if_pos hr] at cK
       rw [decide_eq_true ⟨e1, e2, hr⟩]
       go_enter Tryz.func6, Tryz.ntmps6
       go_upto_region 1 with fail
       rw [← hW2]
       clear hW2 hr e1 e2
       go_wp2_with fail
       refine cK.mono ?_
       rintro en w3 ⟨rfl, hb3⟩
       go_wp2
       go_ret
       exact ⟨by simp, next V hb3⟩
     · rw [show ratE s xs ys = 20 from if_neg hr] at cK
       rw [decide_eq_false (fun h => hr h.2.2)]
       go_enter Tryz.func6, Tryz.ntmps6
       go_upto_region 1 with fail
       rw [← hW2]
       clear hW2 hr e1 e2
       go_wp2_with fail
       refine cK.mono ?_
       rintro en w3 ⟨rfl, hb3⟩
       go_wp2
       go_ret
       exact ⟨by simp, next V hb3⟩
   · have q2 : ¬ (n2 : Int) ≤ 200 := by omega
     rw [decide_eq_false (fun h => e2 h.2.1)]
     go_enter Tryz.func6, Tryz.ntmps6
     go_upto_region 1 with fail
     rw [← hW2]
     clear hW2 e1 e2
     go_wp2
     go_ret
     exact ⟨by simp, V⟩
 · have q1 : ¬ (n1 : Int) ≤ 200 := by omega
   rw [decide_eq_false (fun h => e1 h.1)]
   go_enter Tryz.func6, Tryz.ntmps6
   go_upto_region 1 with fail
   rw [← hW2]
   clear hW2 e1
   go_wp2
   go_ret
   exact ⟨by simp, V⟩
theorem topMinus_any (E F b : Nat) (w : World) (hf : formE (E : Int) (F : Int) = 0) (hb : b < 18446744073709551616) :
 Calls Tryz.prog 9 #[.agg #[.int .i64 (E : Int), .int .i64 (F : Int)], .int .u64 (b : Int)] w fun en w' => en = .returned (.bool (sgB E F b)) ∧ Below w.heap.size w w' := by
 obtain ⟨q1, q2, q3, q4⟩ := formE_ok hf
 have hq : (bits BinOp.and IntKind.u64 ((b : Int) / 2 ^ (E + F)) 1 == 1) = sgB E F b := by
  have h1 : (b : Int) / 2 ^ (E + F) = ((b / 2 ^ (E + F) : Nat) : Int) := by push_cast; rfl
  have h2 := Nat.div_le_self b (2 ^ (E + F))
  rw [h1, u64_and_one _ (by omega)]
  unfold sgB takeN
  have h3 : pw (F + E) = 2 ^ (E + F) := by unfold pw; rw [Nat.add_comm]
  have h4 : pw 1 = 2 := by unfold pw; rfl
  rw [h3, h4, Bool.eq_iff_iff]
  simp only [beq_iff_eq, ne_eq, decide_eq_true_eq]
  omega
 have ⟨f0, f1⟩ := box2_new w (.int .i64 (E : Int)) (.int .i64 (F : Int)) 23
 go_enter Tryz.func9, Tryz.ntmps9
 go_wp2
 go_ret
 exact ⟨rfl, more (Below.refl _ _) _⟩
theorem third_both : scBits 5 10 false [1] [3] 0 false 4 = 13653 ∧ scFlags 5 10 false [1] [3] 0 4 = 1 ∧ scErr 5 10 false [1] [3] 4 = 0 ∧ scBits 5 10 false [1] [3] 0 false 3 = 13654 ∧ scFlags 5 10 false [1] [3] 0 3 = 1 ∧ scErr 5 10 false [1] [3] 3 = 0 := by decide +kernel
theorem topRounds_any (w : World) (hT : Tab w) :
 Calls Tryz.prog 4 #[] w fun en w' => en = .returned (.bool true) ∧ Below w.heap.size w w' := by
 obtain ⟨t1, t2, t3, t4, t5, t6⟩ := third_both
 obtain ⟨W4, hW4⟩ : ∃ W4 : World, W4 = (((w.alloc (.cells #[.int .u32 1] 40)).alloc (.cells #[.int .u32 3] 40)).alloc (.cells #[.bool false, .slice (some ⟨w.heap.size, 0, none⟩) 1 1, .slice (some ⟨w.heap.size + 1, 0, none⟩) 1 1] 29)).alloc (.cells #[.int .i64 5, .int .i64 10] 23) := ⟨_, rfl⟩
 have V : Below w.heap.size w W4 := hW4 ▸ more (more (more (more (Below.refl _ _) _) _) _) _
 have F4 : Box2 W4 (w.heap.size + 1 + 1 + 1) (.int .i64 5) (.int .i64 10) := by
  have := box2_new (((w.alloc (.cells #[.int .u32 1] 40)).alloc (.cells #[.int .u32 3] 40)).alloc (.cells #[.bool false, .slice (some ⟨w.heap.size, 0, none⟩) 1 1, .slice (some ⟨w.heap.size + 1, 0, none⟩) 1 1] 29)) (.int .i64 5) (.int .i64 10) 23
  rw [World.size_alloc, World.size_alloc, World.size_alloc] at this
  rw [hW4]
  exact ⟨this.1, this.2⟩
 have D4 : Box3 W4 (w.heap.size + 1 + 1) (.bool false) (.slice (some ⟨w.heap.size, 0, none⟩) 1 1) (.slice (some ⟨w.heap.size + 1, 0, none⟩) 1 1) := by
  have := (box3_new ((w.alloc (.cells #[.int .u32 1] 40)).alloc (.cells #[.int .u32 3] 40)) (.bool false) (.slice (some ⟨w.heap.size, 0, none⟩) 1 1) (.slice (some ⟨w.heap.size + 1, 0, none⟩) 1 1) 29).alloc (.cells #[.int .i64 5, .int .i64 10] 23)
  rw [World.size_alloc, World.size_alloc] at this
  exact hW4 ▸ this
 have hs : W4.heap.size = w.heap.size + 4 := by rw [hW4]; simp
 have S1 : Sl W4 (some ⟨w.heap.size, 0, none⟩) 1 1 [1] := ⟨rfl, Nat.le_refl _, by decide, ok_cons (by decide) ok_nil, fun _ => ⟨_, _, rfl, by omega, fun j hj => by
  obtain rfl : j = 0 := by omega
  rw [hW4]
  simp [World.cell?_alloc_some, nth]⟩⟩
 have S2 : Sl W4 (some ⟨w.heap.size + 1, 0, none⟩) 1 1 [3] := ⟨rfl, Nat.le_refl _, by decide, ok_cons (by decide) ok_nil, fun _ => ⟨_, _, rfl, by omega, fun j hj => by
  obtain rfl : j = 0 := by omega
  rw [hW4]
  simp [World.cell?_alloc_some, nth]⟩⟩
 have cD : ∀ W, Below W4.heap.size W4 W → Calls Tryz.prog 8 #[.agg #[.int .i64 5, .int .i64 10], .agg #[.bool false, .slice (some ⟨w.heap.size, 0, none⟩) 1 1, .slice (some ⟨w.heap.size + 1, 0, none⟩) 1 1], .bool false, .int .u8 4] W fun en w' => en = .returned (.tuple #[.int .u64 13653, .int .u8 1, .int .i64 0]) ∧ Below W.heap.size W w' := fun W hW => by
  have := rdRatio_any _ _ 1 1 1 1 4 5 10 false false [1] [3] W (S1.below hW) (S2.below hW) (hT.below (next V hW)) (by decide) (by decide)
  rw [t1, t2, t3] at this
  exact this
 have cU : ∀ W, Below W4.heap.size W4 W → Calls Tryz.prog 8 #[.agg #[.int .i64 5, .int .i64 10], .agg #[.bool false, .slice (some ⟨w.heap.size, 0, none⟩) 1 1, .slice (some ⟨w.heap.size + 1, 0, none⟩) 1 1], .bool false, .int .u8 3] W fun en w' => en = .returned (.tuple #[.int .u64 13654, .int .u8 1, .int .i64 0]) ∧ Below W.heap.size W w' := fun W hW => by
  have := rdRatio_any _ _ 1 1 1 1 3 5 10 false false [1] [3] W (S1.below hW) (S2.below hW) (hT.below (next V hW)) (by decide) (by decide)
  rw [t4, t5, t6] at this
  exact this
 clear t1 t2 t3 t4 t5 t6 S1 S2 hs
 go_enter Tryz.func4, Tryz.ntmps4
 go_upto_region 3 with fail
 rw [← hW4]
 clear hW4
 have ⟨f0, f1⟩ := F4
 have ⟨d0, d1, d2, _, _, _⟩ := D4
 go_wp2_with fail
 (with_reducible refine (cD W4 (Below.refl _ _)).mono ?_)
 rintro en w5 ⟨rfl, hb5⟩
 have F5 := F4.stay hb5
 have D5 := D4.stay hb5
 clear f0 f1 d0 d1 d2 cD
 have ⟨f0, f1⟩ := F5
 have ⟨d0, d1, d2, _, _, _⟩ := D5
 go_wp2_with fail
 (with_reducible refine (cU w5 hb5).mono ?_)
 rintro en w6 ⟨rfl, hb6⟩
 have VZ := next (next V hb5) hb6
 clear f0 f1 d0 d1 d2 cU F4 F5 D4 D5 hb5 hb6 V
 go_wp2
 go_ret
 exact ⟨by simp, VZ⟩
end Go.Proofs.YtpmncmglmobjoaaGreatDoor
