/-
  The middle of two: near.Mid, the reference's Mid. (Printed by wip/gen/nearmd.py.)
-/
import Derived.Test.YtfjgmpfpadfknaaGreatDoorQNbBase
import Derived.Test.YtfjgmpfpadfknaaGreatDoorQRNearY
import Derived.Test.YtfjgmpfpadfknaaGreatDoorQRNearZa
namespace Go.Proofs.YtfjgmpfpadfknaaGreatDoor

open Go.RowKit Go.Lb

attribute [local go_sem] Go.World.cell?_alloc_some

/-- Half of any dyadic within bounds. -/
theorem half_any {D : Ds} {b : Int} {K : Nat} (h : Dy D.s D.N D.x) (hb : Bd D.N D.x b K) (hK : K ≤ 524287) (h1 : -1000000 ≤ b) (h2 : b + K ≤ 1000000) :
    mulA D.s (limbs D.N) D.x false (limbs 1) (-1) = mkA D.s D.N (D.x - 1) := by
  have hl1 : (limbs 1).length ≤ 16384 := by decide +kernel
  have d1 : Dy false 1 (-1) := ⟨fun h => absurd h (by decide), fun _ => rfl, by omega, by omega, hl1⟩
  have u1 : upW 1 (-1) (-1) = 1 := by unfold upW; simp
  have g1 : Bd 1 (-1) (-1) 1 := ⟨fun _ => Int.le_refl _, by rw [u1]; decide⟩
  have e1 := mulA_ok h d1 hb g1 (by omega) (by omega) (by omega)
  have w1 := mulA_worth h d1 hb.low g1.low e1
  have w1' : wI false 1 (-1) (-1) = 1 := by unfold wI; rw [u1]; rfl
  rw [w1', Int.mul_one] at w1
  have hup : upW D.N (D.x - 1) (b + -1) = upW D.N D.x b := by
    unfold upW
    congr 2
    omega
  have hlow : D.N ≠ 0 → b + -1 ≤ D.x - 1 := fun h => by have := hb.low h; omega
  have e2 : (mkA D.s D.N (D.x - 1)).e = 0 := by
    by_cases h0 : D.N = 0
    · rw [h0, mkA_zero]; rfl
    · exact (mkA_ok (b := b + -1) (hlow h0) (by rw [hup]; exact hb.top) (by omega) (by omega) (by omega)).2
  have w2 := mkA_worth (s := D.s) h.len hlow e2
  have hw : wI D.s D.N (D.x - 1) (b + -1) = wI D.s D.N D.x b := by unfold wI; rw [hup]
  rw [hw] at w2
  exact dy_same w1 w2 rfl (by rw [e1, e2])

/-- What Mid answers. -/
def miD (e f : Int) (a b : Nat) : Ds := if fnE e f [a, b] = 0 then meA (valD e f a) (valD e f b) else noA (fnE e f [a, b])

theorem anI_two (e f a b : Nat) : anI e f [a, b] = (decide (exN e f a = maskN e) || decide (exN e f b = maskN e)) := by unfold anI; simp

theorem fn_two {e f : Int} {a b : Nat} (h : fnE e f [a, b] = 0) : ∃ E F : Nat, e = (E : Int) ∧ f = (F : Int) ∧ formE (E : Int) (F : Int) = 0 ∧ a < pw (1 + E + F) ∧ b < pw (1 + E + F) ∧ twoE e f a b = 0 ∧ exN E F a ≠ maskN E ∧ exN E F b ≠ maskN E := by
  unfold fnE at h
  rw [askL_two] at h
  by_cases h0 : twoE e f a b = 0
  · rw [if_neg (by simp [h0])] at h
    obtain ⟨p1, p2⟩ := twoE_ok h0
    obtain ⟨hf, l1⟩ := fitsE_parts p1
    obtain ⟨_, l2⟩ := fitsE_parts p2
    obtain ⟨q1, q2, q3, q4⟩ := formE_ok hf
    obtain ⟨E, rfl⟩ := Int.eq_ofNat_of_zero_le (by omega : 0 ≤ e)
    obtain ⟨F, rfl⟩ := Int.eq_ofNat_of_zero_le (by omega : 0 ≤ f)
    refine ⟨E, F, rfl, rfl, hf, l1, l2, h0, ?_⟩
    have hI : anI E F [a, b] = false := by
      cases hh : anI E F [a, b]
      · rfl
      · rw [if_pos (by exact hh)] at h; cases h
    rw [anI_two, Bool.or_eq_false_iff] at hI
    exact ⟨of_decide_eq_false hI.1, of_decide_eq_false hI.2⟩
  · rw [if_pos h0] at h
    exact absurd h h0

theorem mid_facts {E F a b : Nat} (hf : formE (E : Int) (F : Int) = 0) (l1 : a < pw (1 + E + F)) (l2 : b < pw (1 + E + F)) (xa : exN E F a ≠ maskN E) (xb : exN E F b ≠ maskN E) :
    valE (E : Int) (F : Int) a = 0 ∧ valE (E : Int) (F : Int) b = 0 ∧ (addA (valS (E : Int) (F : Int) a) (limbs (valN (E : Int) (F : Int) a)) (valX (E : Int) (F : Int) a) (valS (E : Int) (F : Int) b) (limbs (valN (E : Int) (F : Int) b)) (valX (E : Int) (F : Int) b)).e = 0 ∧
    -300000 ≤ (addA (valS (E : Int) (F : Int) a) (limbs (valN (E : Int) (F : Int) a)) (valX (E : Int) (F : Int) a) (valS (E : Int) (F : Int) b) (limbs (valN (E : Int) (F : Int) b)) (valX (E : Int) (F : Int) b)).x ∧ (addA (valS (E : Int) (F : Int) a) (limbs (valN (E : Int) (F : Int) a)) (valX (E : Int) (F : Int) a) (valS (E : Int) (F : Int) b) (limbs (valN (E : Int) (F : Int) b)) (valX (E : Int) (F : Int) b)).x ≤ 300000 ∧
    (meA (valD (E : Int) (F : Int) a) (valD (E : Int) (F : Int) b)).e = 0 ∧
    mulA (addA (valS (E : Int) (F : Int) a) (limbs (valN (E : Int) (F : Int) a)) (valX (E : Int) (F : Int) a) (valS (E : Int) (F : Int) b) (limbs (valN (E : Int) (F : Int) b)) (valX (E : Int) (F : Int) b)).s (limbs (addA (valS (E : Int) (F : Int) a) (limbs (valN (E : Int) (F : Int) a)) (valX (E : Int) (F : Int) a) (valS (E : Int) (F : Int) b) (limbs (valN (E : Int) (F : Int) b)) (valX (E : Int) (F : Int) b)).N) (addA (valS (E : Int) (F : Int) a) (limbs (valN (E : Int) (F : Int) a)) (valX (E : Int) (F : Int) a) (valS (E : Int) (F : Int) b) (limbs (valN (E : Int) (F : Int) b)) (valX (E : Int) (F : Int) b)).x false (limbs 1) (-1) = meA (valD (E : Int) (F : Int) a) (valD (E : Int) (F : Int) b) := by
  obtain ⟨q1, q2, q3, q4⟩ := formE_ok hf
  obtain ⟨e1, _⟩ := valD_ok (fits_bits hf l1) xa (by omega) (by omega)
  obtain ⟨e2, _⟩ := valD_ok (fits_bits hf l2) xb (by omega) (by omega)
  obtain ⟨d1, g1⟩ := val_bd hf l1 xa
  obtain ⟨d2, g2⟩ := val_bd hf l2 xb
  obtain ⟨b1, b2, b3, b4⟩ := base_small hf
  obtain ⟨m1, m2, m3, m4, _, _⟩ := me_bd (p := valD (E : Int) (F : Int) a) (q := valD (E : Int) (F : Int) b) d1 d2 g1 g2 (by omega) (by omega) (by omega)
  obtain ⟨_, d0, b0⟩ := sum_bd d1 d2 g1 g2 (by omega) (by omega) (by omega) _ rfl
  exact ⟨e1, e2, m1, m2, m3, m4, half_any d0 b0 (by omega) (by omega) (by omega)⟩

set_option maxRecDepth 100000 in
set_option maxHeartbeats 4000000 in
theorem nearMid_any (e f : Int) (a b : Nat) (w : World) (ha : a < 18446744073709551616) (hb : b < 18446744073709551616) (hT : Tab w) :
    Calls Tryz.prog 32 #[.agg #[.int .i64 e, .int .i64 f], .int .u64 (a : Int), .int .u64 (b : Int)] w (Dyn (miD e f a b) w) := by
  obtain ⟨W2, hW2⟩ : ∃ W2 : World, W2 = (w.alloc (.cells #[.int .i64 e, .int .i64 f] 23)).alloc (.cells #[.bool false, .slice none 0 0, .int .i64 0] 41) := ⟨_, rfl⟩
  have hb2 : Below w.heap.size w W2 := hW2 ▸ more (more (Below.refl _ _) _) _
  have F2 : Box2 W2 w.heap.size (.int .i64 e) (.int .i64 f) := hW2 ▸ (box2_new w _ _ _).alloc _
  have R2 : Box3 W2 (w.heap.size + 1) (.bool false) (.slice none 0 0) (.int .i64 0) := by
    have := box3_new (w.alloc (.cells #[.int .i64 e, .int .i64 f] 23)) (.bool false) (.slice none 0 0) (.int .i64 0) 41
    rw [World.size_alloc] at this
    exact hW2 ▸ this
  obtain ⟨W3, hW3⟩ : ∃ W3 : World, W3 = W2.alloc (.cells #[.int .u64 (a : Int), .int .u64 (b : Int)] 24) := ⟨_, rfl⟩
  have hb3 : Below W2.heap.size W2 W3 := hW3 ▸ more (Below.refl _ _) _
  have cF := nearFinite_any W2.heap.size e f [a, b] W3 (by simp) (by simp) (two_cells ha hb (by rw [hW3]; simp) (by rw [hW3]; simp))
  replace cF : Calls Tryz.prog 48 #[.agg #[.int .i64 e, .int .i64 f], .slice (some ⟨W2.heap.size, 0, none⟩) 2 2] W3 fun en w' => en = .returned (.int .i64 (fnE e f [a, b])) ∧ Below W3.heap.size W3 w' := cF
  have ⟨f0, f1⟩ := F2
  by_cases h0 : fnE e f [a, b] = 0
  · have hM : miD e f a b = meA (valD e f a) (valD e f b) := if_pos h0
    rw [hM]
    rw [h0] at cF
    obtain ⟨E, F, rfl, rfl, hf, l1, l2, _, xa, xb⟩ := fn_two h0
    obtain ⟨v1, v2, m1, m2, m3, m4, _⟩ := mid_facts hf l1 l2 xa xb
    have cV := fun W hT => value_any (E : Int) (F : Int) a W ha hT
    have cU := fun W hT => value_any (E : Int) (F : Int) b W hb hT
    unfold Valued at cV cU
    rw [v1] at cV
    rw [v2] at cU
    have cM := fun a1 a2 n1 n2 c1 c2 W (j1 : Sl W a1 n1 c1 (limbs (valD (E : Int) (F : Int) a).N)) (j2 : Sl W a2 n2 c2 (limbs (valD (E : Int) (F : Int) b).N)) hT => nearMean_any (valD (E : Int) (F : Int) a) (valD (E : Int) (F : Int) b) a1 a2 n1 n2 c1 c2 W j1 j2 hT m1 m2 m3
    unfold Dyn at cM ⊢
    rw [m4] at cM ⊢
    replace cM : ∀ (a1 a2 : Option Addr) (n1 n2 c1 c2 : Nat) (W : World), Sl W a1 n1 c1 (limbs (valN (E : Int) (F : Int) a)) → Sl W a2 n2 c2 (limbs (valN (E : Int) (F : Int) b)) → Tab W → Calls Tryz.prog 82 #[.agg #[.bool (valS (E : Int) (F : Int) a), .slice a1 n1 c1, .int .i64 (valX (E : Int) (F : Int) a)], .agg #[.bool (valS (E : Int) (F : Int) b), .slice a2 n2 c2, .int .i64 (valX (E : Int) (F : Int) b)]] W _ := cM
    generalize (meA (valD (E : Int) (F : Int) a) (valD (E : Int) (F : Int) b)).s = ms at *
    generalize (meA (valD (E : Int) (F : Int) a) (valD (E : Int) (F : Int) b)).N = mN at *
    generalize (meA (valD (E : Int) (F : Int) a) (valD (E : Int) (F : Int) b)).x = mx at *
    clear m1 m2 m3 m4 v1 v2 hM h0 hf l1 l2 xa xb
    generalize valS (E : Int) (F : Int) a = sa at *
    generalize valN (E : Int) (F : Int) a = aN at *
    generalize valX (E : Int) (F : Int) a = ax at *
    generalize valS (E : Int) (F : Int) b = bs at *
    generalize valN (E : Int) (F : Int) b = bN at *
    generalize valX (E : Int) (F : Int) b = bx at *
    go_enter Tryz.func32, Tryz.ntmps32
    go_upto_region 1 with fail
    rw [← hW2]
    clear hW2
    go_wp2_with fail
    rw [← hW3]
    refine cF.mono ?_
    rintro en w4 ⟨rfl, hb4⟩
    have hs4 := next hb3 hb4
    have V4 := next hb2 hs4
    have F4 := F2.stay hs4
    have R4 := R2.stay hs4
    clear F2 R2 hb3 hb4 hs4 cF f0 f1 hW3
    have ⟨f0, f1⟩ := F4
    go_wp2_with fail
    refine (cV w4 (hT.below V4)).mono ?_
    rintro en w5 ⟨pa, pn, pc, rfl, pF, hb5⟩
    have s5 := more hb5 (.cells #[.bool sa, .slice pa pn pc, .int .i64 ax] 41)
    have P5 := box3_new w5 (.bool sa) (.slice pa pn pc) (.int .i64 ax) 41
    have pG := pF.alloc (.cells #[.bool sa, .slice pa pn pc, .int .i64 ax] 41)
    have V5 := next V4 s5
    have F5 := F4.stay s5
    have R5 := R4.stay s5
    clear F4 R4 V4 hb5 s5 pF cV f0 f1
    go_upto_region 5 with fail
    obtain ⟨Pb, hPb⟩ : ∃ q, q = w5.heap.size := ⟨_, rfl⟩
    rw [← hPb] at P5 ⊢
    clear hPb
    generalize w5.alloc (.cells #[.bool sa, .slice pa pn pc, .int .i64 ax] 41) = w6 at *
    have ⟨f0, f1⟩ := F5
    go_wp2_with fail
    refine (cU w6 (hT.below V5)).mono ?_
    rintro en w7 ⟨qa, qn, qc, rfl, qF, hb7⟩
    have s7 := more hb7 (.cells #[.bool bs, .slice qa qn qc, .int .i64 bx] 41)
    have Q7 := box3_new w7 (.bool bs) (.slice qa qn qc) (.int .i64 bx) 41
    have qG := qF.alloc (.cells #[.bool bs, .slice qa qn qc, .int .i64 bx] 41)
    have V7 := next V5 s7
    have R7 := R5.stay s7
    have P7 := P5.stay s7
    have pK := pG.below s7
    clear F5 R5 V5 P5 pG hb7 s7 qF cU f0 f1
    go_upto_region 8 with fail
    obtain ⟨Qb, hQb⟩ : ∃ q, q = w7.heap.size := ⟨_, rfl⟩
    rw [← hQb] at Q7 ⊢
    clear hQb
    generalize w7.alloc (.cells #[.bool bs, .slice qa qn qc, .int .i64 bx] 41) = w8 at *
    have ⟨x0, x1, x2, _, _, _⟩ := P7
    have ⟨y0, y1, y2, _, _, _⟩ := Q7
    go_wp2_with fail
    refine (cM _ _ _ _ _ _ w8 pK.sl qG.sl (hT.below V7)).mono ?_
    rintro en w9 ⟨ma, mk, mc, rfl, mF, hb9⟩
    have V9 := next V7 hb9
    have R9 := R7.stay hb9
    have hl := R7.lt
    have hv := V7.size
    have ⟨r0, r1, r2, rz0, rz1, rz2⟩ := R9
    clear x0 x1 x2 y0 y1 y2 P7 Q7 pK qG R7 cM
    go_wp2
    obtain ⟨t0, t1, t2⟩ := R9.set (.bool ms) (.slice ma mk mc) (.int .i64 mx)
    refine bodyPost_ret (v := .tuple #[.agg #[.bool ms, .slice ma mk mc, .int .i64 mx], .int .i64 0]) (by simp [results, Tryz.results32, go_sem, t0, t1, t2]) rfl ⟨ma, mk, mc, rfl, ?_, ((V9.setCell (by simp) _).setCell (by simp) _).setCell (by simp) _⟩
    exact (((mF.setCell (by simpa using hl) _).setCell (by simpa using hl) _).setCell (by simpa using hl) _).mono hv
  · have hM : miD e f a b = noA (fnE e f [a, b]) := if_neg h0
    rw [hM]
    clear hM
    generalize fnE e f [a, b] = T at *
    go_enter Tryz.func32, Tryz.ntmps32
    go_upto_region 1 with fail
    rw [← hW2]
    clear hW2
    go_wp2_with fail
    rw [← hW3]
    refine cF.mono ?_
    rintro en w4 ⟨rfl, hb4⟩
    have hs4 := next hb3 hb4
    have V4 := next hb2 hs4
    have R4 := R2.stay hs4
    have ⟨r0, r1, r2, rz0, rz1, rz2⟩ := R4
    go_wp2
    obtain ⟨t0, t1, t2⟩ := R4.set (.bool false) (.slice none 0 0) (.int .i64 0)
    refine bodyPost_ret (v := .tuple #[.agg #[.bool false, .slice none 0 0, .int .i64 0], .int .i64 T]) (by simp [results, Tryz.results32, go_sem, t0, t1, t2]) rfl (dyn_no (((V4.setCell (by simp) _).setCell (by simp) _).setCell (by simp) _))

set_option maxRecDepth 100000 in
set_option maxHeartbeats 4000000 in
theorem rmid6_any (e f : Int) (a b : Nat) (w : World) (ha : a < 18446744073709551616) (hb : b < 18446744073709551616) :
    Calls Tryz.prog 33 #[.agg #[.int .i64 e, .int .i64 f], .int .u64 (a : Int), .int .u64 (b : Int)] w (Dyn (miD e f a b) w) := by
  obtain ⟨W2, hW2⟩ : ∃ W2 : World, W2 = (w.alloc (.cells #[.int .i64 e, .int .i64 f] 23)).alloc (.cells #[.bool false, .slice none 0 0, .int .i64 0] 41) := ⟨_, rfl⟩
  have hb2 : Below w.heap.size w W2 := hW2 ▸ more (more (Below.refl _ _) _) _
  have F2 : Box2 W2 w.heap.size (.int .i64 e) (.int .i64 f) := hW2 ▸ (box2_new w _ _ _).alloc _
  have R2 : Box3 W2 (w.heap.size + 1) (.bool false) (.slice none 0 0) (.int .i64 0) := by
    have := box3_new (w.alloc (.cells #[.int .i64 e, .int .i64 f] 23)) (.bool false) (.slice none 0 0) (.int .i64 0) 41
    rw [World.size_alloc] at this
    exact hW2 ▸ this
  have cT := fun W => two6_any e f a b W ha hb
  have ⟨f0, f1⟩ := F2
  have hfn : fnE e f [a, b] = if twoE e f a b ≠ 0 then twoE e f a b else if (decide (exN e.toNat f.toNat a = maskN e.toNat) || decide (exN e.toNat f.toNat b = maskN e.toNat)) = true then 8 else 0 := by unfold fnE; rw [askL_two, anI_two]
  by_cases h0 : twoE e f a b = 0
  · rw [if_neg (by simp [h0])] at hfn
    obtain ⟨p1, p2⟩ := twoE_ok h0
    obtain ⟨hf, l1⟩ := fitsE_parts p1
    obtain ⟨_, l2⟩ := fitsE_parts p2
    obtain ⟨q1, q2, q3, q4⟩ := formE_ok hf
    obtain ⟨E, rfl⟩ := Int.eq_ofNat_of_zero_le (by omega : 0 ≤ e)
    obtain ⟨F, rfl⟩ := Int.eq_ofNat_of_zero_le (by omega : 0 ≤ f)
    replace l1 : a < pw (1 + E + F) := l1
    replace l2 : b < pw (1 + E + F) := l2
    replace hfn : fnE (E : Int) (F : Int) [a, b] = if (decide (exN E F a = maskN E) || decide (exN E F b = maskN E)) = true then 8 else 0 := hfn
    rw [h0] at cT
    have cA := fun W => refFinite3_any E F a W hf ha l1
    have cB := fun W => refFinite3_any E F b W hf hb l2
    by_cases hx : exN E F a ≠ maskN E ∧ exN E F b ≠ maskN E
    · obtain ⟨xa, xb⟩ := hx
      rw [decide_eq_false xa, decide_eq_false xb, if_neg (by decide)] at hfn
      have hM : miD (E : Int) (F : Int) a b = meA (valD (E : Int) (F : Int) a) (valD (E : Int) (F : Int) b) := if_pos hfn
      rw [hM]
      obtain ⟨v1, v2, m1, m2, m3, m4, m5⟩ := mid_facts hf l1 l2 xa xb
      rw [decide_eq_true xa] at cA
      rw [decide_eq_true xb] at cB
      have cV := fun W => worth6_any (E : Int) (F : Int) a W ha
      have cU := fun W => worth6_any (E : Int) (F : Int) b W hb
      have cM := fun a1 a2 n1 n2 c1 c2 W (j1 : Sl W a1 n1 c1 (limbs (valN (E : Int) (F : Int) a))) (j2 : Sl W a2 n2 c2 (limbs (valN (E : Int) (F : Int) b))) => mean6_any (valD (E : Int) (F : Int) a) (valD (E : Int) (F : Int) b) _ (meA (valD (E : Int) (F : Int) a) (valD (E : Int) (F : Int) b)) a1 a2 n1 n2 c1 c2 W j1 j2 rfl m5.symm
      unfold Dyn
      unfold Dy1 at cV cU cM
      rw [m4]
      replace cM : ∀ (a1 a2 : Option Addr) (n1 n2 c1 c2 : Nat) (W : World), Sl W a1 n1 c1 (limbs (valN (E : Int) (F : Int) a)) → Sl W a2 n2 c2 (limbs (valN (E : Int) (F : Int) b)) → Calls Tryz.prog 59 #[.agg #[.bool (valS (E : Int) (F : Int) a), .slice a1 n1 c1, .int .i64 (valX (E : Int) (F : Int) a)], .agg #[.bool (valS (E : Int) (F : Int) b), .slice a2 n2 c2, .int .i64 (valX (E : Int) (F : Int) b)]] W _ := cM
      generalize (meA (valD (E : Int) (F : Int) a) (valD (E : Int) (F : Int) b)).s = ms at *
      generalize (meA (valD (E : Int) (F : Int) a) (valD (E : Int) (F : Int) b)).N = mN at *
      generalize (meA (valD (E : Int) (F : Int) a) (valD (E : Int) (F : Int) b)).x = mx at *
      clear m1 m2 m3 m4 m5 v1 v2 hM h0 hf l1 l2 xa xb hfn p1 p2 q1 q2 q3 q4
      generalize valS (E : Int) (F : Int) a = sa at *
      generalize valN (E : Int) (F : Int) a = aN at *
      generalize valX (E : Int) (F : Int) a = ax at *
      generalize valS (E : Int) (F : Int) b = bs at *
      generalize valN (E : Int) (F : Int) b = bN at *
      generalize valX (E : Int) (F : Int) b = bx at *
      go_enter Tryz.func33, Tryz.ntmps33
      go_upto_region 1 with fail
      rw [← hW2]
      clear hW2
      go_wp2_with fail
      refine (cT W2).mono ?_
      rintro en w4 ⟨rfl, hb4⟩
      have V4 := next hb2 hb4
      have F4 := F2.stay hb4
      have R4 := R2.stay hb4
      clear F2 R2 hb4 cT f0 f1
      have ⟨f0, f1⟩ := F4
      go_wp2_with fail
      refine (cA w4).mono ?_
      rintro en w5 ⟨rfl, hb5⟩
      have V5 := next V4 hb5
      have F5 := F4.stay hb5
      have R5 := R4.stay hb5
      clear F4 R4 V4 hb5 cA f0 f1
      have ⟨f0, f1⟩ := F5
      go_wp2_with fail
      refine (cB w5).mono ?_
      rintro en w6 ⟨rfl, hb6⟩
      have V6 := next V5 hb6
      have F6 := F5.stay hb6
      have R6 := R5.stay hb6
      clear F5 R5 V5 hb6 cB f0 f1
      have ⟨f0, f1⟩ := F6
      go_upto_region 6 with fail
      have hv6 := V6.size
      have hl6 := R6.lt
      have kS : ∀ w' : World, Below w6.heap.size w6 w' → (w'.cell? ⟨w.heap.size, 0, none⟩ = some (.int .i64 (E : Int)) ∧ w'.cell? ⟨w.heap.size, 1, none⟩ = some (.int .i64 (F : Int)) ∧ Below w.heap.size w w') := fun w' hb => ⟨cellStay f0 hb, cellStay f1 hb, next V6 hb⟩
      have kT : ∀ (w' : World) (u v x : Value), Below w6.heap.size w6 w' → (fun w' => w'.cell? ⟨w.heap.size, 0, none⟩ = some (.int .i64 (E : Int)) ∧ w'.cell? ⟨w.heap.size, 1, none⟩ = some (.int .i64 (F : Int)) ∧ Below w.heap.size w w') (((w'.setCell ⟨w.heap.size + 1, 0, none⟩ u).setCell ⟨w.heap.size + 1, 1, none⟩ v).setCell ⟨w.heap.size + 1, 2, none⟩ x) := fun w' u v x hb => ⟨(cell_set3 (by omega) _ _ _).trans (cellStay f0 hb), (cell_set3 (by omega) _ _ _).trans (cellStay f1 hb), (((next V6 hb).setCell (by simp) _).setCell (by simp) _).setCell (by simp) _⟩
      have kU : ∀ (w' : World) (u v x : Value), Below w6.heap.size w6 w' → (fun w' => w'.cell? ⟨w.heap.size, 0, none⟩ = some (.int .i64 (E : Int)) ∧ w'.cell? ⟨w.heap.size, 1, none⟩ = some (.int .i64 (F : Int)) ∧ Below w.heap.size w w') (((w'.setCell ⟨w.heap.size + 1, 0, none⟩ u).setCell ⟨w.heap.size + 1, 1, none⟩ v).setCell ⟨w.heap.size + 1, 2, none⟩ x).drew := fun w' u v x hb => ⟨(cell_set3 (by omega) _ _ _).trans (cellStay f0 hb), (cell_set3 (by omega) _ _ _).trans (cellStay f1 hb), ((((next V6 hb).setCell (by simp) _).setCell (by simp) _).setCell (by simp) _).drew⟩
      go_region_held3 (fun w' => w'.cell? ⟨w.heap.size, 0, none⟩ = some (.int .i64 (E : Int)) ∧ w'.cell? ⟨w.heap.size, 1, none⟩ = some (.int .i64 (F : Int)) ∧ Below w.heap.size w w')
        ((first | (refine kS _ ?_; (repeat (with_reducible (first | exact hAZ | exact hAY | exact hAX | exact Below.refl _ _ | refine Below.drew ?_ | refine more ?_ _))); done) | (refine kT _ _ _ _ ?_; (repeat (with_reducible (first | exact hAZ | refine Below.drew ?_))); done) | (refine kU _ _ _ _ ?_; (repeat (with_reducible (first | exact hAZ | refine Below.drew ?_))); done)))
        (first
          | (go_at_call 57; (with_reducible refine (cV _).mono ?_); rintro en wX ⟨pa, pn, pc, rfl, pF, hbX⟩; have hAX : Below w6.heap.size w6 wX := (by first | exact hbX | exact undrew hbX | exact next (more (Below.refl _ _) _) hbX | exact next (more (Below.refl _ _) _).drew hbX); have szX := hAX.size)
          | (go_at_call 57; (with_reducible refine (cU _).mono ?_); rintro en wY ⟨qa, qn, qc, rfl, qF, hbX⟩; have hXY : Below wX.heap.size wX wY := (by first | exact hbX | exact undrew hbX | exact next (more (Below.refl _ _) _) hbX | exact next (more (Below.refl _ _) _).drew hbX); have hAY := next hAX hXY; have pG := pF.below hXY)
          | (go_at_call 59; (with_reducible refine (cM _ _ _ _ _ _ _ pG.sl qF.sl).mono ?_); rintro en wZ ⟨ma, mk, mc, rfl, mF, hbX⟩; have hYZ : Below wY.heap.size wY wZ := (by first | exact hbX | exact undrew hbX | exact next (more (Below.refl _ _) _) hbX | exact next (more (Below.refl _ _) _).drew hbX); have hAZ := next hAY hYZ; have RZ := R6.stay hAZ; have ⟨r0, r1, r2, rz0, rz1, rz2⟩ := RZ))
      all_goals go_split_ands
      all_goals go_wp2
      all_goals
        obtain ⟨t0, t1, t2⟩ := RZ.set (.bool ms) (.slice ma mk mc) (.int .i64 mx)
        refine bodyPost_ret (v := .tuple #[.agg #[.bool ms, .slice ma mk mc, .int .i64 mx], .int .i64 0]) (by simp [results, Tryz.results33, go_sem, t0, t1, t2]) rfl ⟨ma, mk, mc, rfl, ?_, ?_⟩
        · have := hAY.size
          first
            | exact fr_drew ((((mF.setCell (by simp; omega) _).setCell (by simp; omega) _).setCell (by simp; omega) _).mono (by omega))
            | exact (((mF.setCell (by simp; omega) _).setCell (by simp; omega) _).setCell (by simp; omega) _).mono (by omega)
        · first
            | exact ((((next V6 hAZ).setCell (by simp) _).setCell (by simp) _).setCell (by simp) _).drew
            | exact (((next V6 hAZ).setCell (by simp) _).setCell (by simp) _).setCell (by simp) _
    · have hor : (decide (exN E F a = maskN E) || decide (exN E F b = maskN E)) = true := by
        rw [Bool.or_eq_true, decide_eq_true_iff, decide_eq_true_iff]
        by_cases xa : exN E F a = maskN E
        · exact .inl xa
        · exact .inr (Classical.byContradiction fun xb => hx ⟨xa, xb⟩)
      rw [if_pos hor] at hfn
      have hM : miD (E : Int) (F : Int) a b = noA 8 := by unfold miD; rw [if_neg (by rw [hfn]; decide), hfn]
      rw [hM]
      clear hM hfn hor h0 hf l1 l2 p1 p2 q1 q2 q3 q4
      by_cases xa : exN E F a = maskN E
      · rw [decide_eq_false (fun hh => hh xa)] at cA
        clear cB hx xa
        go_enter Tryz.func33, Tryz.ntmps33
        go_upto_region 1 with fail
        rw [← hW2]
        clear hW2
        go_wp2_with fail
        refine (cT W2).mono ?_
        rintro en w4 ⟨rfl, hb4⟩
        have F4 := F2.stay hb4
        clear f0 f1
        have ⟨f0, f1⟩ := F4
        go_wp2_with fail
        refine (cA w4).mono ?_
        rintro en w5 ⟨rfl, hb5⟩
        have V5 := next (next hb2 hb4) hb5
        have R5 := R2.stay (next hb4 hb5)
        have ⟨r0, r1, r2, rz0, rz1, rz2⟩ := R5
        go_wp2
        obtain ⟨t0, t1, t2⟩ := R5.set (.bool false) (.slice none 0 0) (.int .i64 0)
        refine bodyPost_ret (v := .tuple #[.agg #[.bool false, .slice none 0 0, .int .i64 0], .int .i64 8]) (by simp [results, Tryz.results33, go_sem, t0, t1, t2]) rfl (dyn_no (((V5.setCell (by simp) _).setCell (by simp) _).setCell (by simp) _))
      · have xb : exN E F b = maskN E := Classical.byContradiction fun xb => hx ⟨xa, xb⟩
        rw [decide_eq_true xa] at cA
        rw [decide_eq_false (fun hh => hh xb)] at cB
        clear hx xa xb
        go_enter Tryz.func33, Tryz.ntmps33
        go_upto_region 1 with fail
        rw [← hW2]
        clear hW2
        go_wp2_with fail
        refine (cT W2).mono ?_
        rintro en w4 ⟨rfl, hb4⟩
        have F4 := F2.stay hb4
        clear f0 f1
        have ⟨f0, f1⟩ := F4
        go_wp2_with fail
        refine (cA w4).mono ?_
        rintro en w5 ⟨rfl, hb5⟩
        have F5 := F4.stay hb5
        clear f0 f1
        have ⟨f0, f1⟩ := F5
        go_wp2_with fail
        refine (cB w5).mono ?_
        rintro en w6 ⟨rfl, hb6⟩
        have hs6 := next (next hb4 hb5) hb6
        have V6 := next hb2 hs6
        have R6 := R2.stay hs6
        have ⟨r0, r1, r2, rz0, rz1, rz2⟩ := R6
        go_wp2
        obtain ⟨t0, t1, t2⟩ := R6.set (.bool false) (.slice none 0 0) (.int .i64 0)
        refine bodyPost_ret (v := .tuple #[.agg #[.bool false, .slice none 0 0, .int .i64 0], .int .i64 8]) (by simp [results, Tryz.results33, go_sem, t0, t1, t2]) rfl (dyn_no (((V6.setCell (by simp) _).setCell (by simp) _).setCell (by simp) _))
  · rw [if_pos h0] at hfn
    have hM : miD e f a b = noA (twoE e f a b) := by unfold miD; rw [if_neg (by rw [hfn]; exact h0), hfn]
    rw [hM]
    clear hM hfn
    generalize twoE e f a b = T at *
    go_enter Tryz.func33, Tryz.ntmps33
    go_upto_region 1 with fail
    rw [← hW2]
    clear hW2
    go_wp2_with fail
    refine (cT W2).mono ?_
    rintro en w4 ⟨rfl, hb4⟩
    have V4 := next hb2 hb4
    have R4 := R2.stay hb4
    have ⟨r0, r1, r2, rz0, rz1, rz2⟩ := R4
    go_wp2
    obtain ⟨t0, t1, t2⟩ := R4.set (.bool false) (.slice none 0 0) (.int .i64 0)
    refine bodyPost_ret (v := .tuple #[.agg #[.bool false, .slice none 0 0, .int .i64 0], .int .i64 T]) (by simp [results, Tryz.results33, go_sem, t0, t1, t2]) rfl (dyn_no (((V4.setCell (by simp) _).setCell (by simp) _).setCell (by simp) _))

end Go.Proofs.YtfjgmpfpadfknaaGreatDoor

