/-
  The walk of the law ExactRatios: it answers true, whatever it is asked; nothing that was there has turned.
-/
import Derived.Test.YthemcdnlcgmimaaGreatDoorRtJ
namespace Go.Proofs.YthemcdnlcgmimaaGreatDoor
open Go.RowKit Go.Lb

theorem bigN_len (N : Nat) : (limbs (bigN N)).length ≤ 16384 := by
  unfold bigN
  split
  · assumption
  · rw [limbs_zero]; decide

theorem ra_len (s : Bool) (xs : List Nat) (x : Int) : (limbs (if raB s xs x = true then raN xs x else 0)).length ≤ 16384 ∧ (limbs (if raB s xs x = true then raD x else 0)).length ≤ 16384 := by
  by_cases h : raB s xs x = true
  · rw [if_pos h, if_pos h]
    obtain ⟨_, h1, h2⟩ := of_decide_eq_true h
    exact ⟨big_len h1, big_len h2⟩
  · rw [if_neg h, if_neg h, limbs_zero]
    decide

theorem of_len (t : Bool) (xs ys : List Nat) (hok : Ok xs) : (limbs (ofD t xs ys).N).length ≤ 16384 := by
  unfold ofD
  by_cases h : ofI t xs ys = true
  · rw [if_pos h]
    have hr : ratB t xs ys = true := by
      unfold ofI at h
      simp only [Bool.and_eq_true] at h
      exact h.1
    exact Nat.le_trans (limbs_mono (mkN_le xs _)) (val_len hok (ratB_parts hr).1)
  · rw [if_neg h]
    show (limbs 0).length ≤ 16384
    rw [limbs_zero]; decide

/-- What stands behind the statement that lends a fraction. -/
structure LentR (w2 wx : World) (t : Bool) (n1 n2 : Nat) (xs ys : List Nat) (g1 g2 p1 p2 b : Nat) : Prop where
  below : Below w2.heap.size w2 wx
  box : Box3 wx b (.bool t) (.slice (some ⟨g1, 0, none⟩) n1 p1) (.slice (some ⟨g2, 0, none⟩) n2 p2)
  o1 : wx.ownsRow w2.heap.size 46 1 (.slice (some ⟨g1, 0, none⟩) (n1 + 3) p1) (n1 + 3) (lvs (xs ++ [77, 78, 79]))
  o2 : wx.ownsRow w2.heap.size 46 1 (.slice (some ⟨g2, 0, none⟩) (n2 + 3) p2) (n2 + 3) (lvs (ys ++ [77, 78, 79]))
  ne : g1 ≠ g2

theorem box3_sets {w : World} {b : Nat} {u v x : Value} (h : Box3 w b u v x) (p q r : Value) : Box3 (((w.setCell ⟨b, 0, none⟩ p).setCell ⟨b, 1, none⟩ q).setCell ⟨b, 2, none⟩ r) b p q r := by
  obtain ⟨t0, t1, t2⟩ := h.set p q r
  exact ⟨t0, t1, t2, by simp [h.z0], by simp [h.z1], by simp [h.z2]⟩

set_option maxRecDepth 100000 in
set_option maxHeartbeats 4000000 in
theorem exactRatios_any (s t : Bool) (a0 a1 a2 : Option Addr) (n0 n1 n2 c0 c1 c2 : Nat) (x : Int) (zs xs ys : List Nat) (w : World) (h0 : Sl w a0 n0 c0 zs) (h1 : Sl w a1 n1 c1 xs) (h2 : Sl w a2 n2 c2 ys) (hT : Tab w)
    (hn0 : n0 + 43 ≤ 35184372088832) (hn1 : n1 + 43 ≤ 35184372088832) (hn2 : n2 + 43 ≤ 35184372088832) :
    Calls Tryz.prog 3 #[.agg #[.bool s, .slice a0 n0 c0, .int .i64 x], .agg #[.bool t, .slice a1 n1 c1, .slice a2 n2 c2]] w fun en w' => en = .returned (.bool true) ∧ Below w.heap.size w w' := by
  have l0 : n0 + 3 ≤ 35184372088832 := by omega
  have l1 : n1 + 3 ≤ 35184372088832 := by omega
  have l2 : n2 + 3 ≤ 35184372088832 := by omega
  have cA : ∀ W : World, Below w.heap.size w W → Calls Tryz.prog 5 #[.agg #[.slice a1 n1 c1]] W (Lent W xs n1) := fun W hW => lent_any a1 n1 c1 xs W (h1.below hW) l1
  have cB : ∀ W : World, Below w.heap.size w W → Calls Tryz.prog 5 #[.agg #[.slice a2 n2 c2]] W (Lent W ys n2) := fun W hW => lent_any a2 n2 c2 ys W (h2.below hW) l2
  go_enter Tryz.func3, Tryz.ntmps3
  go_wp2_with fail
  have hM := more (more (Below.refl w.heap.size w) (.cells #[.bool s, .slice a0 n0 c0, .int .i64 x] 26)) (.cells #[.bool t, .slice a1 n1 c1, .slice a2 n2 c2] 28)
  have D := (box3_new w (.bool s) (.slice a0 n0 c0) (.int .i64 x) 26).alloc (.cells #[.bool t, .slice a1 n1 c1, .slice a2 n2 c2] 28)
  have R := box3_new (w.alloc (.cells #[.bool s, .slice a0 n0 c0, .int .i64 x] 26)) (.bool t) (.slice a1 n1 c1) (.slice a2 n2 c2) 28
  rw [World.size_alloc] at R
  refine (own_any s a0 n0 c0 x zs _ (h0.below hM) l0).mono ?_
  rintro en w2 ⟨gx, px, rfl, ox, hb2, -⟩
  have hW2 := more (next hM hb2) (.cells #[.bool s, .slice (some ⟨gx, 0, none⟩) n0 px, .int .i64 x] 26)
  replace D := (D.stay hb2).alloc (.cells #[.bool s, .slice (some ⟨gx, 0, none⟩) n0 px, .int .i64 x] 26)
  replace R := (R.stay hb2).alloc (.cells #[.bool s, .slice (some ⟨gx, 0, none⟩) n0 px, .int .i64 x] 26)
  have X := box3_new w2 (.bool s) (.slice (some ⟨gx, 0, none⟩) n0 px) (.int .i64 x) 26
  replace ox := own_keep ox (more (Below.refl _ _) (.cells #[.bool s, .slice (some ⟨gx, 0, none⟩) n0 px, .int .i64 x] 26))
  go_upto_region 2 with fail
  obtain ⟨bx, hbx⟩ : ∃ bx, bx = w2.heap.size := ⟨_, rfl⟩
  rw [← hbx] at X ⊢
  clear hbx hM hb2
  generalize w2.alloc (.cells #[.bool s, .slice (some ⟨gx, 0, none⟩) n0 px, .int .i64 x] 26) = w3 at hW2 D R X ox ⊢
  have kS : ∀ w' : World, Below w3.heap.size w3 w' → (w'.cell? ⟨w.heap.size + 1, 0, none⟩ = some (.bool t) ∧ w'.cell? ⟨w.heap.size + 1, 1, none⟩ = some (.slice a1 n1 c1) ∧ w'.cell? ⟨w.heap.size + 1, 2, none⟩ = some (.slice a2 n2 c2) ∧ Below w3.heap.size w3 w') := fun w' hb => ⟨cellStay R.c0 hb, cellStay R.c1 hb, cellStay R.c2 hb, hb⟩
  go_cut [6] from 20 (fun vy wx => ∃ g1 g2 p1 p2 b, vy = .pointer (some ⟨b, 0, none⟩) ∧ LentR w3 wx t n1 n2 xs ys g1 g2 p1 p2 b)
  case first =>
    go_region_held3 (fun w' => w'.cell? ⟨w.heap.size + 1, 0, none⟩ = some (.bool t) ∧ w'.cell? ⟨w.heap.size + 1, 1, none⟩ = some (.slice a1 n1 c1) ∧ w'.cell? ⟨w.heap.size + 1, 2, none⟩ = some (.slice a2 n2 c2) ∧ Below w3.heap.size w3 w')
      ((refine kS _ ?_; (repeat (with_reducible (first | exact hWB | exact hWA | exact Below.refl _ _ | refine Below.drew ?_ | refine more ?_ _ | refine Below.setCell ?_ ?_ _ | exact Nat.le_refl _ | exact szA | exact szB))); done))
      (first
      | (go_at_call 5; (with_reducible refine (cA _ ?_).mono ?_); (go_split_ands; exact next hW2 (by assumption)); rintro en wA ⟨g1, p1, rfl, hoA, hbA⟩; have hWA : Below w3.heap.size w3 wA := (by go_split_ands; exact next (by assumption) hbA); have szA := hWA.size; have lgA := hoA.lt g1 rfl; (try simp at lgA); have hoA2 := own_mono (base' := w3.heap.size) hoA (by first | exact Nat.le_refl _ | (simp; done) | (simp; omega)); (try have Z := (box3_new w3 (.bool false) (.slice none 0 0) (.slice none 0 0) 28).stay (by first | exact hbA | exact undrew hbA)); (try have ⟨z0, z1, z2, z3, z4, z5⟩ := Z))
      | (go_at_call 5; (with_reducible refine (cB _ ?_).mono ?_); (go_split_ands; exact next hW2 (by assumption)); rintro en wB ⟨g2, p2, rfl, hoB, hbB⟩; have hWB : Below w3.heap.size w3 wB := (by go_split_ands; exact next (by assumption) hbB); have szB := hWB.size; have lgB := hoB.lt g2 rfl; (try simp at lgB); have hAB : Below wA.heap.size wA wB := (by first | exact hbB | exact undrew hbB | exact next (more (Below.refl _ _) _) hbB | exact next (more (Below.refl _ _) _).drew hbB); have szC := hAB.size; have hoA3 := own_keep hoA2 hAB; have hoB2 := own_mono (base' := w3.heap.size) hoB (by first | exact szA | (simp; omega)); (try have ZZ := Z.stay hAB); (try have ⟨y0, y1, y2, y3, y4, y5⟩ := ZZ); (try have YY := (box3_new wA (.bool false) (.slice none 0 0) (.slice none 0 0) 28).stay (by first | exact hbB | exact undrew hbB)); (try have ⟨u0, u1, u2, u3, u4, u5⟩ := YY)))
    all_goals go_split_ands
    all_goals go_wp2
    all_goals go_meet
    all_goals (try have hzl := ZZ.lt)
    all_goals (try have hyl := YY.lt)
    all_goals (try have hzz := Z.lt)
    all_goals (first
      | exact ⟨g1, g2, p1, p2, _, rfl, ⟨more hWB _, box3_new wB _ _ _ _, own_al hoA3 _, own_al hoB2 _, by omega⟩⟩
      | exact ⟨g1, g2, p1, p2, _, rfl, ⟨((hWB.setCell (by simp; omega) _).setCell (by simp; omega) _).setCell (by simp; omega) _, box3_sets YY _ _ _, own_set_ne (own_set_ne (own_set_ne hoA3 (by omega) _) (by omega) _) (by omega) _, own_set_ne (own_set_ne (own_set_ne hoB2 (by omega) _) (by omega) _) (by omega) _, by omega⟩⟩
      | exact ⟨g1, g2, p1, p2, _, rfl, ⟨((hWB.setCell (by simp) _).setCell (by simp) _).setCell (by simp) _, box3_sets ZZ _ _ _, own_set_ne (own_set_ne (own_set_ne hoA3 (by omega) _) (by omega) _) (by omega) _, own_set_ne (own_set_ne (own_set_ne hoB2 (by omega) _) (by omega) _) (by omega) _, by omega⟩⟩
      | trace_state)
  case rest =>
    obtain ⟨g1, g2, p1, p2, bY, rfl, H⟩ := hcut
    have hWc := next hW2 H.below
    have Dc := D.stay H.below
    have Rc := R.stay H.below
    have Xc := X.stay H.below
    have Yc := H.box
    have oxc := own_keep ox H.below
    have o1 := H.o1
    have o2 := H.o2
    have gxl := ox.lt gx rfl
    have g1l := o1.lt g1 rfl
    have g2l := o2.lt g2 rfl
    have hne := H.ne
    have sx := sl_own oxc h0.len h0.ok
    have s1 := sl_own o1 h1.len h1.ok
    have s2 := sl_own o2 h2.len h2.ok
    have hT' := hT.below hWc
    have f0 := h0.below hWc
    have f1 := h1.below hWc
    have f2 := h2.below hWc
    have K0 := bk_new wc 34
    have U := more (Below.refl wc.heap.size wc) (.cells #[.slice none 0 0, .slice none 0 0, .bool false] 34)
    obtain ⟨sA, NA, DA, eA, hA, lA⟩ : ∃ sA NA DA eA, (∀ W, RatA s zs x W = Rtn sA NA DA eA W) ∧ (limbs NA).length ≤ 16384 ∧ (limbs DA).length ≤ 16384 := ⟨_, _, _, _, fun _ => rfl, ra_len s zs x⟩
    have lO := of_len t xs ys h1.ok
    have c1' : ∀ W : World, Below wc.heap.size wc W → Calls Tryz.prog 6 #[.agg #[.bool s, .slice (some ⟨gx, 0, none⟩) n0 px, .int .i64 x]] W (Rtn sA NA DA eA W) := fun W hW => hA W ▸ exRatio_any s _ n0 px x zs W (sx.below hW)
    have c2' : ∀ W : World, Below wc.heap.size wc W → Calls Tryz.prog 7 #[.agg #[.bool s, .slice a0 n0 c0, .int .i64 x]] W (Rtn sA NA DA eA W) := fun W hW => hA W ▸ rfRatio_any s a0 n0 c0 x zs W (f0.below hW)
    have c3' : ∀ W : World, Below wc.heap.size wc W → Calls Tryz.prog 9 #[.agg #[.bool t, .slice (some ⟨g1, 0, none⟩) n1 p1, .slice (some ⟨g2, 0, none⟩) n2 p2]] W (OfA t xs ys W) := fun W hW => exOf_any t _ _ n1 n2 p1 p2 xs ys W (s1.below hW) (s2.below hW) (hT'.below hW)
    have c4' : ∀ W : World, Below wc.heap.size wc W → Calls Tryz.prog 10 #[.agg #[.bool t, .slice a1 n1 c1, .slice a2 n2 c2]] W (OfA t xs ys W) := fun W hW => rfOf_any t _ _ n1 n2 c1 c2 xs ys W (f1.below hW) (f2.below hW) (hT'.below hW)
    clear cA cB kS hA h0 h1 h2 hT
    obtain ⟨pb, hpb⟩ : ∃ pb, pb = wc.heap.size := ⟨_, rfl⟩
    go_upto_region 4 with fail
    rw [← hpb] at K0 ⊢
    have HPB := Lib.hid hpb
    clear hpb
    have hpl := bk_lt K0
    generalize wc.alloc (.cells #[.slice none 0 0, .slice none 0 0, .bool false] 34) = wb at K0 U hpl ⊢
    have X4 := Xc.stay U
    have ⟨m0, m1, m2, _, _, _⟩ := X4
    go_wp2_with fail
    clear m0 m1 m2
    with_reducible refine (c1' _ U).mono ?_
    rintro en w4 ⟨a3, k3, e3, a4, k4, e4, rfl, F3, F4, hap, hb4⟩
    have n3 := F3.sl.len
    have n4 := F4.sl.len
    have T5 := more hb4 (.cells #[.bool sA, .slice a3 k3 e3, .slice a4 k4 e4] 28)
    have U5 := more (next U hb4) (.cells #[.bool sA, .slice a3 k3 e3, .slice a4 k4 e4] 28)
    have A5 := box3_new w4 (.bool sA) (.slice a3 k3 e3) (.slice a4 k4 e4) 28
    replace F3 := F3.alloc (.cells #[.bool sA, .slice a3 k3 e3, .slice a4 k4 e4] 28)
    replace F4 := F4.alloc (.cells #[.bool sA, .slice a3 k3 e3, .slice a4 k4 e4] 28)
    go_upto_region 5 with fail
    obtain ⟨q4, hq4⟩ : ∃ q, q = w4.heap.size := ⟨_, rfl⟩
    rw [← hq4] at A5 ⊢
    clear hq4 hb4
    generalize w4.alloc (.cells #[.bool sA, .slice a3 k3 e3, .slice a4 k4 e4] 28) = w5 at T5 U5 A5 F3 F4 ⊢
    have D5 := Dc.stay U5
    have ⟨m0, m1, m2, _, _, _⟩ := D5
    go_wp2_with fail
    clear m0 m1 m2
    with_reducible refine (c2' _ U5).mono ?_
    rintro en w6 ⟨a5, k5, e5, a6, k6, e6, rfl, F5, F6, -, hb6⟩
    obtain rfl : k3 = k5 := by rw [← n3, ← F5.sl.len]
    obtain rfl : k4 = k6 := by rw [← n4, ← F6.sl.len]
    have hs5 := T5.size
    have T7 := more (next T5 hb6) (.cells #[.bool sA, .slice a5 k3 e5, .slice a6 k4 e6] 28)
    have U7 := more (next U5 hb6) (.cells #[.bool sA, .slice a5 k3 e5, .slice a6 k4 e6] 28)
    replace A5 := (A5.stay hb6).alloc (.cells #[.bool sA, .slice a5 k3 e5, .slice a6 k4 e6] 28)
    have B7 := box3_new w6 (.bool sA) (.slice a5 k3 e5) (.slice a6 k4 e6) 28
    replace F3 := (F3.below hb6).alloc (.cells #[.bool sA, .slice a5 k3 e5, .slice a6 k4 e6] 28)
    replace F4 := (F4.below hb6).alloc (.cells #[.bool sA, .slice a5 k3 e5, .slice a6 k4 e6] 28)
    replace F5 := (F5.mono hs5).alloc (.cells #[.bool sA, .slice a5 k3 e5, .slice a6 k4 e6] 28)
    replace F6 := (F6.mono hs5).alloc (.cells #[.bool sA, .slice a5 k3 e5, .slice a6 k4 e6] 28)
    go_upto_region 6 with fail
    obtain ⟨q6, hq6⟩ : ∃ q, q = w6.heap.size := ⟨_, rfl⟩
    rw [← hq6] at B7 ⊢
    clear hq6 hb6 T5 U5
    generalize w6.alloc (.cells #[.bool sA, .slice a5 k3 e5, .slice a6 k4 e6] 28) = w7 at T7 U7 A5 B7 F3 F4 F5 F6 ⊢
    have ⟨m0, m1, m2, _, _, _⟩ := A5
    have ⟨m3, m4, m5, _, _, _⟩ := B7
    have hR := bk_ratio K0 T7 sA eA a3 a4 a5 a6 k3 k4 e3 e4 e5 e6 (limbs NA) (limbs DA) F3 F4 F5 F6 hap (by omega) (by omega) (by omega)
    go_wp2_with fail
    clear m0 m1 m2 m3 m4 m5
    with_reducible refine hR.mono ?_
    rintro en w8 ⟨rfl, K8, hb8⟩
    have U8 : Below wc.heap.size wc w8 := by
      have h8 := hb8
      rw [HPB.out] at h8
      exact U7.trans h8
    clear hR F3 F4 F5 F6 A5 B7 U7 T7 K0 hb8 n3 n4 hap
    have Y8 := Yc.stay U8
    have ⟨m0, m1, m2, _, _, _⟩ := Y8
    go_wp2_with fail
    clear m0 m1 m2
    with_reducible refine (c3' _ U8).mono ?_
    rintro en w9 ⟨a7, k7, e7, rfl, F7, hb9⟩
    have n7 := F7.sl.len
    have T10 := more hb9 (.cells #[.bool (ofD t xs ys).s, .slice a7 k7 e7, .int .i64 (ofD t xs ys).x] 26)
    have U10 := more (next U8 hb9) (.cells #[.bool (ofD t xs ys).s, .slice a7 k7 e7, .int .i64 (ofD t xs ys).x] 26)
    have A10 := box3_new w9 (.bool (ofD t xs ys).s) (.slice a7 k7 e7) (.int .i64 (ofD t xs ys).x) 26
    replace F7 := F7.alloc (.cells #[.bool (ofD t xs ys).s, .slice a7 k7 e7, .int .i64 (ofD t xs ys).x] 26)
    go_upto_region 8 with fail
    obtain ⟨q9, hq9⟩ : ∃ q, q = w9.heap.size := ⟨_, rfl⟩
    rw [← hq9] at A10 ⊢
    clear hq9 hb9
    generalize w9.alloc (.cells #[.bool (ofD t xs ys).s, .slice a7 k7 e7, .int .i64 (ofD t xs ys).x] 26) = w10 at T10 U10 A10 F7 ⊢
    have R10 := Rc.stay U10
    have ⟨m0, m1, m2, _, _, _⟩ := R10
    go_wp2_with fail
    clear m0 m1 m2
    with_reducible refine (c4' _ U10).mono ?_
    rintro en w11 ⟨a8, k8, e8, rfl, F8, hb11⟩
    obtain rfl : k7 = k8 := by rw [← n7, ← F8.sl.len]
    have hs10 := T10.size
    have T12 := more (next T10 hb11) (.cells #[.bool (ofD t xs ys).s, .slice a8 k7 e8, .int .i64 (ofD t xs ys).x] 26)
    have U12 := more (next U10 hb11) (.cells #[.bool (ofD t xs ys).s, .slice a8 k7 e8, .int .i64 (ofD t xs ys).x] 26)
    replace A10 := (A10.stay hb11).alloc (.cells #[.bool (ofD t xs ys).s, .slice a8 k7 e8, .int .i64 (ofD t xs ys).x] 26)
    have B12 := box3_new w11 (.bool (ofD t xs ys).s) (.slice a8 k7 e8) (.int .i64 (ofD t xs ys).x) 26
    replace F7 := (F7.below hb11).alloc (.cells #[.bool (ofD t xs ys).s, .slice a8 k7 e8, .int .i64 (ofD t xs ys).x] 26)
    replace F8 := (F8.mono hs10).alloc (.cells #[.bool (ofD t xs ys).s, .slice a8 k7 e8, .int .i64 (ofD t xs ys).x] 26)
    go_upto_region 9 with fail
    obtain ⟨q11, hq11⟩ : ∃ q, q = w11.heap.size := ⟨_, rfl⟩
    rw [← hq11] at B12 ⊢
    clear hq11 hb11 T10 U10
    generalize w11.alloc (.cells #[.bool (ofD t xs ys).s, .slice a8 k7 e8, .int .i64 (ofD t xs ys).x] 26) = w12 at T12 U12 A10 B12 F7 F8 ⊢
    have ⟨m0, m1, m2, _, _, _⟩ := A10
    have ⟨m3, m4, m5, _, _, _⟩ := B12
    have hR := bk_dyadic (bk_range 0 K8) T12 (Nat.zero_le _) (ofD t xs ys).s (ofD t xs ys).x (ofD t xs ys).e a7 a8 k7 e7 e8 (limbs (ofD t xs ys).N) F7 F8 (by omega) (by omega)
    go_wp2_with fail
    clear m0 m1 m2 m3 m4 m5
    with_reducible refine hR.mono ?_
    rintro en w13 ⟨rfl, K13, hb13, -⟩
    have U13 : Below wc.heap.size wc w13 := by
      have h8 := hb13
      rw [HPB.out] at h8
      exact U12.trans h8
    replace K13 := bk_none K13
    clear hR F7 F8 A10 B12 U12 T12 K8 U8 hb13
    have X13 := Xc.stay U13
    have ⟨m0, m1, m2, _, _, _⟩ := X13
    have ⟨m3, m4, m5, _, _, _⟩ := Dc.stay U13
    go_wp2_with fail
    clear m0 m1 m2 m3 m4 m5
    with_reducible refine (still_any s gx px a0 n0 c0 _ x zs _ (f0.below U13) (own_keep oxc U13) (by omega)).mono ?_
    rintro en w14 ⟨rfl, hb14⟩
    have U14 := next U13 hb14
    have K14 := bk_below K13 hb14
    have ⟨m0, m1, m2, _, _, _⟩ := Yc.stay U14
    have ⟨m3, m4, m5, _, _, _⟩ := Rc.stay U14
    go_wp2_with fail
    clear m0 m1 m2 m3 m4 m5
    with_reducible refine (kept_any g1 p1 a1 n1 c1 _ xs _ (f1.below U14) (own_keep o1 U14) (by have := U14.size; omega) (by omega)).mono ?_
    rintro en w15 ⟨rfl, hb15⟩
    have U15 := next U14 hb15
    have K15 := bk_below K14 hb15
    have ⟨m0, m1, m2, _, _, _⟩ := Yc.stay U15
    have ⟨m3, m4, m5, _, _, _⟩ := Rc.stay U15
    go_wp2_with fail
    clear m0 m1 m2 m3 m4 m5
    with_reducible refine (kept_any g2 p2 a2 n2 c2 _ ys _ (f2.below U15) (own_keep o2 U15) (by have := U15.size; omega) (by omega)).mono ?_
    rintro en w16 ⟨rfl, hb16⟩
    have U16 := next U15 hb16
    have K16 := bk_below K15 hb16
    have ⟨m0, m1, m2, _, _, _⟩ := Xc.stay U16
    have ⟨m3, m4, m5, _, _, _⟩ := Yc.stay U16
    go_wp2_with fail
    clear m0 m1 m2 m3 m4 m5
    have U17 := more U16 (.cells #[.slice (some ⟨gx, 0, none⟩) n0 px, .slice (some ⟨g1, 0, none⟩) n1 p1, .slice (some ⟨g2, 0, none⟩) n2 p2] 24)
    have K17 := bk_below K16 ((Below.refl _ _).alloc (Nat.le_refl _) (.cells #[.slice (some ⟨gx, 0, none⟩) n0 px, .slice (some ⟨g1, 0, none⟩) n1 p1, .slice (some ⟨g2, 0, none⟩) n2 p2] 24))
    have hgx1 : gx < w3.heap.size := gxl.2
    have hg1 : w3.heap.size ≤ g1 := g1l.1
    have hg2 : w3.heap.size ≤ g2 := g2l.1
    have hws := hW2.size
    have hwc := H.below.size
    have hgx0 : w.heap.size ≤ gx := by have := gxl.1; simp at this; omega
    refine (bk_stands _ w.heap.size pb 3 K17 (by decide) (by decide) (by rw [HPB.out]; omega) [(some ⟨gx, 0, none⟩, n0, px), (some ⟨g1, 0, none⟩, n1, p1), (some ⟨g2, 0, none⟩, n2, p2)] (some ⟨w16.heap.size, 0, none⟩) 3 (.inr ⟨w16.heap.size, rfl, fun j y hy => ?_⟩) (fun y hy => ?_) (fun y hy g hg => ?_) ?_ (fun y hy => ?_) (by simp)).mono ?_
    · match j, hy with
      | 0, hy =>
        simp at hy
        subst hy
        simp
      | 1, hy =>
        simp at hy
        subst hy
        simp
      | 2, hy =>
        simp at hy
        subst hy
        simp
    · simp only [List.mem_cons, List.not_mem_nil, or_false] at hy
      rcases hy with rfl | rfl | rfl
      · exact room_own (own_keep oxc U17)
      · exact room_own (own_keep o1 U17)
      · exact room_own (own_keep o2 U17)
    · rw [HPB.out]
      simp only [List.mem_cons, List.not_mem_nil, or_false] at hy
      rcases hy with rfl | rfl | rfl
      · obtain rfl : gx = g := Option.some.inj hg
        omega
      · obtain rfl : g1 = g := Option.some.inj hg
        omega
      · obtain rfl : g2 = g := Option.some.inj hg
        omega
    · refine List.Pairwise.cons (fun y hy g hg e => ?_) (List.pairwise_pair.2 (fun g hg e => hne ?_))
      · obtain rfl : gx = g := Option.some.inj hg
        simp only [List.mem_cons, List.not_mem_nil, or_false] at hy
        rcases hy with rfl | rfl
        · obtain rfl : g1 = gx := Option.some.inj e
          omega
        · obtain rfl : g2 = gx := Option.some.inj e
          omega
      · exact (Option.some.inj hg).trans (Option.some.inj e).symm
    · simp only [List.mem_cons, List.not_mem_nil, or_false] at hy
      rcases hy with rfl | rfl | rfl
      · show n0 + 41 ≤ _
        omega
      · show n1 + 41 ≤ _
        omega
      · show n2 + 41 ≤ _
        omega
    rintro e wl ⟨rfl, hbl⟩
    go_wp2
    go_ret
    exact ⟨rfl, (next hWc U17).trans hbl⟩

end Go.Proofs.YthemcdnlcgmimaaGreatDoor
