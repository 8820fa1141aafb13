/-
  The walk of the law ExactSums: it answers true, whatever it is asked; nothing that was there has turned. (Printed by wip/gen/lawsums.py.)
-/
import Derived.Test.YtnokabglkmiidaaDoorTwoOwn
namespace Go.Proofs.YtnokabglkmiidaaDoor
open Go.RowKit Go.Lb

set_option maxRecDepth 100000 in
set_option maxHeartbeats 4000000 in
theorem exactSums_any (s t : Bool) (a1 a2 : Option Addr) (n1 n2 c1 c2 : Nat) (x y : Int) (xs ys : List Nat) (w : World) (h1 : Sl w a1 n1 c1 xs) (h2 : Sl w a2 n2 c2 ys) (hT : Tab w) (hn1 : n1 + 43 ≤ 35184372088832) (hn2 : n2 + 43 ≤ 35184372088832) :
    Calls Tryd.prog 6 #[.agg #[.bool s, .slice a1 n1 c1, .int .i64 x], .agg #[.bool t, .slice a2 n2 c2, .int .i64 y]] w fun en w' => en = .returned (.bool true) ∧ Below w.heap.size w w' := by
  have l1 : n1 + 3 ≤ 35184372088832 := by omega
  have l2 : n2 + 3 ≤ 35184372088832 := by omega
  have cA : ∀ W : World, Below w.heap.size w W → Calls Tryd.prog 24 #[.agg #[.bool s, .slice a1 n1 c1, .int .i64 x]] W (Owned s x W xs n1) := fun W hW => own_any s a1 n1 c1 x xs W (h1.below hW) l1
  have cB : ∀ W : World, Below w.heap.size w W → Calls Tryd.prog 24 #[.agg #[.bool t, .slice a2 n2 c2, .int .i64 y]] W (Owned t y W ys n2) := fun W hW => own_any t a2 n2 c2 y ys W (h2.below hW) l2
  go_enter Tryd.func6, Tryd.ntmps6
  go_wp2
  have hw2 := more (more (Below.refl w.heap.size w) (.cells #[.bool s, .slice a1 n1 c1, .int .i64 x] 26)) (.cells #[.bool t, .slice a2 n2 c2, .int .i64 y] 26)
  have P2 := (box3_new w (.bool s) (.slice a1 n1 c1) (.int .i64 x) 26).alloc (.cells #[.bool t, .slice a2 n2 c2, .int .i64 y] 26)
  have Q2 := box3_new (w.alloc (.cells #[.bool s, .slice a1 n1 c1, .int .i64 x] 26)) (.bool t) (.slice a2 n2 c2) (.int .i64 y) 26
  rw [World.size_alloc] at Q2
  generalize (w.alloc (.cells #[.bool s, .slice a1 n1 c1, .int .i64 x] 26)).alloc (.cells #[.bool t, .slice a2 n2 c2, .int .i64 y] 26) = w2 at hw2 P2 Q2 ⊢
  have ⟨v12_0, v12_1, v12_2, v12z0, v12z1, v12z2⟩ := P2; have v12l := P2.lt; have v12m := Nat.lt_succ_of_lt v12l
  have ⟨v13_0, v13_1, v13_2, v13z0, v13z1, v13z2⟩ := Q2; have v13l := Q2.lt; have v13m := Nat.lt_succ_of_lt v13l
  have kS : ∀ w' : World, Below w2.heap.size w2 w' → (w'.cell? ⟨w.heap.size, 0, none⟩ = some (.bool s) ∧ w'.cell? ⟨w.heap.size, 1, none⟩ = some (.slice a1 n1 c1) ∧ w'.cell? ⟨w.heap.size, 2, none⟩ = some (.int .i64 x) ∧ w'.cell? ⟨w.heap.size + 1, 0, none⟩ = some (.bool t) ∧ w'.cell? ⟨w.heap.size + 1, 1, none⟩ = some (.slice a2 n2 c2) ∧ w'.cell? ⟨w.heap.size + 1, 2, none⟩ = some (.int .i64 y) ∧ Below w2.heap.size w2 w') := fun w' hb => ⟨cellStay P2.c0 hb, cellStay P2.c1 hb, cellStay P2.c2 hb, cellStay Q2.c0 hb, cellStay Q2.c1 hb, cellStay Q2.c2 hb, hb⟩
  go_cut [5, 6] from 17 (fun vx vy wx => ∃ (gx gy px py bx bY : Nat), vx = .pointer (some ⟨bx, 0, none⟩) ∧ vy = .pointer (some ⟨bY, 0, none⟩) ∧ Two w2 wx s t x y n1 n2 xs ys gx gy px py bx bY)
  case rest =>
    obtain ⟨gx, gy, px, py, bx, bY, rfl, rfl, H⟩ := hcut
    have hV0 := next hw2 H.below
    have lgx := H.ox.lt gx rfl
    have lgy := H.oy.lt gy rfl
    have sx := sl_own H.ox h1.len h1.ok
    have sy := sl_own H.oy h2.len h2.ok
    have Ac := cell3_box (P2.stay H.below)
    have Bc := cell3_box (Q2.stay H.below)
    have Xc := H.cx
    have Yc := H.cy
    have K0 := bk_new wc 34
    have V0 := (Below.refl wc.heap.size wc).alloc (Nat.le_refl _) (.cells #[.slice none 0 0, .slice none 0 0, .bool false] 34)
    have g1 : ∀ W : World, Below wc.heap.size wc W → Sl W a1 n1 c1 xs := fun W hW => h1.below (next hV0 hW)
    have g2 : ∀ W : World, Below wc.heap.size wc W → Sl W a2 n2 c2 ys := fun W hW => h2.below (next hV0 hW)
    have qx : ∀ W : World, Below wc.heap.size wc W → Sl W (some ⟨gx, 0, none⟩) n1 px xs := fun W hW => sx.below hW
    have qy : ∀ W : World, Below wc.heap.size wc W → Sl W (some ⟨gy, 0, none⟩) n2 py ys := fun W hW => sy.below hW
    have qT : ∀ W : World, Below wc.heap.size wc W → Tab W := fun W hW => hT.below (next hV0 hW)
    have cN : ∀ W : World, Below wc.heap.size wc W → Calls Tryd.prog 26 #[.agg #[.bool s, .slice (some ⟨gx, 0, none⟩) n1 px, .int .i64 x]] W (Dyn (negA s xs x) W) := fun W hW => exNeg_any s (some ⟨gx, 0, none⟩) n1 px x xs W (qx W hW)
    have cO : ∀ W : World, Below wc.heap.size wc W → Calls Tryd.prog 27 #[.agg #[.bool s, .slice a1 n1 c1, .int .i64 x]] W (Dyn (negA s xs x) W) := fun W hW => rfNeg_any s a1 n1 c1 x xs W (g1 W hW)
    have lN : (limbs (negA s xs x).N).length ≤ 16384 := negA_small h1.ok
    generalize negA s xs x = N at cN cO lN
    have hpb := bk_lt K0
    have ⟨r101_0, r101_1, r101_2⟩ := cell3_alloc (Ac.stay (Below.refl _ _)) (.cells #[.slice none 0 0, .slice none 0 0, .bool false] 34)
    have ⟨r102_0, r102_1, r102_2⟩ := cell3_alloc (Bc.stay (Below.refl _ _)) (.cells #[.slice none 0 0, .slice none 0 0, .bool false] 34)
    have ⟨r103_0, r103_1, r103_2⟩ := cell3_alloc (Xc.stay (Below.refl _ _)) (.cells #[.slice none 0 0, .slice none 0 0, .bool false] 34)
    have ⟨r104_0, r104_1, r104_2⟩ := cell3_alloc (Yc.stay (Below.refl _ _)) (.cells #[.slice none 0 0, .slice none 0 0, .bool false] 34)
    go_wp2_with (first
      | (go_at_call 25; (with_reducible refine (sums_any wc.heap.size 0 _ s t (some ⟨gx, 0, none⟩) (some ⟨gy, 0, none⟩) a1 a2 n1 n2 px py c1 c2 x y xs ys wc _ V0 qx qy (fun W hW _ => g1 W hW) g2 qT (bk_range _ K0) (Nat.le_refl _) (by decide)).mono ?_); rintro e wd ⟨rfl, K1, V1, z1⟩; have ⟨r105_0, r105_1, r105_2⟩ := Ac.stay V1; have ⟨r106_0, r106_1, r106_2⟩ := Bc.stay V1; have ⟨r107_0, r107_1, r107_2⟩ := Xc.stay V1; have ⟨r108_0, r108_1, r108_2⟩ := Yc.stay V1)
      | (go_at_call 25; (with_reducible refine (sums_any wc.heap.size 2 _ t t (some ⟨gy, 0, none⟩) (some ⟨gy, 0, none⟩) a2 a2 n2 n2 py py c2 c2 y y ys ys wc _ V1 qy qy (fun W hW _ => g2 W hW) g2 qT (bk_range _ K1) (Nat.le_refl _) (by decide)).mono ?_); rintro e we ⟨rfl, K2, V2, z2⟩; have z3 := bk_lt K2; have ⟨r109_0, r109_1, r109_2⟩ := Ac.stay V2; have ⟨r110_0, r110_1, r110_2⟩ := Bc.stay V2; have ⟨r111_0, r111_1, r111_2⟩ := Xc.stay V2; have ⟨r112_0, r112_1, r112_2⟩ := Yc.stay V2)
      | (go_at_call 26; (with_reducible refine (cN _ V2).mono ?_); rintro e w7 ⟨ao1, m1, e1, rfl, hF1, hb7⟩; have hK := more hb7 (.cells #[.bool N.s, .slice ao1 m1 e1, .int .i64 N.x] 26); replace hF1 := hF1.alloc (.cells #[.bool N.s, .slice ao1 m1 e1, .int .i64 N.x] 26); have V3 := (nxp V2 (by omega) hb7).alloc (by have := hb7.size; omega) (.cells #[.bool N.s, .slice ao1 m1 e1, .int .i64 N.x] 26); have z4 := hK.size; have G1 := box3_new w7 (.bool N.s) (.slice ao1 m1 e1) (.int .i64 N.x) 26; have ⟨ga1, ga2, ga3, gaz1, gaz2, gaz3⟩ := G1; have ⟨r113_0, r113_1, r113_2⟩ := Ac.stay V3; have ⟨r114_0, r114_1, r114_2⟩ := Bc.stay V3; have ⟨r115_0, r115_1, r115_2⟩ := Xc.stay V3; have ⟨r116_0, r116_1, r116_2⟩ := Yc.stay V3)
      | (go_at_call 27; (with_reducible refine (cO _ V3).mono ?_); rintro e w8 ⟨ao2, m2, e2, rfl, hF2, hb8⟩; obtain rfl : m1 = m2 := (by rw [← hF2.sl.len, ← hF1.sl.len]); replace hF1 := (hF1.below hb8).alloc (.cells #[.bool N.s, .slice ao2 m1 e2, .int .i64 N.x] 26); replace hF2 := (hF2.mono z4).alloc (.cells #[.bool N.s, .slice ao2 m1 e2, .int .i64 N.x] 26); replace hK := more (next hK hb8) (.cells #[.bool N.s, .slice ao2 m1 e2, .int .i64 N.x] 26); have V4 := (nxp V3 (by omega) hb8).alloc (by have := hb8.size; omega) (.cells #[.bool N.s, .slice ao2 m1 e2, .int .i64 N.x] 26); have H1 := (G1.stay hb8).alloc (.cells #[.bool N.s, .slice ao2 m1 e2, .int .i64 N.x] 26); have ⟨gb1, gb2, gb3, gbz1, gbz2, gbz3⟩ := H1; have G2 := box3_new w8 (.bool N.s) (.slice ao2 m1 e2) (.int .i64 N.x) 26; have ⟨gc1, gc2, gc3, gcz1, gcz2, gcz3⟩ := G2; have ⟨r117_0, r117_1, r117_2⟩ := Ac.stay V4; have ⟨r118_0, r118_1, r118_2⟩ := Bc.stay V4; have ⟨r119_0, r119_1, r119_2⟩ := Xc.stay V4; have ⟨r120_0, r120_1, r120_2⟩ := Yc.stay V4)
      | (go_at_call 10; (with_reducible refine (bk_dyadic K2 hK (Nat.zero_le _) N.s N.x N.e ao1 ao2 m1 e1 e2 (limbs N.N) hF1 hF2 (by rw [hF1.sl.len] at lN; omega) (by omega)).mono ?_); rintro e wf ⟨rfl, K3, hB, -⟩; have V5 := V4.trans hB; have z5 := hB.size; have z6 := hK.size; have ⟨r121_0, r121_1, r121_2⟩ := Ac.stay V5; have ⟨r122_0, r122_1, r122_2⟩ := Bc.stay V5; have ⟨r123_0, r123_1, r123_2⟩ := Xc.stay V5; have ⟨r124_0, r124_1, r124_2⟩ := Yc.stay V5)
      | (go_at_call 28; (with_reducible refine (still_any s gx px a1 n1 c1 w2.heap.size x xs _ (g1 _ V5) (own_keep H.ox V5) (by omega)).mono ?_); rintro e wg ⟨rfl, hbg⟩; have V6 := nxp V5 V5.size hbg; have K4 := bk_below K3 hbg; have ⟨r125_0, r125_1, r125_2⟩ := Ac.stay V6; have ⟨r126_0, r126_1, r126_2⟩ := Bc.stay V6; have ⟨r127_0, r127_1, r127_2⟩ := Xc.stay V6; have ⟨r128_0, r128_1, r128_2⟩ := Yc.stay V6)
      | (go_at_call 28; (with_reducible refine (still_any t gy py a2 n2 c2 w2.heap.size y ys _ (g2 _ V6) (own_keep H.oy V6) (by omega)).mono ?_); rintro e wh ⟨rfl, hbh⟩; have V7 := nxp V6 V6.size hbh; have K5 := bk_below K4 hbh; have ⟨r129_0, r129_1, r129_2⟩ := Ac.stay V7; have ⟨r130_0, r130_1, r130_2⟩ := Bc.stay V7; have ⟨r131_0, r131_1, r131_2⟩ := Xc.stay V7; have ⟨r132_0, r132_1, r132_2⟩ := Yc.stay V7))
    have lx := h1.len
    go_loopw [14] (fun i wr => ∃ k : Nat, k ≤ n1 ∧ i = .int .i64 k ∧ Below w2.heap.size w2 wr ∧ Bk wr wc.heap.size 5 0 0 ∧ Cell3 wr bx (.bool s) (.slice (some ⟨gx, 0, none⟩) n1 px) (.int .i64 x) ∧ Cell3 wr bY (.bool t) (.slice (some ⟨gy, 0, none⟩) n2 py) (.int .i64 y) ∧ wr.ownsRow w2.heap.size 55 1 (.slice (some ⟨gx, 0, none⟩) (n1 + 3) px) (n1 + 3) (lvs (xr xs k ++ [77, 78, 79])) ∧ wr.ownsRow w2.heap.size 55 1 (.slice (some ⟨gy, 0, none⟩) (n2 + 3) py) (n2 + 3) (lvs (ys ++ [77, 78, 79]))) (fun i _ => n1 - (intOf i).toNat)
    case atStart => exact ⟨0, by omega, rfl, H.below.trans (V7.mono H.below.size), K5, Xc.stay V7, Yc.stay V7, by rw [xr_zero]; exact own_keep H.ox V7, own_keep H.oy V7⟩
    case round =>
      obtain ⟨k, hk, rfl, hb, hK, hX, hY, hox, hoy⟩ := hrel
      have ⟨i1, i2, i3⟩ := hX
      by_cases hkn : k < n1
      · have hcell := own_cell hox (j := k) (by omega)
        rw [nth_app, if_pos (by rw [xr_length]; omega), nth_xr (by omega)] at hcell
        have hfz := hox.frozenAt k
        have hx1 := nth_lt h1.ok k
        have hxor : bits BinOp.xor IntKind.u32 (nth xs k : Int) 2 = ((nth xs k ^^^ 2 : Nat) : Int) := u32_xor_nat (nth xs k) 2 hx1 (by decide)
        have hset := xr_set (xs := xs) (ms := [77, 78, 79]) (k := k) (by omega)
        have ho := (hox.stored k (lv (nth xs k ^^^ 2))).1
        rw [hset] at ho
        generalize nth xs k ^^^ 2 = zv at hxor ho
        have kb : Below w2.heap.size w2 (wr.setCell ⟨gx, k, none⟩ (lv zv)) := hb.setCell lgx.1 _
        have kK := bk_set hK (p := ⟨gx, k, none⟩) (by simpa using lgx.2) (lv zv)
        have kX : Cell3 (wr.setCell ⟨gx, k, none⟩ (lv zv)) bx _ _ _ := ⟨cell_blk hX.c0 H.nx.symm _, cell_blk hX.c1 H.nx.symm _, cell_blk hX.c2 H.nx.symm _⟩
        have kY : Cell3 (wr.setCell ⟨gx, k, none⟩ (lv zv)) bY _ _ _ := ⟨cell_blk hY.c0 H.ny.symm _, cell_blk hY.c1 H.ny.symm _, cell_blk hY.c2 H.ny.symm _⟩
        have ko := own_set_ne (i := k) hoy H.ne (lv zv)
        have hD := (Below.refl (wr.setCell ⟨gx, k, none⟩ (lv zv)).heap.size (wr.setCell ⟨gx, k, none⟩ (lv zv))).drew
        go_wp2
        go_region
        all_goals go_wp2
        all_goals try rw [hxor]
        all_goals exact ⟨⟨k + 1, by omega, by go_num, kb.drew, bk_below kK hD, kX.stay hD, kY.stay hD, own_keep ho hD, own_keep ko hD⟩, by simp [intOf]; omega⟩
      · have ekn : k = n1 := by omega
        subst ekn
        have hwr := bk_lt hK
        have sx2 := sl_own hox (by rw [xr_length]; exact h1.len) (ok_xr h1.ok _)
        have pAc := cell3_box (P2.stay hb)
        have pBc := cell3_box (Q2.stay hb)
        have hwc := H.below.size
        have lAb : w.heap.size < wc.heap.size := Nat.lt_of_lt_of_le P2.lt hwc
        have lBb : w.heap.size + 1 < wc.heap.size := Nat.lt_of_lt_of_le Q2.lt hwc
        have lXb : bx < wc.heap.size := World.block_lt_of_cell? wc ⟨bx, 0, none⟩ H.cx.c0
        have lYb : bY < wc.heap.size := World.block_lt_of_cell? wc ⟨bY, 0, none⟩ H.cy.c0
        have f1 : ∀ W : World, Below wc.heap.size wr W → Sl W (some ⟨gx, 0, none⟩) k px (xr xs k) := fun W hW => sl_own (own_low hox hW lgx.2) (by rw [xr_length]; exact h1.len) (ok_xr h1.ok _)
        have f2 : ∀ W : World, Below wc.heap.size wr W → Sl W (some ⟨gy, 0, none⟩) n2 py ys := fun W hW => sl_own (own_low hoy hW lgy.2) h2.len h2.ok
        have fw : ∀ W : World, Below wc.heap.size wr W → Below w.heap.size w W := fun W hW => next hw2 (hb.trans (hW.mono hwc))
        have f4 : ∀ W : World, Below wc.heap.size wr W → Sl W a2 n2 c2 ys := fun W hW => h2.below (fw W hW)
        have fT : ∀ W : World, Below wc.heap.size wr W → Tab W := fun W hW => hT.below (fw W hW)
        have ⟨r141_0, r141_1, r141_2⟩ := pAc
        have ⟨r142_0, r142_1, r142_2⟩ := pBc
        have ⟨r143_0, r143_1, r143_2⟩ := hX
        have ⟨r144_0, r144_1, r144_2⟩ := hY
        go_wp2_with (first
          | (go_at_call 29; (with_reducible refine (rfTwin_any s (some ⟨gx, 0, none⟩) k px x (xr xs k) _ sx2 (by omega)).mono ?_); rintro e wi ⟨ao3, e3, rfl, hF3, hb3⟩; have hk3 := more hb3 (.cells #[.bool s, .slice ao3 k e3, .int .i64 x] 26); have U1 := hk3.mono (Nat.le_of_lt hwr); replace hF3 := hF3.alloc (.cells #[.bool s, .slice ao3 k e3, .int .i64 x] 26); have C3 := box3_new wi (.bool s) (.slice ao3 k e3) (.int .i64 x) 26; have ⟨gd1, gd2, gd3, gdz1, gdz2, gdz3⟩ := C3; have z7 := hk3.size; have ⟨r145_0, r145_1, r145_2⟩ := pAc.stay hk3; have ⟨r146_0, r146_1, r146_2⟩ := pBc.stay hk3; have ⟨r147_0, r147_1, r147_2⟩ := hX.stay hk3; have ⟨r148_0, r148_1, r148_2⟩ := hY.stay hk3)
          | (go_at_call 25; (with_reducible refine (sums_any wc.heap.size 5 wr.heap.size s t (some ⟨gx, 0, none⟩) (some ⟨gy, 0, none⟩) ao3 a2 k n2 px py e3 c2 x y (xr xs k) ys wr _ U1 f1 f2 (fun W _ hH => sl_hr hF3 (fun g hg => hr_at hH (fr_lt hF3 hg).1 (fr_lt hF3 hg).2)) f4 fT (bk_below (bk_range _ hK) hk3) z7 (by decide)).mono ?_); rintro e wj ⟨rfl, K7, U2, z8⟩; have z9 := bk_lt K7; have ⟨r133_0, r133_1, r133_2⟩ := cell3_at pAc (U2.block _ lAb); have ⟨r134_0, r134_1, r134_2⟩ := cell3_at pBc (U2.block _ lBb); have ⟨r135_0, r135_1, r135_2⟩ := cell3_at hX (U2.block _ lXb); have ⟨r136_0, r136_1, r136_2⟩ := cell3_at hY (U2.block _ lYb))
          | (go_at_call 28; (with_reducible refine (still_any t gy py a2 n2 c2 w2.heap.size y ys _ (f4 _ U2) (own_low hoy U2 lgy.2) (by omega)).mono ?_); rintro e wk ⟨rfl, hbk⟩; have U3 := nxp U2 (Nat.le_of_lt z9) hbk; have K8 := bk_below K7 hbk; have ⟨r137_0, r137_1, r137_2⟩ := cell3_at pAc (U3.block _ lAb); have ⟨r138_0, r138_1, r138_2⟩ := cell3_at pBc (U3.block _ lBb); have ⟨r139_0, r139_1, r139_2⟩ := cell3_at hX (U3.block _ lXb); have ⟨r140_0, r140_1, r140_2⟩ := cell3_at hY (U3.block _ lYb)))
        have U4 := U3.alloc (Nat.le_of_lt (bk_lt K8)) (.cells #[.slice (some ⟨gx, 0, none⟩) k px, .slice (some ⟨gy, 0, none⟩) n2 py] 24)
        have K9 := bk_below K8 ((Below.refl _ _).alloc (Nat.le_refl _) (.cells #[.slice (some ⟨gx, 0, none⟩) k px, .slice (some ⟨gy, 0, none⟩) n2 py] 24))
        refine (bk_stands _ w.heap.size wc.heap.size 7 K9 (by decide) (by decide) hV0.size [(some ⟨gx, 0, none⟩, k, px), (some ⟨gy, 0, none⟩, n2, py)] (some ⟨wk.heap.size, 0, none⟩) 2 (.inr ⟨wk.heap.size, rfl, fun j y hy => ?_⟩) (fun y hy => ?_) (fun y hy g hg => ?_) ?_ (fun y hy => ?_) (by simp)).mono ?_
        · match j, hy with
          | 0, hy =>
            simp at hy
            subst hy
            simp
          | 1, hy =>
            simp at hy
            subst hy
            simp
        · simp only [List.mem_cons, List.not_mem_nil, or_false] at hy
          rcases hy with rfl | rfl
          · exact room_own (own_low hox U4 lgx.2)
          · exact room_own (own_low hoy U4 lgy.2)
        · have hws := hw2.size
          simp only [List.mem_cons, List.not_mem_nil, or_false] at hy
          rcases hy with rfl | rfl
          · obtain rfl : gx = g := Option.some.inj hg
            omega
          · obtain rfl : gy = g := Option.some.inj hg
            omega
        · refine List.pairwise_pair.2 (fun g hg e => H.ne ?_)
          exact (Option.some.inj hg).trans (Option.some.inj e).symm
        · simp only [List.mem_cons, List.not_mem_nil, or_false] at hy
          rcases hy with rfl | rfl
          · show k + 41 ≤ _
            omega
          · show n2 + 41 ≤ _
            omega
        rintro e wl ⟨rfl, hbl⟩
        go_wp2
        go_ret
        exact ⟨rfl, (fw _ U4).trans hbl⟩
  case first =>
   go_region_held3 (fun w' => w'.cell? ⟨w.heap.size, 0, none⟩ = some (.bool s) ∧ w'.cell? ⟨w.heap.size, 1, none⟩ = some (.slice a1 n1 c1) ∧ w'.cell? ⟨w.heap.size, 2, none⟩ = some (.int .i64 x) ∧ w'.cell? ⟨w.heap.size + 1, 0, none⟩ = some (.bool t) ∧ w'.cell? ⟨w.heap.size + 1, 1, none⟩ = some (.slice a2 n2 c2) ∧ w'.cell? ⟨w.heap.size + 1, 2, none⟩ = some (.int .i64 y) ∧ Below w2.heap.size w2 w')
    ((refine kS _ ?_; (repeat (with_reducible (first | exact hWB | exact hWA | exact Below.refl _ _ | refine Below.drew ?_ | refine more ?_ _ | refine Below.setCell ?_ ?_ _ | exact Nat.le_refl _ | exact szA | exact szB | exact Nat.le_succ_of_le szA | exact Nat.le_succ _ | exact Nat.le_succ_of_le szB))); done))
    (first | (go_at_call 24; (with_reducible refine (cA _ ?_).mono ?_); (go_split_ands; exact next hw2 (by assumption)); rintro en wA ⟨gx, px, rfl, hox, hbA, hgx⟩; have hWA : Below w2.heap.size w2 wA := (by go_split_ands; exact next (by assumption) hbA); have szA := hWA.size; have lgx := hox.lt gx rfl; (try simp at lgx); have hoxA := own_mono (base' := w2.heap.size) hox (by first | exact Nat.le_refl _ | (simp; done) | (simp; omega)); (first | (have Z1 := ((box3_new w2 (.bool false) (.slice none 0 0) (.int .i64 0) 26).alloc (.cells #[.bool false, .slice none 0 0, .int .i64 0] 26)).stay (by first | exact hbA | exact undrew hbA); have Z2 := (box3_new (w2.alloc (.cells #[.bool false, .slice none 0 0, .int .i64 0] 26)) (.bool false) (.slice none 0 0) (.int .i64 0) 26).stay (by first | exact hbA | exact undrew hbA); rw [World.size_alloc] at Z2; have ⟨v1_0, v1_1, v1_2, v1z0, v1z1, v1z2⟩ := Z1; have v1l := Z1.lt; have v1m := Nat.lt_succ_of_lt v1l; have ⟨v2_0, v2_1, v2_2, v2z0, v2z1, v2z2⟩ := Z2; have v2l := Z2.lt; have v2m := Nat.lt_succ_of_lt v2l) | (have Z1 := (box3_new w2 (.bool false) (.slice none 0 0) (.int .i64 0) 26).stay (by first | exact hbA | exact undrew hbA); have ⟨v3_0, v3_1, v3_2, v3z0, v3z1, v3z2⟩ := Z1; have v3l := Z1.lt; have v3m := Nat.lt_succ_of_lt v3l) | skip)) | (go_at_call 24; (with_reducible refine (cB _ ?_).mono ?_); (go_split_ands; exact next hw2 (by assumption)); rintro en wB ⟨gy, py, rfl, hoy, hbB, hgy⟩; have hWB : Below w2.heap.size w2 wB := (by go_split_ands; exact next (by assumption) hbB); have szB := hWB.size; have lgy := hoy.lt gy rfl; (try simp at lgy); have hAB : Below wA.heap.size wA wB := (by first | exact hbB | exact undrew hbB | exact next (more (Below.refl _ _) _) hbB | exact next (more (Below.refl _ _) _).drew hbB | exact next (more (more (Below.refl _ _) _) _) hbB | exact next (more (more (Below.refl _ _) _) _).drew hbB); have szC := hAB.size; have hoxB := own_keep hoxA hAB; have hoyB := own_mono (base' := w2.heap.size) hoy (by first | exact szA | (simp; omega)); (first | (have Y1 := Z1.stay hAB; have Y2 := Z2.stay hAB; have ⟨v4_0, v4_1, v4_2, v4z0, v4z1, v4z2⟩ := Y1; have v4l := Y1.lt; have v4m := Nat.lt_succ_of_lt v4l; have ⟨v5_0, v5_1, v5_2, v5z0, v5z1, v5z2⟩ := Y2; have v5l := Y2.lt; have v5m := Nat.lt_succ_of_lt v5l) | (have Y1 := Z1.stay hAB; have Y3 := (box3_new wA (.bool false) (.slice none 0 0) (.int .i64 0) 26).stay (by first | exact hbB | exact undrew hbB); have ⟨v6_0, v6_1, v6_2, v6z0, v6z1, v6z2⟩ := Y1; have v6l := Y1.lt; have v6m := Nat.lt_succ_of_lt v6l; have ⟨v7_0, v7_1, v7_2, v7z0, v7z1, v7z2⟩ := Y3; have v7l := Y3.lt; have v7m := Nat.lt_succ_of_lt v7l) | (have Y1 := Z1.stay hAB; have ⟨v8_0, v8_1, v8_2, v8z0, v8z1, v8z2⟩ := Y1; have v8l := Y1.lt; have v8m := Nat.lt_succ_of_lt v8l) | (have Y3 := ((box3_new wA (.bool false) (.slice none 0 0) (.int .i64 0) 26).alloc (.cells #[.bool false, .slice none 0 0, .int .i64 0] 26)).stay (by first | exact hbB | exact undrew hbB); have Y4 := (box3_new (wA.alloc (.cells #[.bool false, .slice none 0 0, .int .i64 0] 26)) (.bool false) (.slice none 0 0) (.int .i64 0) 26).stay (by first | exact hbB | exact undrew hbB); rw [World.size_alloc] at Y4; have ⟨v9_0, v9_1, v9_2, v9z0, v9z1, v9z2⟩ := Y3; have v9l := Y3.lt; have v9m := Nat.lt_succ_of_lt v9l; have ⟨v10_0, v10_1, v10_2, v10z0, v10z1, v10z2⟩ := Y4; have v10l := Y4.lt; have v10m := Nat.lt_succ_of_lt v10l) | (have Y3 := (box3_new wA (.bool false) (.slice none 0 0) (.int .i64 0) 26).stay (by first | exact hbB | exact undrew hbB); have ⟨v11_0, v11_1, v11_2, v11z0, v11z1, v11z2⟩ := Y3; have v11l := Y3.lt; have v11m := Nat.lt_succ_of_lt v11l) | skip)))
   all_goals go_split_ands
   all_goals go_wp2
   all_goals go_meet
   all_goals
    refine ⟨gx, gy, px, py, _, _, rfl, rfl, ⟨?_, ⟨?_, ?_, ?_⟩, ⟨?_, ?_, ?_⟩, ?_, ?_, ?_, ?_, ?_⟩⟩
    · (repeat (with_reducible (first | exact hWB | exact hWA | exact Below.refl _ _ | refine Below.drew ?_ | refine more ?_ _ | refine Below.setCell ?_ ?_ _ | exact Nat.le_refl _ | exact szA | exact szB | exact Nat.le_succ_of_le szA | exact Nat.le_succ _ | exact Nat.le_succ_of_le szB)))
    · (repeat (first | (with_reducible assumption) | (with_reducible exact cell_new0 (by first | rfl | (simp; done)) ..) | (with_reducible exact cell_new1 (by first | rfl | (simp; done)) ..) | (with_reducible exact cell_new2 (by first | rfl | (simp; done)) ..) | (with_reducible exact cell_nex0 (by first | rfl | (simp; done)) ..) | (with_reducible exact cell_nex1 (by first | rfl | (simp; done)) ..) | (with_reducible exact cell_nex2 (by first | rfl | (simp; done)) ..) | (with_reducible refine cell_old ?_ _) | (with_reducible exact ⟨_, by assumption⟩) | (with_reducible refine ex_set ?_ _ _) | (with_reducible refine ex_old ?_ _) | (with_reducible refine cell_same _ ?_) | (with_reducible refine cell_off ?_ (by decide) _) | (with_reducible refine cell_blk ?_ (by first | exact Nat.ne_of_lt (by assumption) | exact (Nat.ne_of_lt (by assumption)).symm | exact Nat.ne_of_lt (Nat.lt_succ_self _) | exact (Nat.ne_of_lt (Nat.lt_succ_self _)).symm | omega) _)))
    · (repeat (first | (with_reducible assumption) | (with_reducible exact cell_new0 (by first | rfl | (simp; done)) ..) | (with_reducible exact cell_new1 (by first | rfl | (simp; done)) ..) | (with_reducible exact cell_new2 (by first | rfl | (simp; done)) ..) | (with_reducible exact cell_nex0 (by first | rfl | (simp; done)) ..) | (with_reducible exact cell_nex1 (by first | rfl | (simp; done)) ..) | (with_reducible exact cell_nex2 (by first | rfl | (simp; done)) ..) | (with_reducible refine cell_old ?_ _) | (with_reducible exact ⟨_, by assumption⟩) | (with_reducible refine ex_set ?_ _ _) | (with_reducible refine ex_old ?_ _) | (with_reducible refine cell_same _ ?_) | (with_reducible refine cell_off ?_ (by decide) _) | (with_reducible refine cell_blk ?_ (by first | exact Nat.ne_of_lt (by assumption) | exact (Nat.ne_of_lt (by assumption)).symm | exact Nat.ne_of_lt (Nat.lt_succ_self _) | exact (Nat.ne_of_lt (Nat.lt_succ_self _)).symm | omega) _)))
    · (repeat (first | (with_reducible assumption) | (with_reducible exact cell_new0 (by first | rfl | (simp; done)) ..) | (with_reducible exact cell_new1 (by first | rfl | (simp; done)) ..) | (with_reducible exact cell_new2 (by first | rfl | (simp; done)) ..) | (with_reducible exact cell_nex0 (by first | rfl | (simp; done)) ..) | (with_reducible exact cell_nex1 (by first | rfl | (simp; done)) ..) | (with_reducible exact cell_nex2 (by first | rfl | (simp; done)) ..) | (with_reducible refine cell_old ?_ _) | (with_reducible exact ⟨_, by assumption⟩) | (with_reducible refine ex_set ?_ _ _) | (with_reducible refine ex_old ?_ _) | (with_reducible refine cell_same _ ?_) | (with_reducible refine cell_off ?_ (by decide) _) | (with_reducible refine cell_blk ?_ (by first | exact Nat.ne_of_lt (by assumption) | exact (Nat.ne_of_lt (by assumption)).symm | exact Nat.ne_of_lt (Nat.lt_succ_self _) | exact (Nat.ne_of_lt (Nat.lt_succ_self _)).symm | omega) _)))
    · (repeat (first | (with_reducible assumption) | (with_reducible exact cell_new0 (by first | rfl | (simp; done)) ..) | (with_reducible exact cell_new1 (by first | rfl | (simp; done)) ..) | (with_reducible exact cell_new2 (by first | rfl | (simp; done)) ..) | (with_reducible exact cell_nex0 (by first | rfl | (simp; done)) ..) | (with_reducible exact cell_nex1 (by first | rfl | (simp; done)) ..) | (with_reducible exact cell_nex2 (by first | rfl | (simp; done)) ..) | (with_reducible refine cell_old ?_ _) | (with_reducible exact ⟨_, by assumption⟩) | (with_reducible refine ex_set ?_ _ _) | (with_reducible refine ex_old ?_ _) | (with_reducible refine cell_same _ ?_) | (with_reducible refine cell_off ?_ (by decide) _) | (with_reducible refine cell_blk ?_ (by first | exact Nat.ne_of_lt (by assumption) | exact (Nat.ne_of_lt (by assumption)).symm | exact Nat.ne_of_lt (Nat.lt_succ_self _) | exact (Nat.ne_of_lt (Nat.lt_succ_self _)).symm | omega) _)))
    · (repeat (first | (with_reducible assumption) | (with_reducible exact cell_new0 (by first | rfl | (simp; done)) ..) | (with_reducible exact cell_new1 (by first | rfl | (simp; done)) ..) | (with_reducible exact cell_new2 (by first | rfl | (simp; done)) ..) | (with_reducible exact cell_nex0 (by first | rfl | (simp; done)) ..) | (with_reducible exact cell_nex1 (by first | rfl | (simp; done)) ..) | (with_reducible exact cell_nex2 (by first | rfl | (simp; done)) ..) | (with_reducible refine cell_old ?_ _) | (with_reducible exact ⟨_, by assumption⟩) | (with_reducible refine ex_set ?_ _ _) | (with_reducible refine ex_old ?_ _) | (with_reducible refine cell_same _ ?_) | (with_reducible refine cell_off ?_ (by decide) _) | (with_reducible refine cell_blk ?_ (by first | exact Nat.ne_of_lt (by assumption) | exact (Nat.ne_of_lt (by assumption)).symm | exact Nat.ne_of_lt (Nat.lt_succ_self _) | exact (Nat.ne_of_lt (Nat.lt_succ_self _)).symm | omega) _)))
    · (repeat (first | (with_reducible assumption) | (with_reducible exact cell_new0 (by first | rfl | (simp; done)) ..) | (with_reducible exact cell_new1 (by first | rfl | (simp; done)) ..) | (with_reducible exact cell_new2 (by first | rfl | (simp; done)) ..) | (with_reducible exact cell_nex0 (by first | rfl | (simp; done)) ..) | (with_reducible exact cell_nex1 (by first | rfl | (simp; done)) ..) | (with_reducible exact cell_nex2 (by first | rfl | (simp; done)) ..) | (with_reducible refine cell_old ?_ _) | (with_reducible exact ⟨_, by assumption⟩) | (with_reducible refine ex_set ?_ _ _) | (with_reducible refine ex_old ?_ _) | (with_reducible refine cell_same _ ?_) | (with_reducible refine cell_off ?_ (by decide) _) | (with_reducible refine cell_blk ?_ (by first | exact Nat.ne_of_lt (by assumption) | exact (Nat.ne_of_lt (by assumption)).symm | exact Nat.ne_of_lt (Nat.lt_succ_self _) | exact (Nat.ne_of_lt (Nat.lt_succ_self _)).symm | omega) _)))
    · (repeat (with_reducible (first | exact hoxB | exact hoyB | refine own_al ?_ _ | refine own_set_ne ?_ (by omega) _)))
    · (repeat (with_reducible (first | exact hoxB | exact hoyB | refine own_al ?_ _ | refine own_set_ne ?_ (by omega) _)))
    · omega
    · omega
    · omega

end Go.Proofs.YtnokabglkmiidaaDoor
