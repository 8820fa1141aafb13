/-
  Contracts of numeralbig's whole numbers, below nought too: Int64, Cmp, DivMod, Div.
-/
import Derived.Test.YtklibjdhlmdkpaaGreatDoorQbITurR
namespace Go.Proofs.YtklibjdhlmdkpaaGreatDoor

open Go.RowKit Go.Lb

attribute [local go_sem] Go.World.cell?_alloc_some

theorem neg_i64 {n : Nat} (h : n ≤ 9223372036854775808) : ∃ r, IntKind.i64.wrap (n : Int) = r ∧ IntKind.i64.wrap (-r) = -(n : Int) := by
  by_cases hn : n = 9223372036854775808
  · subst hn
    exact ⟨-9223372036854775808, by decide +kernel, by decide +kernel⟩
  · exact ⟨(n : Int), IntWalk.i64_in _ (by omega), IntWalk.i64_in _ (by omega)⟩

set_option maxHeartbeats 1600000 in
theorem nbInt64_any (base b : Nat) (z : Int) (w : World) (h : Iz 38 w base b z) (h1 : -9223372036854775808 ≤ z) (h2 : z ≤ 9223372036854775807) :
    Calls Tryz.prog 108 #[.pointer (some ⟨b, 0, none⟩)] w fun e w' => e = .returned (.int .i64 z) ∧ w = w' := by
  obtain ⟨ao, k, c, h⟩ := h
  have hs := h.fr.sl
  have hv := small_words (ok_limbs z.natAbs) (ln_small2 (by omega))
  rw [val_limbs'] at hv
  have hC := nbToUint_any ao k c (limbs z.natAbs) w hs
  rw [← hv] at hC
  obtain ⟨d0, d1, _, _, _, _, _⟩ := h
  clear hs hv
  by_cases hz : z < 0
  · rw [decide_eq_true hz] at d0
    obtain ⟨r, r1, r2⟩ := neg_i64 (n := z.natAbs) (by omega)
    have r3 : -(z.natAbs : Int) = z := by omega
    rw [r3] at r2
    generalize z.natAbs = n at *
    clear r3 hz h1 h2
    go_enter Tryz.func108, Tryz.ntmps108
    go_wp2_with (go_at_call 222; refine hC.mono ?_; rintro e w1 ⟨rfl, rfl⟩)
    go_ret
    exact ⟨rfl, rfl⟩
  · rw [decide_eq_false hz] at d0
    have r1 : IntKind.i64.wrap (z.natAbs : Int) = z := by rw [show (z.natAbs : Int) = z by omega]; exact IntWalk.i64_in _ (by omega)
    generalize z.natAbs = n at *
    clear hz h1 h2
    go_enter Tryz.func108, Tryz.ntmps108
    go_wp2_with (go_at_call 222; refine hC.mono ?_; rintro e w1 ⟨rfl, rfl⟩)
    go_ret
    exact ⟨rfl, rfl⟩

/-- How two whole numbers stand. -/
def cmpI (x y : Int) : Int := if x < y then -1 else if x = y then 0 else 1

theorem cmpI_same {x y : Int} (hx : 0 ≤ x) (hy : 0 ≤ y) : cmpN x.natAbs y.natAbs = cmpI x y := by
  unfold cmpN cmpI
  repeat' split
  all_goals omega

theorem cmpI_below {x y : Int} (hx : x < 0) (hy : y < 0) : -(cmpN x.natAbs y.natAbs) = cmpI x y := by
  unfold cmpN cmpI
  repeat' split
  all_goals omega

set_option maxRecDepth 100000 in
set_option maxHeartbeats 1600000 in
theorem nbCmpI_any (B1 B2 b1 b2 : Nat) (x y : Int) (w : World) (h1 : Iz 38 w B1 b1 x) (h2 : Iz 38 w B2 b2 y) :
    Calls Tryz.prog 105 #[.pointer (some ⟨b1, 0, none⟩), .pointer (some ⟨b2, 0, none⟩)] w fun e w' => e = .returned (.int .i64 (cmpI x y)) ∧ Below w.heap.size w w' := by
  by_cases hx : x < 0
  · by_cases hy : y < 0
    · have hE := cmpI_below hx hy
      have hr : cmpN x.natAbs y.natAbs = -1 ∨ cmpN x.natAbs y.natAbs = 0 ∨ cmpN x.natAbs y.natAbs = 1 := by unfold cmpN; (repeat' split) <;> omega
      obtain ⟨a1, n1, c1, h1⟩ := h1
      obtain ⟨a2, n2, c2, h2⟩ := h2
      have hC : ∀ W, Below w.heap.size w W → Calls Tryz.prog 220 #[.slice a1 n1 c1, .slice a2 n2 c2] W fun e w' => e = .returned (.int .i64 (cmpN x.natAbs y.natAbs)) ∧ Below W.heap.size W w' := fun W hW => by
        have := nbCmp_any a1 a2 n1 n2 c1 c2 (limbs x.natAbs) (limbs y.natAbs) W (h1.fr.sl.below hW) (h2.fr.sl.below hW) (fine_limbs _) (fine_limbs _)
        rwa [val_limbs', val_limbs'] at this
      obtain ⟨d0, d1, _, _, _, _, _⟩ := h1
      obtain ⟨e0, e1, _, _, _, _, _⟩ := h2
      rw [decide_eq_true hx] at d0
      rw [decide_eq_true hy] at e0
      have hw : IntKind.i64.wrap (-(cmpN x.natAbs y.natAbs)) = cmpI x y := by rw [← hE]; rcases hr with h | h | h <;> rw [h] <;> decide +kernel
      generalize cmpN x.natAbs y.natAbs = cc at *
      generalize cmpI x y = ci at *
      clear hE hr hx hy
      go_enter Tryz.func105, Tryz.ntmps105
      go_wp2
      go_quiet (fail)
      go_wp2
      go_region_with (go_at_call 220; refine (hC _ (by first | exact Below.refl _ _ | exact Below.drew (Below.refl _ _) | exact Below.drew (Below.drew (Below.refl _ _)) | exact drewn (Below.refl _ _) _ | exact (drewn (Below.refl _ _) _).drew)).mono ?_; rintro e w1 ⟨rfl, hb1⟩; replace hb1 : Below w.heap.size w w1 := (by first | exact hb1 | exact undrew hb1 | exact next (drewn (Below.refl _ _) _) hb1 | exact next (drewn (Below.refl _ _) _).drew hb1))
      all_goals go_wp2
      all_goals go_ret
      all_goals exact ⟨rfl, hb1⟩
    · have hE : cmpI x y = -1 := by unfold cmpI; rw [if_pos (by omega)]
      rw [hE]
      obtain ⟨a1, n1, c1, h1⟩ := h1
      obtain ⟨a2, n2, c2, h2⟩ := h2
      obtain ⟨d0, d1, _, _, _, _, _⟩ := h1
      obtain ⟨e0, e1, _, _, _, _, _⟩ := h2
      rw [decide_eq_true hx] at d0
      rw [decide_eq_false hy] at e0
      clear hE hx hy
      go_enter Tryz.func105, Tryz.ntmps105
      go_wp2
      go_quiet (fail)
      go_wp2
      go_ret
      exact ⟨rfl, drewn (Below.refl _ _) _⟩
  · by_cases hy : y < 0
    · have hE : cmpI x y = 1 := by unfold cmpI; rw [if_neg (by omega), if_neg (by omega)]
      rw [hE]
      obtain ⟨a1, n1, c1, h1⟩ := h1
      obtain ⟨a2, n2, c2, h2⟩ := h2
      obtain ⟨d0, d1, _, _, _, _, _⟩ := h1
      obtain ⟨e0, e1, _, _, _, _, _⟩ := h2
      rw [decide_eq_false hx] at d0
      rw [decide_eq_true hy] at e0
      clear hE hx hy
      go_enter Tryz.func105, Tryz.ntmps105
      go_wp2
      go_quiet (fail)
      go_wp2
      go_ret
      exact ⟨rfl, drewn (Below.refl _ _) _⟩
    · rw [← cmpI_same (by omega) (by omega)]
      have g1 : Iz 38 w B1 b1 ((x.natAbs : Nat) : Int) := by rw [show ((x.natAbs : Nat) : Int) = x by omega]; exact h1
      have g2 : Iz 38 w B2 b2 ((y.natAbs : Nat) : Int) := by rw [show ((y.natAbs : Nat) : Int) = y by omega]; exact h2
      exact nbCmpN_any B1 B2 b1 b2 _ _ w g1 g2

theorem tdiv_floor (x : Int) {y : Nat} (hy : y ≠ 0) : x / (y : Int) = if x.tmod y < 0 then x.tdiv y - 1 else x.tdiv y := by
  have e := Int.mul_tdiv_add_tmod x y
  have hp : (0 : Int) < y := by omega
  have hl := Int.tmod_lt_of_pos x hp
  by_cases h : x.tmod y < 0
  · rw [if_pos h]
    have hg : -(y : Int) < x.tmod y := by
      have := Int.tmod_lt_of_pos (-x) hp
      rw [Int.neg_tmod] at this
      omega
    refine ((Int.ediv_emod_unique (q := x.tdiv y - 1) (r := x.tmod y + y) hp).2 ⟨?_, by omega, by omega⟩).1
    rw [Int.mul_sub, Int.mul_one]
    omega
  · rw [if_neg h]
    exact ((Int.ediv_emod_unique (q := x.tdiv y) (r := x.tmod y) hp).2 ⟨by omega, by omega, hl⟩).1

theorem fr_setIn {e : TypeId} {w : World} {base b n c : Nat} {ao : Option Addr} {xs : List Nat} {s : Bool} {v : Value} (hf : Fr e w base ao n c xs) (hb : b < base) : Fr e (setIn w b s v) base ao n c xs := fr_grown hf (setIn_grown w b s v) hb

/-- What Div answers: the quotient, rounded down; what is not theirs stays. -/
def DvZ (e : TypeId) (b base : Nat) (z : Int) (w w' : World) : Prop := Iz e w' base b z ∧ ∀ B, B ≤ w.heap.size → B ≤ b → Below B w w'

/-- Behind QuoRem. -/
theorem qr_fin {w w1 w2 : World} {b bm base : Nat} {Q R : Int} {en : Ending} (hz : Zc w b) (hr : Zc w bm) (ne : bm ≠ b) (hb1 : base ≤ w.heap.size) (hb2 : base ≤ b) (hb3 : base ≤ bm) (hw1 : Below w.heap.size w w1) (hS : QrZ 38 b bm Q R w1 en w2) :
    en = .returned (.tuple #[.pointer (some ⟨b, 0, none⟩), .pointer (some ⟨bm, 0, none⟩)]) ∧ Iz 38 w2 base b Q ∧ (∀ B, B ≤ w.heap.size → B ≤ b → B ≤ bm → Below B w w2) ∧
      (∃ ar kr cr, In 38 w2 0 bm (decide (R < 0)) ar kr cr R.natAbs ∧ blkOf ar ≠ some b) ∧ ∀ {g : Option Addr} {n c : Nat} {xs : List Nat}, Fr 38 w1 w.heap.size g n c xs → Fr 38 w2 w.heap.size g n c xs := by
  have hs1 := hw1.size
  have hbl := hz.lt
  have hml := hr.lt
  obtain ⟨he, iq, _⟩ := hS.in_ (hz.stay hw1) (hr.stay hw1) ne (Nat.le_trans hb1 hs1) hb2 hb3
  have hB : ∀ B, B ≤ w.heap.size → B ≤ b → B ≤ bm → Below B w w2 := fun B h1 h2 h3 => hS.below (hw1.mono h1) (Nat.le_trans h1 hs1) h2 h3
  obtain ⟨aq, kq, cq, ar, kr, cr, wq, _, hbq, fq, fr, rfl⟩ := hS
  have Zm := (hr.stay hw1).stay hbq
  have ir := setIn_in Zm (decide (R < 0)) (fr.mono (Nat.zero_le _)) (fr_ne fr (by omega)) (Nat.zero_le _)
  exact ⟨he, iq, hB, ⟨ar, kr, cr, ir.other (setIn_grown _ b _ _) ne (fr_ne fr (by omega)), fr_ne fr (by omega)⟩, fun hf => fr_setIn (fr_setIn (hf.below hbq) hml) hbl⟩

set_option maxRecDepth 100000 in
set_option maxHeartbeats 4000000 in
theorem nbDivModI_any (b bm base B1 B2 b1 b2 : Nat) (x : Int) (y : Nat) (w : World) (hz : Zc w b) (hr : Zc w bm) (ne : bm ≠ b) (hb1 : base ≤ w.heap.size) (hb2 : base ≤ b) (hb3 : base ≤ bm) (h1 : Iz 38 w B1 b1 x) (h2 : Iz 38 w B2 b2 (y : Int)) (hy : y ≠ 0) (l1 : ln x.natAbs ≤ 4096) (l2 : ln y ≤ 4096) :
    Calls Tryz.prog 278 #[.pointer (some ⟨b, 0, none⟩), .pointer (some ⟨b1, 0, none⟩), .pointer (some ⟨b2, 0, none⟩), .pointer (some ⟨bm, 0, none⟩)] w fun en w' => en = .returned (.tuple #[.pointer (some ⟨b, 0, none⟩), .pointer (some ⟨bm, 0, none⟩)]) ∧ Iz 38 w' base b (x / (y : Int)) ∧ ∀ B, B ≤ w.heap.size → B ≤ b → B ≤ bm → Below B w w' := by
  have hQ : ∀ W, Below w.heap.size w W → Calls Tryz.prog 321 #[.pointer (some ⟨b, 0, none⟩), .pointer (some ⟨b1, 0, none⟩), .pointer (some ⟨b2, 0, none⟩), .pointer (some ⟨bm, 0, none⟩)] W (QrZ 38 b bm (x.tdiv y) (x.tmod y) W) := fun W hW =>
    nbQuoRem_any b bm B1 B2 b1 b2 x (y : Int) W (hz.stay hW) (hr.stay hW) ne (h1.stay hW) (h2.stay hW) (by omega) (by omega)
  have hF := tdiv_floor x hy
  have hq : (x.tdiv y).natAbs ≤ x.natAbs := by rw [Int.natAbs_tdiv]; exact Nat.div_le_self _ _
  have hrl : (x.tmod y).natAbs < y := by rw [Int.natAbs_tmod, Int.natAbs_natCast]; exact Nat.mod_lt _ (by omega)
  have lq : ln (x.tdiv y).natAbs ≤ 4096 := Nat.le_trans (ln_mono hq) l1
  have lr : ln (x.tmod y).natAbs ≤ ln y := ln_mono (by omega)
  rw [hF]
  obtain ⟨a2, n2, c2, h2⟩ := iz_nat h2
  have hn2 : n2 ≤ 4096 := by rw [h2.len]; exact l2
  have hn3 : ln (x.tmod y).natAbs ≤ n2 := by rw [h2.len]; exact lr
  clear l2 lr
  have hC : ∀ W, Below w.heap.size w W → Calls Tryz.prog 279 #[.slice a2 n2 c2] W (fun e w' => ∃ g, e = .returned (.slice (some ⟨g, 0, none⟩) n2 n2) ∧ Fr 38 w' W.heap.size (some ⟨g, 0, none⟩) n2 n2 (limbs y) ∧ Below W.heap.size W w') := fun W hW => by
    refine (nbCopied_any a2 n2 c2 (limbs y) W (h2.fr.sl.below hW) (by omega)).mono ?_
    rintro e w' ⟨g, rfl, ho, hb1⟩
    have := fr_copied ho h2.fr.sl (fine_limbs y)
    rw [val_limbs'] at this
    exact ⟨g, rfl, this, hb1⟩
  obtain ⟨e0, e1, _, _, _, _, _⟩ := h2
  have hbl := hz.lt
  have hml := hr.lt
  generalize x.tdiv y = Q at *
  generalize x.tmod y = R at *
  clear h1 hq hF l1
  by_cases hR : R < 0
  · rw [if_pos hR]
    go_enter Tryz.func278, Tryz.ntmps278
    go_wp2_with fail
    (with_reducible refine (hC w (Below.refl _ _)).mono ?_)
    rintro e w1 ⟨g, rfl, F1, hw1⟩
    go_wp2_with fail
    (with_reducible refine (hQ w1 hw1).mono ?_)
    rintro e w2 hS
    obtain ⟨rfl, I2, hB2, ⟨ar, kr, cr, M2, hnb⟩, hF2⟩ := qr_fin hz hr ne hb1 hb2 hb3 hw1 hS
    have F2 := hF2 F1
    have hs2 : w.heap.size ≤ w2.heap.size := (hB2 0 (Nat.zero_le _) (Nat.zero_le _) (Nat.zero_le _)).size
    have m0 := M2.c0
    rw [decide_eq_true hR] at m0
    have hN := nbNewZ_any 1 w2 (by decide)
    clear hS hF2 F1 hw1 hC hQ e0 e1
    go_wp2_with fail
    refine hN.mono ?_
    rintro e w3 ⟨t, rfl, I3, hb3'⟩
    have hs3 := hb3'.size
    have hSub := nbISub_any b w3.heap.size base w2.heap.size b t Q 1 w3 (I2.zc.stay hb3') (Nat.le_refl _) (I2.stay hb3') I3 (by omega) (by decide)
    go_wp2_with fail
    refine hSub.mono ?_
    rintro e w4 hS4
    have hB4 : ∀ B, B ≤ w.heap.size → B ≤ b → B ≤ bm → Below B w w4 := fun B q1 q2 q3 => hS4.below ((hB2 B q1 q2 q3).trans (hb3'.mono (by omega))) (by omega) q2
    obtain ⟨ao, k, c, wz, rfl, hbz, fz, hnz, rfl⟩ := hS4
    have Zb := (I2.zc.stay hb3').stay hbz
    have I4 := setIn_in Zb (decide (Q - 1 < 0)) (fz.mono (by omega : base ≤ w3.heap.size)) hnz hb2
    have M4 := ((M2.stay hb3').stay hbz).other (setIn_grown wz b (decide (Q - 1 < 0)) (.slice ao k c)) ne hnb
    have F4 := fr_setIn (s := decide (Q - 1 < 0)) (v := .slice ao k c) ((F2.below hb3').below hbz) hbl
    have hs4 : wz.heap.size ≤ (setIn wz b (decide (Q - 1 < 0)) (.slice ao k c)).heap.size := (setIn_grown wz b _ _).size
    have hsz := hbz.size
    have hne2 : blkOf ao ≠ some bm := fr_ne fz (by omega)
    clear hSub hN I3 hb3' hbz fz hnz Zb F2 M2 I2 hB2 m0
    generalize setIn wz b (decide (Q - 1 < 0)) (.slice ao k c) = w4 at *
    have m0 := M4.c0
    have m1 := M4.c1
    have hkr : kr ≤ n2 := by rw [M4.len]; exact hn3
    have hSw := nbSubW_any (some ⟨g, 0, none⟩) ar n2 kr n2 cr (limbs y) (limbs R.natAbs) w4 F4.sl M4.fr.sl (by omega) (by omega) (by rw [val_limbs', val_limbs']; omega)
    go_wp2_with fail
    refine hSw.mono ?_
    rintro e w5 ⟨au, ku, cu, rfl, f5, hb5⟩
    have hSt := nbSet_any bm false au ku cu _ _ w5 (M4.zc.stay hb5) f5
    go_wp2_with fail
    refine hSt.mono ?_
    rintro e w6 ⟨rfl, rfl⟩
    have I6 := (I4.stay hb5).other (setIn_grown w5 bm (nzB false (val (limbs y) - val (limbs R.natAbs))) (.slice au ku cu)) (Ne.symm ne) hne2
    have hB6 : ∀ B, B ≤ w.heap.size → B ≤ b → B ≤ bm → Below B w (setIn w5 bm (nzB false (val (limbs y) - val (limbs R.natAbs))) (.slice au ku cu)) := fun B q1 q2 q3 =>
      ((hB4 B q1 q2 q3).trans (hb5.mono (by omega))).grown (setIn_grown w5 bm _ _) (Nat.le_trans (Nat.le_trans q1 (by omega)) hb5.size) (fun j hj => by cases hj; exact q3)
    clear hSt hSw f5 I4 M4 F4 m0 m1
    go_wp2
    go_ret2
    exact ⟨rfl, ⟨_, _, _, I6⟩, hB6⟩
  · rw [if_neg hR]
    go_enter Tryz.func278, Tryz.ntmps278
    go_wp2_with fail
    (with_reducible refine (hC w (Below.refl _ _)).mono ?_)
    rintro e w1 ⟨g, rfl, F1, hw1⟩
    go_wp2_with fail
    (with_reducible refine (hQ w1 hw1).mono ?_)
    rintro e w2 hS
    obtain ⟨rfl, I2, hB2, ⟨ar, kr, cr, M2, hnb⟩, _⟩ := qr_fin hz hr ne hb1 hb2 hb3 hw1 hS
    have m0 := M2.c0
    rw [decide_eq_false (by omega)] at m0
    clear hS F1 hw1 hC hQ e0 e1
    go_wp2
    go_ret2
    exact ⟨rfl, I2, hB2⟩

set_option maxRecDepth 100000 in
set_option maxHeartbeats 1600000 in
theorem nbDivI_any (b base B1 B2 b1 b2 : Nat) (x : Int) (y : Nat) (w : World) (hz : Zc w b) (hb1 : base ≤ w.heap.size) (hb2 : base ≤ b) (h1 : Iz 38 w B1 b1 x) (h2 : Iz 38 w B2 b2 (y : Int)) (hy : y ≠ 0) (l1 : ln x.natAbs ≤ 4096) (l2 : ln y ≤ 4096) :
    Calls Tryz.prog 213 #[.pointer (some ⟨b, 0, none⟩), .pointer (some ⟨b1, 0, none⟩), .pointer (some ⟨b2, 0, none⟩)] w fun en w' => en = .returned (.pointer (some ⟨b, 0, none⟩)) ∧ DvZ 38 b base (x / (y : Int)) w w' := by
  have hbl := hz.lt
  have hW := more (Below.refl w.heap.size w) (.cells #[.bool false, .slice none 0 0] 151)
  have hQ := nbDivModI_any b w.heap.size base B1 B2 b1 b2 x y (w.alloc (.cells #[.bool false, .slice none 0 0] 151)) (hz.stay hW) (zc_new _ _ _ _) (by omega) (Nat.le_trans hb1 hW.size) hb2 hb1 (h1.stay hW) (h2.stay hW) hy l1 l2
  generalize x / (y : Int) = Q at *
  clear h1 h2 l1 l2 hy
  go_enter Tryz.func213, Tryz.ntmps213
  go_wp2_with fail
  refine hQ.mono ?_
  rintro e w2 ⟨rfl, I2, hB⟩
  go_wp2
  go_ret
  exact ⟨rfl, I2, fun B q1 q2 => (hW.mono q1).trans (hB B (Nat.le_trans q1 hW.size) q2 q1)⟩

end Go.Proofs.YtklibjdhlmdkpaaGreatDoor

