/-
  Contract of numeral/numeralref05: Dyadic. (Printed by wip/gen/dyadic5.py.)
-/

import Derived.Test.YtgdhleiokfaeoaaGreatDoorQRdG
namespace Go.Proofs.YtgdhleiokfaeoaaGreatDoor

open Go.RowKit Go.Lb

attribute [local go_sem] Go.World.cell?_alloc_some

theorem form_yes {e f : Int} (hf : formE e f = 0) : formB e f = true := by
  unfold formE at hf
  cases hh : formB e f
  · rw [if_neg (by rw [hh]; decide)] at hf; exact absurd hf (by decide)
  · rfl

theorem form_not {e f : Int} (hf : formE e f = 5) : formB e f = false := by
  unfold formE at hf
  cases hh : formB e f
  · rfl
  · rw [if_pos hh] at hf; exact absurd hf (by decide)

set_option maxRecDepth 100000 in
set_option maxHeartbeats 2000000 in
theorem nbDyadic_form (ao : Option Addr) (n c m : Nat) (e f x : Int) (s neg : Bool) (xs : List Nat) (w : World) (h : Sl w ao n c xs) (hf : formE e f = 5) :
    Calls Tryz.prog 24 #[.agg #[.int .i64 e, .int .i64 f], .agg #[.bool s, .slice ao n c, .int .i64 x], .bool neg, .int .u8 (m : Int)] w fun en w' => en = .returned (.tuple #[.int .u64 0, .int .u8 0, .int .i64 5]) ∧ Below w.heap.size w w' := by
  obtain ⟨W2, hW2⟩ : ∃ W2 : World, W2 = (w.alloc (.cells #[.int .i64 e, .int .i64 f] 23)).alloc (.cells #[.bool s, .slice ao n c, .int .i64 x] 46) := ⟨_, rfl⟩
  have hb2 : Below w.heap.size w W2 := hW2 ▸ more (more (Below.refl _ _) _) _
  have c0 : W2.cell? ⟨w.heap.size, 0, none⟩ = some (.int .i64 e) := by rw [hW2]; simp [World.cell?_alloc_some]
  have c1 : W2.cell? ⟨w.heap.size, 1, none⟩ = some (.int .i64 f) := by rw [hW2]; simp [World.cell?_alloc_some]
  have D2 : Box3 W2 (w.heap.size + 1) (.bool s) (.slice ao n c) (.int .i64 x) := by
    have := box3_new (w.alloc (.cells #[.int .i64 e, .int .i64 f] 23)) (.bool s) (.slice ao n c) (.int .i64 x) 46
    rw [World.size_alloc] at this
    exact hW2 ▸ this
  have hFm := nbForm_any e f W2
  rw [form_not hf] at hFm
  have hTw : ∀ W, Below w.heap.size w W → Calls Tryz.prog 66 #[.agg #[.bool s, .slice ao n c, .int .i64 x]] W fun e w' => e = .returned (.bool (twoB s xs x)) ∧ Below W.heap.size W w' := fun W hW => nbTwo_any s ao n c x xs W (h.below hW)
  generalize twoB s xs x = tw at *
  clear hf h
  go_enter Tryz.func24, Tryz.ntmps24
  go_wp2_with fail
  rw [← hW2]
  clear hW2
  refine hFm.mono ?_
  rintro en w3 ⟨rfl, hb3⟩
  have V3 := next hb2 hb3
  have ⟨d0, d1, d2, _, _, _⟩ := D2.stay hb3
  go_wp2_with fail
  refine (hTw w3 V3).mono ?_
  rintro en w4 ⟨rfl, hb4⟩
  go_wp2
  go_ret3
  exact ⟨rfl, next V3 hb4⟩

set_option maxRecDepth 100000 in
set_option maxHeartbeats 2000000 in
theorem nbDyadic_two (ao : Option Addr) (n c m : Nat) (e f x : Int) (s neg : Bool) (xs : List Nat) (w : World) (h : Sl w ao n c xs) (hf : formE e f = 0) (hr : twoB s xs x = false) :
    Calls Tryz.prog 24 #[.agg #[.int .i64 e, .int .i64 f], .agg #[.bool s, .slice ao n c, .int .i64 x], .bool neg, .int .u8 (m : Int)] w fun en w' => en = .returned (.tuple #[.int .u64 0, .int .u8 0, .int .i64 40]) ∧ Below w.heap.size w w' := by
  obtain ⟨W2, hW2⟩ : ∃ W2 : World, W2 = (w.alloc (.cells #[.int .i64 e, .int .i64 f] 23)).alloc (.cells #[.bool s, .slice ao n c, .int .i64 x] 46) := ⟨_, rfl⟩
  have hb2 : Below w.heap.size w W2 := hW2 ▸ more (more (Below.refl _ _) _) _
  have c0 : W2.cell? ⟨w.heap.size, 0, none⟩ = some (.int .i64 e) := by rw [hW2]; simp [World.cell?_alloc_some]
  have c1 : W2.cell? ⟨w.heap.size, 1, none⟩ = some (.int .i64 f) := by rw [hW2]; simp [World.cell?_alloc_some]
  have D2 : Box3 W2 (w.heap.size + 1) (.bool s) (.slice ao n c) (.int .i64 x) := by
    have := box3_new (w.alloc (.cells #[.int .i64 e, .int .i64 f] 23)) (.bool s) (.slice ao n c) (.int .i64 x) 46
    rw [World.size_alloc] at this
    exact hW2 ▸ this
  have hFm := nbForm_any e f W2
  rw [form_yes hf] at hFm
  have hTw : ∀ W, Below w.heap.size w W → Calls Tryz.prog 66 #[.agg #[.bool s, .slice ao n c, .int .i64 x]] W fun e w' => e = .returned (.bool (twoB s xs x)) ∧ Below W.heap.size W w' := fun W hW => nbTwo_any s ao n c x xs W (h.below hW)
  rw [hr] at hTw
  clear hf h hr
  go_enter Tryz.func24, Tryz.ntmps24
  go_wp2_with fail
  rw [← hW2]
  clear hW2
  refine hFm.mono ?_
  rintro en w3 ⟨rfl, hb3⟩
  have V3 := next hb2 hb3
  have ⟨d0, d1, d2, _, _, _⟩ := D2.stay hb3
  go_wp2_with fail
  refine (hTw w3 V3).mono ?_
  rintro en w4 ⟨rfl, hb4⟩
  go_wp2
  go_ret3
  exact ⟨rfl, next V3 hb4⟩

set_option maxRecDepth 100000 in
set_option maxHeartbeats 2000000 in
theorem nbDyadic_mode (ao : Option Addr) (n c m : Nat) (e f x : Int) (s neg : Bool) (xs : List Nat) (w : World) (h : Sl w ao n c xs) (hf : formE e f = 0) (hr : twoB s xs x = true) (hm : 4 < m) :
    Calls Tryz.prog 24 #[.agg #[.int .i64 e, .int .i64 f], .agg #[.bool s, .slice ao n c, .int .i64 x], .bool neg, .int .u8 (m : Int)] w fun en w' => en = .returned (.tuple #[.int .u64 0, .int .u8 0, .int .i64 7]) ∧ Below w.heap.size w w' := by
  obtain ⟨W2, hW2⟩ : ∃ W2 : World, W2 = (w.alloc (.cells #[.int .i64 e, .int .i64 f] 23)).alloc (.cells #[.bool s, .slice ao n c, .int .i64 x] 46) := ⟨_, rfl⟩
  have hb2 : Below w.heap.size w W2 := hW2 ▸ more (more (Below.refl _ _) _) _
  have c0 : W2.cell? ⟨w.heap.size, 0, none⟩ = some (.int .i64 e) := by rw [hW2]; simp [World.cell?_alloc_some]
  have c1 : W2.cell? ⟨w.heap.size, 1, none⟩ = some (.int .i64 f) := by rw [hW2]; simp [World.cell?_alloc_some]
  have D2 : Box3 W2 (w.heap.size + 1) (.bool s) (.slice ao n c) (.int .i64 x) := by
    have := box3_new (w.alloc (.cells #[.int .i64 e, .int .i64 f] 23)) (.bool s) (.slice ao n c) (.int .i64 x) 46
    rw [World.size_alloc] at this
    exact hW2 ▸ this
  have hFm := nbForm_any e f W2
  rw [form_yes hf] at hFm
  have hTw : ∀ W, Below w.heap.size w W → Calls Tryz.prog 66 #[.agg #[.bool s, .slice ao n c, .int .i64 x]] W fun e w' => e = .returned (.bool (twoB s xs x)) ∧ Below W.heap.size W w' := fun W hW => nbTwo_any s ao n c x xs W (h.below hW)
  rw [hr] at hTw
  have hm4 : (m : Int) > 4 := by omega
  clear hf h hr hm
  go_enter Tryz.func24, Tryz.ntmps24
  go_wp2_with fail
  rw [← hW2]
  clear hW2
  refine hFm.mono ?_
  rintro en w3 ⟨rfl, hb3⟩
  have V3 := next hb2 hb3
  have ⟨d0, d1, d2, _, _, _⟩ := D2.stay hb3
  go_wp2_with fail
  refine (hTw w3 V3).mono ?_
  rintro en w4 ⟨rfl, hb4⟩
  go_wp2
  go_ret3
  exact ⟨rfl, next V3 hb4⟩

/-- What the reference rounds. -/
def dyQ (s : Bool) (N : Nat) (k : Int) : Rat := if s = true then -(((N : Int) : Rat) * p2 k) else ((N : Int) : Rat) * p2 k

theorem dy_two {s : Bool} {xs : List Nat} {x : Int} (hok : Ok xs) (hr : twoB s xs x = true) : chk xs = 0 ∧ (s = true → val xs ≠ 0) := by
  have hd : dchk s xs x = 0 := of_decide_eq_true hr
  have hc : chk xs = 0 := by
    unfold dchk at hd
    by_cases h : chk xs = 0
    · exact h
    · rw [if_pos h] at hd; exact hd
  refine ⟨hc, fun hs h0 => ?_⟩
  unfold dchk at hd
  rw [if_neg (by simp [hc]), if_pos ((val_zero_iff hok hc).1 h0), if_pos (.inl hs)] at hd
  exact absurd hd (by decide)

theorem dyQ_parts (s : Bool) (N : Nat) (k : Int) (hs : s = true → N ≠ 0) : (dyQ s N k).num.natAbs = (((N : Int) : Rat) * p2 k).num.natAbs ∧ (dyQ s N k).den = (((N : Int) : Rat) * p2 k).den ∧ decide ((dyQ s N k).num < 0) = s := by
  have h0 : 0 ≤ ((N : Int) : Rat) * p2 k := mul_sign (Rat.intCast_nonneg.2 (Int.natCast_nonneg _)) k
  have h1 := Rat.num_nonneg.2 h0
  cases s
  · exact ⟨rfl, rfl, decide_eq_false (by show ¬ (((N : Int) : Rat) * p2 k).num < 0; omega)⟩
  · have hN := hs rfl
    have h2 : ((N : Int) : Rat) * p2 k ≠ 0 := fun h => by
      have hz : ((N : Int) : Rat) ≠ 0 := fun hh => hN (by have := Rat.intCast_eq_zero_iff.1 hh; omega)
      rcases Rat.mul_eq_zero.1 h with h3 | h3
      · exact hz h3
      · exact p2_ne k h3
    have h3 : (((N : Int) : Rat) * p2 k).num ≠ 0 := fun h => h2 (Rat.num_eq_zero.1 h)
    unfold dyQ
    rw [if_pos rfl, Rat.neg_num, Rat.neg_den, Int.natAbs_neg]
    exact ⟨rfl, rfl, decide_eq_true (by omega)⟩

theorem dy_same {E F N : Nat} (h2 : 2 ≤ E) (h11 : E ≤ 11) (h1 : 1 ≤ F) (h52 : F ≤ 52) (x : Int) (s neg : Bool) (m : Nat) :
    sgBits E F (((N : Int) : Rat) * p2 (nearY x (blN N))).num.natAbs (((N : Int) : Rat) * p2 (nearY x (blN N))).den s neg m = sgBits E F (dyN N x) (dyD N x) s neg m ∧ sgFlags E F (((N : Int) : Rat) * p2 (nearY x (blN N))).num.natAbs (((N : Int) : Rat) * p2 (nearY x (blN N))).den s m = sgFlags E F (dyN N x) (dyD N x) s m := by
  have hc := mul_cross ((N : Int) : Rat) (nearY x (blN N))
  rw [Rat.num_intCast, Rat.den_intCast, Int.natAbs_natCast] at hc
  obtain ⟨a1, a2⟩ := sgs_same (E := E) (F := F) (Rat.den_nz _) (Nat.ne_of_gt (scD_pos (D := 1) (by decide) (nearY x (blN N)))) hc s neg m
  have hb1 : blN 1 = 1 := by decide +kernel
  obtain ⟨b1, b2⟩ := sg_near (t := 2) (N := N) (D := 1) (b := blN N) (by decide) h2 h11 h1 h52 (by decide) (by omega) (near_same x (blN N)) s neg m
  exact ⟨a1.trans b1, a2.trans b2⟩

set_option maxRecDepth 100000 in
set_option maxHeartbeats 8000000 in
theorem nbDyadic_ok (ao : Option Addr) (n c E F m : Nat) (x : Int) (s neg : Bool) (xs : List Nat) (w : World) (h : Sl w ao n c xs) (hT : Tab w) (hm : m < 5) (l1 : n ≤ 400) (hE2 : 2 ≤ E) (hE11 : E ≤ 11) (hF1 : 1 ≤ F) (hF52 : F ≤ 52) (hf : formE (E : Int) (F : Int) = 0) (hr : twoB s xs x = true) :
    Calls Tryz.prog 24 #[.agg #[.int .i64 (E : Int), .int .i64 (F : Int)], .agg #[.bool s, .slice ao n c, .int .i64 x], .bool neg, .int .u8 (m : Int)] w fun e w' => e = .returned (.tuple #[.int .u64 (sgBits E F (dyN (val xs) x) (dyD (val xs) x) s neg m : Int), .int .u8 (sgFlags E F (dyN (val xs) x) (dyD (val xs) x) s m : Int), .int .i64 0]) ∧ Below w.heap.size w w' := by
  obtain ⟨W2, hW2⟩ : ∃ W2 : World, W2 = (w.alloc (.cells #[.int .i64 (E : Int), .int .i64 (F : Int)] 23)).alloc (.cells #[.bool s, .slice ao n c, .int .i64 x] 46) := ⟨_, rfl⟩
  have hb2 : Below w.heap.size w W2 := hW2 ▸ more (more (Below.refl _ _) _) _
  have c0 : W2.cell? ⟨w.heap.size, 0, none⟩ = some (.int .i64 (E : Int)) := by rw [hW2]; simp [World.cell?_alloc_some]
  have c1 : W2.cell? ⟨w.heap.size, 1, none⟩ = some (.int .i64 (F : Int)) := by rw [hW2]; simp [World.cell?_alloc_some]
  have D2 : Box3 W2 (w.heap.size + 1) (.bool s) (.slice ao n c) (.int .i64 x) := by
    have := box3_new (w.alloc (.cells #[.int .i64 (E : Int), .int .i64 (F : Int)] 23)) (.bool s) (.slice ao n c) (.int .i64 x) 46
    rw [World.size_alloc] at this
    exact hW2 ▸ this
  have hFm := nbForm_any (E : Int) (F : Int) W2
  rw [form_yes hf] at hFm
  have hTw : ∀ W, Below w.heap.size w W → Calls Tryz.prog 66 #[.agg #[.bool s, .slice ao n c, .int .i64 x]] W fun e w' => e = .returned (.bool true) ∧ Below W.heap.size W w' := fun W hW => by
    have := nbTwo_any s ao n c x xs W (h.below hW)
    rwa [hr] at this
  obtain ⟨hc, hs⟩ := dy_two h.ok hr
  have fx := fine_of_chk h.ok hc
  have hlN : ln (val xs) ≤ 400 := Nat.le_trans (ln_le (val_lt h.ok)) (by rw [h.len]; exact l1)
  have hI : ∀ W, Below w.heap.size w W → Calls Tryz.prog 67 #[.agg #[.slice ao n c]] W (MkZ 43 (val xs : Int) W) := fun W hW => (rf2Int_any ao n c xs W (h.below hW) fx (by omega)).mono fun _ _ h => h.z (nonneg_dec (by omega)).symm (by omega)
  have hm4 : ¬ (m : Int) > 4 := by omega
  generalize val xs = N at *
  have m1 := bl_le N
  obtain ⟨nb, hnb⟩ : ∃ nb, nb = blN N := ⟨_, rfl⟩
  obtain ⟨nz, hnz⟩ : ∃ nz, nz = nearY x (blN N) := ⟨_, rfl⟩
  have hz1 : -14300 ≤ nz ∧ nz ≤ 14300 := by rw [hnz]; unfold nearY; omega
  obtain ⟨t1, t2⟩ := dy_same (N := N) hE2 hE11 hF1 hF52 x s neg m
  rw [← hnz] at t1 t2
  obtain ⟨q1, q2, q3⟩ := dyQ_parts s N nz hs
  obtain ⟨ml1, ml2⟩ := mul_len ((N : Int) : Rat) nz
  rw [Rat.num_intCast, Int.natAbs_natCast] at ml1
  rw [Rat.den_intCast, ln_one] at ml2
  have hNr := fun W => nbNear_any x (nb : Int) nb W rfl (by omega)
  rw [hnb, ← hnz, ← hnb] at hNr
  have hB1 : ∀ W BB q, Iz 43 W BB q (N : Int) → Calls Tryz.prog 72 #[.pointer (some ⟨q, 0, none⟩)] W fun e w' => e = .returned (.int .i64 (nb : Int)) ∧ W = w' := fun W BB q hi => by
    have := nbBitLenZ_any q BB (N : Int) W hi (by rw [Int.natAbs_natCast]; omega)
    rw [Int.natAbs_natCast] at this
    rw [hnb]
    exact this
  have hRa : ∀ W B b, Below w.heap.size w W → Rq 43 W B b (dyQ s N nz) → Calls Tryz.prog 43 #[.agg #[.int .i64 (E : Int), .int .i64 (F : Int)], .pointer (some ⟨b, 0, none⟩), .bool neg, .int .u8 (m : Int)] W fun en w' => en = .returned (.tuple #[.int .u64 (sgBits E F (dyN N x) (dyD N x) s neg m : Int), .int .u8 (sgFlags E F (dyN N x) (dyD N x) s m : Int)]) ∧ Below W.heap.size W w' := fun W B b hW hq => by
    have := nbRat_any B b E F m _ neg W hq hE2 hE11 hF1 hF52 hm (by rw [q1]; omega) (by rw [q2]; omega) (hT.below hW)
    rwa [q1, q2, q3, t1, t2] at this
  obtain ⟨p4, p5⟩ := p2_parts nz
  have k1 : ln (p2 nz).num.natAbs ≤ 67108864 := by rw [p4, Int.natAbs_natCast]; have := ln_p2 nz.toNat; omega
  have k2 : ln (p2 nz).den ≤ 67108864 := by rw [p5]; have := ln_p2 (-nz).toNat; omega
  have hP : ∀ W, Calls Tryz.prog 70 #[.int .i64 nz] W (MkQ 43 (p2 nz) W) := fun W => nbPower_any nz W (by omega) (by omega)
  have HX : Hid ((s = true → dyQ s N nz = -(((N : Int) : Rat) * p2 nz)) ∧ (s = false → dyQ s N nz = ((N : Int) : Rat) * p2 nz)) := Lib.hid ⟨fun hs => by unfold dyQ; rw [if_pos hs], fun hs => by unfold dyQ; rw [if_neg (by rw [hs]; decide)]⟩
  have hXl : Hid (ln (((N : Int) : Rat) * p2 nz).num.natAbs ≤ 4294967296 ∧ ln (((N : Int) : Rat) * p2 nz).den ≤ 4294967296) := Lib.hid ⟨by omega, by omega⟩
  have HTb := Lib.hid hT
  generalize sgBits E F (dyN N x) (dyD N x) s neg m = bb at *
  generalize sgFlags E F (dyN N x) (dyD N x) s m = gg at *
  clear hf hr h l1 hnz hnb m1 hz1 t1 t2 q1 q2 q3 ml1 ml2 hs fx hc p4 p5 hT hE2 hE11 hF1 hF52 hm
  go_enter Tryz.func24, Tryz.ntmps24
  go_wp2_with fail
  rw [← hW2]
  clear hW2
  refine hFm.mono ?_
  rintro en w3 ⟨rfl, hb3⟩
  have V3 := next hb2 hb3
  have D3 := D2.stay hb3
  have e0 := cellStay c0 hb3
  have e1 := cellStay c1 hb3
  have ⟨d0, d1, d2, _, _, _⟩ := D3
  clear c0 c1 D2 hFm
  go_wp2_with fail
  refine (hTw w3 V3).mono ?_
  rintro en w4 ⟨rfl, hb4⟩
  have V4 := next V3 hb4
  have D4 := D3.stay hb4
  have f0 := cellStay e0 hb4
  have f1 := cellStay e1 hb4
  clear e0 e1 d0 d1 d2 D3 hTw hb3 hb4 hb2
  have ⟨d0, d1, d2, _, _, _⟩ := D4
  go_wp2_with fail
  refine (hI w4 V4).mono ?_
  rintro en w5 ⟨z5, rfl, I5, hb5⟩
  have V5 := next V4 hb5
  have D5 := D4.stay hb5
  have g0 := cellStay f0 hb5
  have g1 := cellStay f1 hb5
  have hz5 : z5 < w5.heap.size := I5.lt
  have x5 := D5.c2
  clear d0 d1 d2 D4 f0 f1 hI hb5 V4
  have hSI : ∀ (W : World) (z : Nat), Res3 W z → w5.heap.size ≤ z → Below w5.heap.size w5 W → Calls Tryz.prog 69 #[.pointer (some ⟨z, 0, none⟩), .pointer (some ⟨z5, 0, none⟩)] W (StQ 43 z w5.heap.size ((N : Int) : Rat) W) := fun W z hr hz hW => nbRSetInt_any z w5.heap.size _ z5 (N : Int) W hr hz (I5.stay hW) (by rw [Int.natAbs_natCast]; omega)
  have hBl : ∀ W, Below w5.heap.size w5 W → Calls Tryz.prog 72 #[.pointer (some ⟨z5, 0, none⟩)] W fun e w' => e = .returned (.int .i64 (nb : Int)) ∧ W = w' := fun W hW => hB1 W _ z5 (I5.stay hW)
  have hMu : ∀ (W : World) (z r B' t : Nat), Res3 W z → w5.heap.size ≤ z → Rq 43 W w5.heap.size r ((N : Int) : Rat) → r ≠ z → Rq 43 W B' t (p2 nz) → t ≠ z → Below w5.heap.size w5 W → Calls Tryz.prog 68 #[.pointer (some ⟨z, 0, none⟩), .pointer (some ⟨r, 0, none⟩), .pointer (some ⟨t, 0, none⟩)] W (StQ 43 z w5.heap.size (((N : Int) : Rat) * p2 nz) W) := fun W z r B' t hr hz hR hrz hQ hne hW =>
    nbRMul_any z w5.heap.size w5.heap.size B' r t _ (p2 nz) W hr hz hR hQ hrz hne (by rw [Rat.num_intCast, Int.natAbs_natCast]; omega) (by rw [Rat.den_intCast]; decide) k1 k2 (HTb.out.below (next V5 hW))
  have kS : ∀ w' : World, Below w5.heap.size w5 w' → (w'.cell? ⟨w.heap.size + 1, 2, none⟩ = some (.int .i64 x) ∧ Below w5.heap.size w5 w') := fun w' hb => ⟨cellStay x5 hb, hb⟩
  clear k1 k2 hB1 hlN
  go_upto_region 10 with fail
  go_cut [14] from 33 (fun v wx => ∃ z, v = .pointer (some ⟨z, 0, none⟩) ∧ Rq 43 wx w5.heap.size z (((N : Int) : Rat) * p2 nz) ∧ Below w5.heap.size w5 wx)
  case first =>
    go_region_held3 (fun w' => w'.cell? ⟨w.heap.size + 1, 2, none⟩ = some (.int .i64 x) ∧ Below w5.heap.size w5 w')
      ((refine kS _ ?_; (repeat (with_reducible (first | exact VD | exact VC | exact VA | exact Below.refl _ _ | refine Below.drew ?_ | refine more ?_ _))); done))
      (first
        | (go_at_call 69; (first | ((with_reducible refine (hSI _ _ (res_new _ _ _ _ _).drew (Nat.le_refl _) (more (Below.refl _ _) _).drew).mono ?_); rintro en wA ⟨rfl, QA, hgA⟩; have VA : Below w5.heap.size w5 wA := ((more (Below.refl _ _) _).drew).grown hgA (by simp) (fun _ hj => Nat.le_of_eq (Option.some.inj hj))) | ((with_reducible refine (hSI _ _ ((res_new w5 _ _ _ _).stay (more (Below.refl _ _) _)).drew (Nat.le_refl _) (more (more (Below.refl _ _) _) _).drew).mono ?_); rintro en wA ⟨rfl, QA, hgA⟩; have VA : Below w5.heap.size w5 wA := ((more (more (Below.refl _ _) _) _).drew).grown hgA (by simp; omega) (fun _ hj => Nat.le_of_eq (Option.some.inj hj)); have X1 := res_other (by have := (res_new (w5.alloc (.cells #[.bool false, .slice none 0 0, .slice none 0 0] 103)) 103 (.bool false) (.slice none 0 0) (.slice none 0 0)).drew; simpa using this) hgA (by simp)) | ((with_reducible refine (hSI _ (w5.heap.size + 1) (by have := (res_new (w5.alloc (.cells #[.bool false, .slice none 0 0, .slice none 0 0] 103)) 103 (.bool false) (.slice none 0 0) (.slice none 0 0)).drew; simpa using this) (Nat.le_succ _) (more (more (Below.refl _ _) _) _).drew).mono ?_); rintro en wA ⟨rfl, QA, hgA⟩; have VA : Below w5.heap.size w5 wA := ((more (more (Below.refl _ _) _) _).drew).grown hgA (by simp; omega) (fun _ hj => by have := Option.some.inj hj; omega); have X1 := res_other (((res_new w5 103 (.bool false) (.slice none 0 0) (.slice none 0 0)).stay (more (Below.refl _ _) _)).drew) hgA (by simp))); have hlA := QA.lt; have hsA := VA.size)
        | (go_at_call 72; (with_reducible refine (hBl _ ?_).mono ?_); (first | exact VA | exact more VA _ | exact more (more VA _) _); rintro en wB ⟨rfl, rfl⟩)
        | (go_at_call 71; (with_reducible refine (hNr _).mono ?_); rintro en wB ⟨rfl, rfl⟩)
        | (go_at_call 70; (with_reducible refine (hP _).mono ?_); rintro en wC ⟨t, rfl, QT, hbC⟩; have hAC : Below wA.heap.size wA wC := (by first | exact hbC | exact next (more (Below.refl _ _) _) hbC | exact next (more (more (Below.refl _ _) _) _) hbC); have VC := next VA hAC; have QC := QA.stay hAC; have hsC := hAC.size; have hlT := QT.le; have hltT := QT.lt; (try have Z1 := X1.stay hAC; have lZ1 := Z1.lt; have mZ1 := X1.lt); (try have Z2 := (res_new wA 103 (.bool false) (.slice none 0 0) (.slice none 0 0)).stay hbC))
        | (go_at_call 68; (first | ((with_reducible refine (hMu _ _ _ _ _ Z1 (by omega) QC (by omega) QT (by omega) VC).mono ?_); rintro en wD ⟨rfl, QD, hgD⟩; have VD : Below w5.heap.size w5 wD := VC.grown hgD VC.size (fun _ hj => by have := Option.some.inj hj; omega)) | ((with_reducible refine (hMu _ _ _ _ _ Z2 (by omega) QC (by omega) QT (by simp at hlT; omega) VC).mono ?_); rintro en wD ⟨rfl, QD, hgD⟩; have VD : Below w5.heap.size w5 wD := VC.grown hgD VC.size (fun _ hj => by have := Option.some.inj hj; omega)) | ((with_reducible refine (hMu _ _ _ _ _ (res_new wC _ _ _ _) (by omega) (QC.stay (more (Below.refl _ _) _)) (by omega) (QT.stay (more (Below.refl _ _) _)) (by omega) (more VC _)).mono ?_); rintro en wD ⟨rfl, QD, hgD⟩; have VD : Below w5.heap.size w5 wD := (more VC _).grown hgD (more VC _).size (fun _ hj => by have := Option.some.inj hj; omega)))))
    all_goals go_wp2
    all_goals go_meet
    all_goals exact ⟨_, rfl, QD, VD⟩
  case rest =>
    obtain ⟨z, rfl, QD, VD⟩ := hcut
    have Vx := next V5 VD
    have Dx := D5.stay VD
    have s0 := cellStay g0 VD
    have s1 := cellStay g1 VD
    have b0 := Dx.c0
    have hzl := QD.lt
    have hzb := QD.le
    have lD5 := D5.lt
    have hz1 : w.heap.size ≠ z := by omega
    clear kS hSI hBl hMu hP hNr D5 g0 g1
    cases s
    · have hX := HX.out.2 rfl
      clear HX
      go_wp2_with fail
      rw [← hX] at QD
      refine (hRa _ _ _ Vx QD).mono ?_
      rintro en w9 ⟨rfl, hb9⟩
      go_wp2
      go_ret3
      exact ⟨rfl, next Vx hb9⟩
    · have hX := HX.out.1 rfl
      clear HX
      go_wp2_with fail
      refine (nbRNeg_any z w5.heap.size _ z _ wc QD.res hzb QD hXl.out.1 hXl.out.2).mono ?_
      rintro en w8 ⟨rfl, Q8, hg8⟩
      have U8 := VD.grown hg8 VD.size (by intro k hk; cases hk; exact hzb)
      have W8 := next V5 U8
      have r0 := hg8.cell s0 (fun e => by injection e with e; exact hz1 e)
      have r1 := hg8.cell s1 (fun e => by injection e with e; exact hz1 e)
      rw [← hX] at Q8
      clear s0 s1 b0
      go_wp2_with fail
      refine (hRa _ _ _ W8 Q8).mono ?_
      rintro en w9 ⟨rfl, hb9⟩
      go_wp2
      go_ret3
      exact ⟨rfl, next W8 hb9⟩

theorem nbDyadic_any (ao : Option Addr) (n c m : Nat) (e f x : Int) (s neg : Bool) (xs : List Nat) (w : World) (h : Sl w ao n c xs) (hT : Tab w) (l1 : n ≤ 400) :
    Calls Tryz.prog 24 #[.agg #[.int .i64 e, .int .i64 f], .agg #[.bool s, .slice ao n c, .int .i64 x], .bool neg, .int .u8 (m : Int)] w fun en w' => en = .returned (.tuple #[.int .u64 (dyBits e f s xs x neg m : Int), .int .u8 (dyFlags e f s xs x m : Int), .int .i64 (dyErr e f s xs x m)]) ∧ Below w.heap.size w w' := by
  unfold dyBits dyFlags
  by_cases hf : formE e f = 0
  · cases hr : twoB s xs x
    · have hE : dyErr e f s xs x m = 40 := by unfold dyErr; rw [if_neg (by simp [hf]), if_pos hr]
      rw [hE]
      exact nbDyadic_two ao n c m e f x s neg xs w h hf hr
    · by_cases hm : 4 < m
      · have hE : dyErr e f s xs x m = 7 := by unfold dyErr; rw [if_neg (by simp [hf]), if_neg (by simp [hr]), if_pos hm]
        rw [hE]
        exact nbDyadic_mode ao n c m e f x s neg xs w h hf hr hm
      · have hE : dyErr e f s xs x m = 0 := by unfold dyErr; rw [if_neg (by simp [hf]), if_neg (by simp [hr]), if_neg hm]
        obtain ⟨e1, e2, f1, f2⟩ := formE_ok hf
        rw [hE, if_pos rfl, if_pos rfl]
        obtain ⟨E, rfl⟩ : ∃ E : Nat, e = (E : Int) := ⟨e.toNat, by omega⟩
        obtain ⟨F, rfl⟩ : ∃ F : Nat, f = (F : Int) := ⟨f.toNat, by omega⟩
        simp only [Int.toNat_natCast]
        exact nbDyadic_ok ao n c E F m x s neg xs w h hT (by omega) l1 (by omega) (by omega) (by omega) (by omega) hf hr
  · have h5 : formE e f = 5 := by unfold formE at hf ⊢; split at hf <;> simp_all
    have hE : dyErr e f s xs x m = 5 := by unfold dyErr; rw [if_pos hf]
    rw [hE]
    exact nbDyadic_form ao n c m e f x s neg xs w h h5

end Go.Proofs.YtgdhleiokfaeoaaGreatDoor

