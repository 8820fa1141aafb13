/-
  The law numeraltop.TopReach answers true, whatever it is asked, in whatever memory; what it is asked reads behind the call as it read before. One condition: the table math/bits.deBruijn32tab reads as it was laid. (Printed by wip/gen/lawtr.py.)
-/
import Derived.Test.YtpmncmglmobjoaaGreatDoorQTRchR
import Derived.Test.YtpmncmglmobjoaaGreatDoorQTTopR
set_option maxHeartbeats 8000000
set_option maxRecDepth 100000
namespace Go.Proofs.YtpmncmglmobjoaaGreatDoor
open Go.RowKit Go.Lb
attribute [local go_sem] Go.World.cell?_alloc_some
theorem topReachLaw_any (e f : Int) (b m : Nat) (t : Bool) (a0 b0 : Option Addr) (n0 m0 c0 d0 : Nat) (xs ys : List Nat) (w : World) (hb : b < 18446744073709551616) (hm : m < 256) (hT : Tab w) (h0 : Sl w a0 n0 c0 xs) (h0' : Sl w b0 m0 d0 ys) :
 Calls Tryz.prog 3 #[.agg #[.int .i64 e, .int .i64 f], .int .u64 (b : Int), .agg #[.bool t, .slice a0 n0 c0, .slice b0 m0 d0], .int .u8 (m : Int)] w fun en w' => en = .returned (.bool true) ∧ Below w.heap.size w w' := by
 obtain ⟨W1, hW1⟩ : ∃ W1 : World, W1 = (w.alloc (.cells #[.int .i64 e, .int .i64 f] 23)).alloc (.cells #[.bool t, .slice a0 n0 c0, .slice b0 m0 d0] 29) := ⟨_, rfl⟩
 have V : Below w.heap.size w W1 := hW1 ▸ more (more (Below.refl _ _) _) _
 have F0 : Box2 W1 w.heap.size (.int .i64 e) (.int .i64 f) := hW1 ▸ (box2_new w _ _ _).alloc _
 have B7 : Box3 W1 (w.heap.size + 1) (.bool t) (.slice a0 n0 c0) (.slice b0 m0 d0) := by
  have := box3_new (w.alloc (.cells #[.int .i64 e, .int .i64 f] 23)) (.bool t) (.slice a0 n0 c0) (.slice b0 m0 d0) 29
  rw [World.size_alloc] at this
  exact hW1 ▸ this
 have cA := topRounds_any W1 (hT.below V)
 have cF := fun W => topFinite_any e f b W hb
 have cB := fun W (hW : Below w.heap.size w W) => topBrief_any t a0 b0 n0 m0 c0 d0 xs ys W (h0.below hW) (h0'.below hW) (hT.below hW)
 go_enter Tryz.func3, Tryz.ntmps3
 go_upto_region 1 with fail
 rw [← hW1]
 clear hW1
 go_wp2_with fail
 refine cA.mono ?_
 rintro en w2 ⟨rfl, hb2⟩
 replace V := next V hb2
 replace F0 := F0.stay hb2
 replace B7 := B7.stay hb2
 clear cA hb2
 have ⟨f0, f1⟩ := F0
 go_wp2_with fail
 (with_reducible refine (cF w2).mono ?_)
 rintro en w3 ⟨rfl, hb3⟩
 replace V := next V hb3
 replace F0 := F0.stay hb3
 replace B7 := B7.stay hb3
 clear cF hb3 f0 f1
 by_cases hv : valOk e f b = true
 rotate_left
 · rw [show valOk e f b = false by simpa using hv]
   clear cB
   go_wp2
   go_ret
   exact ⟨by simp, V⟩
 rw [hv]
 have ⟨v0, v1, v2, _, _, _⟩ := B7
 go_wp2_with fail
 (with_reducible refine (cB w3 V).mono ?_)
 rintro en w4 ⟨rfl, hb4⟩
 replace V := next V hb4
 replace F0 := F0.stay hb4
 replace B7 := B7.stay hb4
 clear cB hb4 v0 v1 v2
 by_cases hbr : n0 ≤ 200 ∧ m0 ≤ 200 ∧ ratB t xs ys = true
 rotate_left
 · rw [decide_eq_false hbr]
   go_wp2
   go_ret
   exact ⟨by simp, V⟩
 rw [decide_eq_true hbr]
 obtain ⟨l1, l2, hr⟩ := hbr
 by_cases hm5 : m < 5
 rotate_left
 · have hmI : (4 : Int) < (m : Int) := by omega
   go_wp2
   go_ret
   exact ⟨by simp, V⟩
 have hmI : ¬ (4 : Int) < (m : Int) := by omega
 obtain ⟨hfit, hx⟩ : fitsE e f b = 0 ∧ exN e.toNat f.toNat b ≠ maskN e.toNat := of_decide_eq_true hv
 obtain ⟨hf, hp⟩ := fitsE_parts hfit
 obtain ⟨q1, q2, q3, q4⟩ := formE_ok hf
 obtain ⟨E, rfl⟩ := Int.eq_ofNat_of_zero_le (by omega : 0 ≤ e)
 obtain ⟨F, rfl⟩ := Int.eq_ofNat_of_zero_le (by omega : 0 ≤ f)
 replace hx : exN E F b ≠ maskN E := hx
 obtain ⟨sL, sH, xL, yL, xH, yH, l, h, qL, qH, R⟩ := rns_of hfit hx hm5
 have cM := fun W => topMinus_any E F b W hf hb
 replace h0 := h0.below V
 replace h0' := h0'.below V
 have hTw := hT.below V
 obtain ⟨_, _, hD, hG, hs, _⟩ := rat_facts5 h0 h0' hr
 have hbt := R.bt _ _ t hD hG hs
 have cR := R.rch
 have rL := R.rL
 have rH := R.rH
 have vL := R.vL
 have vH := R.vH
 have kU := fun a1 n1 c1 a2 n2 c2 W (j1 : Sl W a1 n1 c1 xL) (j2 : Sl W a2 n2 c2 yL) (j3 : Sl W a0 n0 c0 xs) (j4 : Sl W b0 m0 d0 ys) hT => topCmp_ok sL t a1 a2 a0 b0 n1 n2 n0 m0 c1 c2 c0 d0 xL yL xs ys W j1 j2 j3 j4 hT rL hr
 have kV := fun a1 n1 c1 a2 n2 c2 W (j1 : Sl W a1 n1 c1 xH) (j2 : Sl W a2 n2 c2 yH) (j3 : Sl W a0 n0 c0 xs) (j4 : Sl W b0 m0 d0 ys) hT => topCmp_ok t sH a0 b0 a1 a2 n0 m0 n1 n2 c0 d0 c1 c2 xs ys xH yH W j3 j4 j1 j2 hT hr rH
 rw [vL] at kU
 rw [vH] at kV
 have kR := fun W (j3 : Sl W a0 n0 c0 xs) (j4 : Sl W b0 m0 d0 ys) hT => rdRatio_any a0 b0 n0 m0 c0 d0 m (E : Int) (F : Int) t (sgB E F b) xs ys W j3 j4 hT (by omega) (by omega)
 have hE : scErr (E : Int) (F : Int) t xs ys m = 0 := by
  unfold scErr
  rw [if_neg (fun h => h hf), if_neg (by simp [hr]), if_neg (by omega)]
 have hB : scBits (E : Int) (F : Int) t xs ys 0 (sgB E F b) m = sgBits E F (val xs) (val ys) t (sgB E F b) m := by
  unfold scBits
  rw [if_pos hE, (scn_nought _ _).1, (scn_nought _ _).2]
  rfl
 have hGG : scFlags (E : Int) (F : Int) t xs ys 0 m = sgFlags E F (val xs) (val ys) t m := by
  unfold scFlags
  rw [if_pos hE, (scn_nought _ _).1, (scn_nought _ _).2]
  rfl
 rw [hE, hB, hGG] at kR
 obtain ⟨tt, ht1, ht2⟩ := flag_and (flags_few E F (val xs) (val ys) t m)
 unfold rnB at hbt
 rw [← ht2] at hbt
 generalize sgBits E F (val xs) (val ys) t (sgB E F b) m = B at *
 generalize sgFlags E F (val xs) (val ys) t m = G at *
 generalize sgB E F b = s at *
 have c31 := cmpQ_three qL (sgQ' t (val xs) (val ys))
 have c32 := cmpQ_three (sgQ' t (val xs) (val ys)) qH
 have hbI : (decide (B = b) && (tt == 0)) = btwI (cmpQ qL (sgQ' t (val xs) (val ys))) (cmpQ (sgQ' t (val xs) (val ys)) qH) l h := hbt
 generalize sgQ' t (val xs) (val ys) = qq at *
 clear hbt R rL rH vL vH hfit hx hf hp hE hB hGG hv ht2 hD hG hs q1 q2 q3 q4 l1 l2
 have ⟨f0, f1⟩ := F0
 go_wp2_with fail
 refine (cR w4 hTw).mono ?_
 rintro en w5 ⟨a1, n1, c1, a2, n2, c2, a3, n3, c3, a4, n4, c4, rfl, A1, A2, A3, A4, hb5⟩
 obtain ⟨W6, hW6⟩ : ∃ W6 : World, W6 = (w5.alloc (.cells #[.bool sL, .slice a1 n1 c1, .slice a2 n2 c2] 29)).alloc (.cells #[.bool sH, .slice a3 n3 c3, .slice a4 n4 c4] 29) := ⟨_, rfl⟩
 have hb6 : Below w5.heap.size w5 W6 := hW6 ▸ more (more (Below.refl _ _) _) _
 have B10 : Box3 W6 w5.heap.size (.bool sL) (.slice a1 n1 c1) (.slice a2 n2 c2) := hW6 ▸ (box3_new w5 _ _ _ _).alloc _
 have B11 : Box3 W6 (w5.heap.size + 1) (.bool sH) (.slice a3 n3 c3) (.slice a4 n4 c4) := by
  have := box3_new (w5.alloc (.cells #[.bool sL, .slice a1 n1 c1, .slice a2 n2 c2] 29)) (.bool sH) (.slice a3 n3 c3) (.slice a4 n4 c4) 29
  rw [World.size_alloc] at this
  exact hW6 ▸ this
 replace V := next V (next hb5 hb6)
 replace F0 := F0.stay (next hb5 hb6)
 replace B7 := B7.stay (next hb5 hb6)
 replace h0 := h0.below (next hb5 hb6)
 replace h0' := h0'.below (next hb5 hb6)
 replace A1 := A1.below hb6
 replace A2 := A2.below hb6
 replace A3 := A3.below hb6
 replace A4 := A4.below hb6
 replace hTw := hT.below V
 go_upto_region 5 with fail
 rw [← hW6]
 obtain ⟨P10, hP10⟩ : ∃ q, q = w5.heap.size := ⟨_, rfl⟩
 obtain ⟨P11, hP11⟩ : ∃ q, q = w5.heap.size + 1 := ⟨_, rfl⟩
 rw [← hP11] at B11 ⊢
 rw [← hP10] at B10 ⊢
 clear hP10 hP11 hW6 hb5 hb6 cR f0 f1
 have ⟨f0, f1⟩ := F0
 have ⟨v0, v1, v2, _, _, _⟩ := B7
 have kS : ∀ W, Below W6.heap.size W6 W → W.cell? ⟨w.heap.size, 0, none⟩ = some (.int .i64 (E : Int)) ∧ W.cell? ⟨w.heap.size, 1, none⟩ = some (.int .i64 (F : Int)) ∧ W.cell? ⟨w.heap.size + 1, 0, none⟩ = some (.bool t) ∧ W.cell? ⟨w.heap.size + 1, 1, none⟩ = some (.slice a0 n0 c0) ∧ W.cell? ⟨w.heap.size + 1, 2, none⟩ = some (.slice b0 m0 d0) := fun W hb => ⟨cellStay f0 hb, cellStay f1 hb, cellStay v0 hb, cellStay v1 hb, cellStay v2 hb⟩
 go_upto_region 5 with fail
 go_region_held3 (fun W => W.cell? ⟨w.heap.size, 0, none⟩ = some (.int .i64 (E : Int)) ∧ W.cell? ⟨w.heap.size, 1, none⟩ = some (.int .i64 (F : Int)) ∧ W.cell? ⟨w.heap.size + 1, 0, none⟩ = some (.bool t) ∧ W.cell? ⟨w.heap.size + 1, 1, none⟩ = some (.slice a0 n0 c0) ∧ W.cell? ⟨w.heap.size + 1, 2, none⟩ = some (.slice b0 m0 d0))
  (((refine kS _ ?_); (first | exact (Below.refl _ _).drew | exact hWM | exact hWM.drew | exact hWR | exact hWR.drew)))
  (first
    | (go_at_call 9; (with_reducible refine (cM _).mono ?_); rintro en wM ⟨rfl, hbM⟩; have hWM : Below W6.heap.size W6 wM := undrew hbM)
    | (go_at_call 8; (with_reducible refine (kR _ (h0.below hWM) (h0'.below hWM) (hT.below (next V hWM))).mono ?_); rintro en w8 ⟨rfl, hbR⟩; have hWR : Below W6.heap.size W6 w8 := next hWM hbR))
 all_goals
  rename_i hh
  clear hh
 replace V := next V hWR
 replace B7 := B7.stay hWR
 replace B10 := B10.stay hWR
 replace B11 := B11.stay hWR
 replace A1 := A1.below hWR
 replace A2 := A2.below hWR
 replace A3 := A3.below hWR
 replace A4 := A4.below hWR
 replace h0 := h0.below hWR
 replace h0' := h0'.below hWR
 clear kS cM kR f0 f1 v0 v1 v2 F0 hbM hbR hWM hWR
 have ⟨p0, p1, p2, _, _, _⟩ := B10
 have ⟨v0, v1, v2, _, _, _⟩ := B7
 go_wp2_with fail
 (with_reducible refine (kU _ _ _ _ _ _ w8 A1.sl A2.sl h0 h0' (hT.below V)).mono ?_)
 rintro en w9 ⟨rfl, hb9⟩
 replace V := next V hb9
 replace B7 := B7.stay hb9
 replace B11 := B11.stay hb9
 replace A3 := A3.below hb9
 replace A4 := A4.below hb9
 replace h0 := h0.below hb9
 replace h0' := h0'.below hb9
 clear hb9 kU p0 p1 p2 v0 v1 v2 B10 A1 A2
 have ⟨p0, p1, p2, _, _, _⟩ := B11
 have ⟨v0, v1, v2, _, _, _⟩ := B7
 go_wp2_with fail
 (with_reducible refine (kV _ _ _ _ _ _ w9 A3.sl A4.sl h0 h0' (hT.below V)).mono ?_)
 rintro en w10 ⟨rfl, hb9⟩
 replace V := next V hb9
 clear hb9 kV p0 p1 p2 v0 v1 v2 B11 B7 A3 A4 h0 h0' hTw
 obtain ⟨mu, hmu⟩ : ∃ mu, btwI (cmpQ qL qq) (cmpQ qq qH) l h = mu := ⟨_, rfl⟩
 rw [hmu] at hbI
 generalize cmpQ qL qq = ca at *
 generalize cmpQ qq qH = cb at *
 have HM := Lib.hid hmu
 have HB := Lib.hid hbI
 clear hmu hbI
 go_upto_region 10 with fail
 go_cut [20] from 73 to 92 (fun vin wx => vin = .bool mu ∧ wx = w10)
 case first =>
  rcases c31 with rfl | rfl | rfl <;> rcases c32 with rfl | rfl | rfl <;> cases l <;> cases h
  all_goals
   go_wp2
   go_meet
   exact ⟨by rw [← HM.out]; rfl, rfl⟩
 case rest =>
  obtain ⟨rfl, hw⟩ := hcut
  subst hw
  by_cases hBb : B = b
  · have e1 : ((B : Int) = (b : Int)) = True := eq_true (by omega)
    have e2 : ((B : Int) == (b : Int)) = true := beq_iff_eq.2 (by omega)
    obtain rfl : (tt == 0) = mu := by have := HB.out; rwa [decide_eq_true hBb, Bool.true_and] at this
    clear hBb HB HM
    go_wp2
    go_ret
    exact ⟨by simp, V⟩
  · have e1 : ¬ ((B : Int) = (b : Int)) := by omega
    have e2 : ((B : Int) == (b : Int)) = false := by simp; omega
    obtain rfl : false = mu := by have := HB.out; rwa [decide_eq_false hBb, Bool.false_and] at this
    clear hBb HB HM
    go_wp2
    go_ret
    exact ⟨by simp, V⟩
end Go.Proofs.YtpmncmglmobjoaaGreatDoor
