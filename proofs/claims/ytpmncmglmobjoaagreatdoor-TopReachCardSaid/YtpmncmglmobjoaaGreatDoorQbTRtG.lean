/-
  Contracts: May, Int, Check of the reference's fractions. Contract: Check of the reference's fractions. (Printed by wip/gen/rf2check.py.)
-/
import Derived.Test.YtpmncmglmobjoaaGreatDoorQbTRtE
import Derived.Test.YtpmncmglmobjoaaGreatDoorQbTNbI
set_option maxHeartbeats 2000000
set_option maxRecDepth 100000
namespace Go.Proofs.YtpmncmglmobjoaaGreatDoor
open Go.RowKit Go.Lb
def mayB (xs : List Nat) : Bool := decide (chk xs = 0)
theorem rf2May_any (ao : Option Addr) (n c : Nat) (xs : List Nat) (w : World) (h : Sl w ao n c xs) :
 Calls Tryz.prog 26 #[.agg #[.slice ao n c]] w fun e w' => e = .returned (.bool (mayB xs)) ∧ Below w.heap.size w w' := by
 have hl := h.len
 by_cases h1 : n ≤ 16384
 · by_cases h0 : n = 0
   · have hm : Hid (mayB xs = true) := Lib.hid (decide_eq_true (by unfold chk; rw [if_neg (by omega), if_neg (by omega)]))
     have HL := Lib.hid hl
     clear hl h1
     subst h0
     go_enter Tryz.func26, Tryz.ntmps26
     go_wp2
     go_ret
     exact ⟨by rw [hm.out]; rfl, more (Below.refl _ _) _⟩
   · obtain ⟨b, o, rfl, hb, hc⟩ := h.at_ (by omega)
     have hcell := hc (n - 1) (by omega)
     have i1 : (n : Int) ≤ 16384 := by omega
     have i2 : ((n : Int) == 0) = false := by simp; omega
     have i3 : decide ((n : Int) ≤ 16384) = true := by simp; omega
     have hlt := nth_lt h.ok (n - 1)
     by_cases h2 : nth xs (n - 1) = 0
     · have hm : Hid (mayB xs = false) := Lib.hid (decide_eq_false (by unfold chk; rw [if_neg (by omega), if_pos ⟨by omega, by rw [hl]; exact h2⟩]; decide))
       rw [h2] at hcell
       have HL := Lib.hid hl
       clear hl h2 hlt
       go_enter Tryz.func26, Tryz.ntmps26
       go_wp2
       go_ret
       exact ⟨by rw [hm.out]; rfl, more (Below.refl _ _) _⟩
     · have hm : Hid (mayB xs = true) := Lib.hid (decide_eq_true (by unfold chk; rw [if_neg (by omega), if_neg (by rw [hl]; exact fun h => h2 h.2)]))
       have hz : ((nth xs (n - 1) : Int) == 0) = false := by simp; omega
       have HL := Lib.hid hl
       clear hl h2
       go_enter Tryz.func26, Tryz.ntmps26
       go_wp2
       go_ret
       exact ⟨by rw [hm.out]; simp [bne, hz], more (Below.refl _ _) _⟩
 · have hm : Hid (mayB xs = false) := Lib.hid (decide_eq_false (by unfold chk; rw [if_pos (by omega)]; decide))
   have i1 : decide ((n : Int) ≤ 16384) = false := by simp; omega
   have HL := Lib.hid hl
   clear hl
   go_enter Tryz.func26, Tryz.ntmps26
   go_wp2
   go_ret
   exact ⟨by rw [hm.out]; rfl, more (Below.refl _ _) _⟩
theorem rf2Int_any (ao : Option Addr) (n c : Nat) (xs : List Nat) (w : World) (h : Sl w ao n c xs) (hx : Fine xs) (hn : n ≤ 4294967296) :
 Calls Tryz.prog 27 #[.agg #[.slice ao n c]] w (MkI 40 false (val xs) w) := by
 have hM := more (Below.refl w.heap.size w) (.cells #[.slice ao n c] 27)
 have hS := nbSetWords_any _ ao n c (w.alloc (.cells #[.slice ao n c] 27)).heap.size xs _ (zc_new (w.alloc (.cells #[.slice ao n c] 27)) 70 (.bool false) (.slice none 0 0)) ((h.below hM).below (more (Below.refl _ _) _)) hx hn (by simp only [World.size_alloc]; omega)
 have hS2 : Calls Tryz.prog 59 #[.pointer (some ⟨w.heap.size + 1, 0, none⟩), .slice ao n c] ((w.alloc (.cells #[.slice ao n c] 27)).alloc (.cells #[.bool false, .slice none 0 0] 70)) (MkI 40 false (val xs) (w.alloc (.cells #[.slice ao n c] 27))) := by
  rw [World.size_alloc] at hS
  exact hS.mono fun e w' hh => StI.mk (by rw [World.size_alloc]; exact hh)
 clear hS
 go_enter Tryz.func27, Tryz.ntmps27
 go_wp2_with (go_at_call 59; refine hS2.mono ?_; rintro e w2 ⟨b2, ao2, k2, c2, rfl, hI, hb2⟩)
 go_ret
 exact ⟨b2, ao2, k2, c2, rfl, hI.mono (by simp), next hM hb2⟩
theorem ratE_no {s : Bool} {xs ys : List Nat} (h : ratB s xs ys = false) : ratE s xs ys = 20 := by unfold ratE; rw [if_neg (by rw [h]; decide)]
theorem cmp_one {N : Nat} (h : N ≠ 1) : (cmpN N 1 == 0) = false := by
 unfold cmpN
 by_cases h1 : N < 1
 · rw [if_pos h1]; rfl
 · rw [if_neg h1, if_pos (by omega)]; rfl
theorem gcd_new (b1 b2 : Nat) (o1 o2 : Option Addr) (k1 k2 e1 e2 N D B1 B2 : Nat) (w : World) (h1 : In 40 w B1 b1 false o1 k1 e1 N) (h2 : In 40 w B2 b2 false o2 k2 e2 D) (hk1 : k1 ≤ 67108864) (hk2 : k2 ≤ 67108864) (hT : Tab w) :
 Calls Tryz.prog 31 #[.pointer (some ⟨w.heap.size, 0, none⟩), .pointer none, .pointer none, .pointer (some ⟨b1, 0, none⟩), .pointer (some ⟨b2, 0, none⟩)] (w.alloc (.cells #[.bool false, .slice none 0 0] 70)) (MkI 40 false (Nat.gcd N D) w) :=
 (nbGCD_any _ w.heap.size _ _ b1 b2 false false o1 o2 k1 k2 e1 e2 N D _ (zc_new w _ _ _) (by simp) (h1.stay (more (Below.refl _ _) _)) (h2.stay (more (Below.refl _ _) _)) hk1 hk2 (hT.alloc _)).mono fun e w' hh => StI.mk hh
theorem ratE_yes {s : Bool} {xs ys : List Nat} (h : ratB s xs ys = true) : ratE s xs ys = 0 := by unfold ratE; rw [if_pos h]
theorem rf2Check_x (s : Bool) (a1 a2 : Option Addr) (n1 n2 c1 c2 : Nat) (xs ys : List Nat) (w : World) (h1 : Sl w a1 n1 c1 xs) (h2 : Sl w a2 n2 c2 ys) (hx : chk xs ≠ 0) :
 Calls Tryz.prog 13 #[.agg #[.bool s, .slice a1 n1 c1, .slice a2 n2 c2]] w fun e w' => e = .returned (.int .i64 (ratE s xs ys)) ∧ Below w.heap.size w w' := by
 have hm1 : Hid (mayB xs = false) := Lib.hid (decide_eq_false hx)
 have hr : Hid (ratE s xs ys = 20) := Lib.hid (ratE_no (decide_eq_false (fun h => hx h.1)))
 clear hx
 go_enter Tryz.func13, Tryz.ntmps13
 go_wp2_with fail
 refine (rf2May_any a1 n1 c1 xs _ (h1.alloc _)).mono ?_
 rintro e w1 ⟨rfl, hb1⟩
 rw [hm1.out]
 have hW := next (more (Below.refl _ _) _) hb1
 have d := (box3_new w (.bool s) (.slice a1 n1 c1) (.slice a2 n2 c2) 29).stay hb1
 have ⟨d0, d1, d2, _, _, _⟩ := d
 go_wp2_with fail
 refine (rf2May_any a2 n2 c2 ys _ (h2.below hW)).mono ?_
 rintro e w2 ⟨rfl, hb2⟩
 replace hW := next hW hb2
 replace d := d.stay hb2
 have ⟨d3, d4, d5, _, _, _⟩ := d
 go_wp2
 go_ret
 exact ⟨by rw [hr.out]; rfl, hW⟩
theorem rf2Check_y (s : Bool) (a1 a2 : Option Addr) (n1 n2 c1 c2 : Nat) (xs ys : List Nat) (w : World) (h1 : Sl w a1 n1 c1 xs) (h2 : Sl w a2 n2 c2 ys) (hx : chk xs = 0) (hy : chk ys ≠ 0) :
 Calls Tryz.prog 13 #[.agg #[.bool s, .slice a1 n1 c1, .slice a2 n2 c2]] w fun e w' => e = .returned (.int .i64 (ratE s xs ys)) ∧ Below w.heap.size w w' := by
 have hm1 : Hid (mayB xs = true) := Lib.hid (decide_eq_true hx)
 have hm2 : Hid (mayB ys = false) := Lib.hid (decide_eq_false hy)
 have hr : Hid (ratE s xs ys = 20) := Lib.hid (ratE_no (decide_eq_false (fun h => hy h.2.1)))
 clear hx hy
 go_enter Tryz.func13, Tryz.ntmps13
 go_wp2_with fail
 refine (rf2May_any a1 n1 c1 xs _ (h1.alloc _)).mono ?_
 rintro e w1 ⟨rfl, hb1⟩
 rw [hm1.out]
 have hW := next (more (Below.refl _ _) _) hb1
 have d := (box3_new w (.bool s) (.slice a1 n1 c1) (.slice a2 n2 c2) 29).stay hb1
 have ⟨d0, d1, d2, _, _, _⟩ := d
 go_wp2_with fail
 refine (rf2May_any a2 n2 c2 ys _ (h2.below hW)).mono ?_
 rintro e w2 ⟨rfl, hb2⟩
 replace hW := next hW hb2
 replace d := d.stay hb2
 have ⟨d3, d4, d5, _, _, _⟩ := d
 rw [hm2.out]
 go_wp2
 go_ret
 exact ⟨by rw [hr.out]; rfl, hW⟩
theorem rf2Check_z (s : Bool) (a1 a2 : Option Addr) (n1 c1 c2 : Nat) (xs ys : List Nat) (w : World) (h1 : Sl w a1 n1 c1 xs) (h2 : Sl w a2 0 c2 ys) (hx : chk xs = 0) (hy : chk ys = 0) :
 Calls Tryz.prog 13 #[.agg #[.bool s, .slice a1 n1 c1, .slice a2 0 c2]] w fun e w' => e = .returned (.int .i64 (ratE s xs ys)) ∧ Below w.heap.size w w' := by
 have hm1 : Hid (mayB xs = true) := Lib.hid (decide_eq_true hx)
 have hm2 : Hid (mayB ys = true) := Lib.hid (decide_eq_true hy)
 have hr : Hid (ratE s xs ys = 20) := Lib.hid (ratE_no (decide_eq_false (fun h => h.2.2.1 h2.len)))
 clear hx hy
 go_enter Tryz.func13, Tryz.ntmps13
 go_wp2_with fail
 refine (rf2May_any a1 n1 c1 xs _ (h1.alloc _)).mono ?_
 rintro e w1 ⟨rfl, hb1⟩
 rw [hm1.out]
 have hW := next (more (Below.refl _ _) _) hb1
 have d := (box3_new w (.bool s) (.slice a1 n1 c1) (.slice a2 0 c2) 29).stay hb1
 have ⟨d0, d1, d2, _, _, _⟩ := d
 go_wp2_with fail
 refine (rf2May_any a2 0 c2 ys _ (h2.below hW)).mono ?_
 rintro e w2 ⟨rfl, hb2⟩
 replace hW := next hW hb2
 replace d := d.stay hb2
 have ⟨d3, d4, d5, _, _, _⟩ := d
 rw [hm2.out]
 go_wp2
 go_ret
 exact ⟨by rw [hr.out]; rfl, hW⟩
theorem rf2Check_c1 (a1 a2 : Option Addr) (n1 n2 c1 c2 : Nat) (xs ys : List Nat) (w : World) (h1 : Sl w a1 n1 c1 xs) (h2 : Sl w a2 n2 c2 ys) (hx : chk xs = 0) (hy : chk ys = 0) (hn2 : n2 ≠ 0) (hN : val xs = 0) :
 Calls Tryz.prog 13 #[.agg #[.bool true, .slice a1 n1 c1, .slice a2 n2 c2]] w fun e w' => e = .returned (.int .i64 (ratE true xs ys)) ∧ Below w.heap.size w w' := by
 have hm1 : Hid (mayB xs = true) := Lib.hid (decide_eq_true hx)
 have hm2 : Hid (mayB ys = true) := Lib.hid (decide_eq_true hy)
 have hcD : ((n2 : Int) == 0) = false := by simp [hn2]
 have fx := fine_of_chk h1.ok hx
 have fy := fine_of_chk h2.ok hy
 have lx := chk_zero_len hx
 have ly := chk_zero_len hy
 rw [h1.len] at lx
 rw [h2.len] at ly
 have H := Lib.hid (And.intro hx (And.intro hy hn2))
 have lN : (limbs (val xs)).length ≤ 16384 := by rw [limbs_val fx, h1.len]; exact lx
 have lD : (limbs (val ys)).length ≤ 16384 := by rw [limbs_val fy, h2.len]; exact ly
 have hr : Hid (ratE true xs ys = 20) := Lib.hid (ratE_no (decide_eq_false (fun h => h.2.2.2.2 rfl hN)))
 have hsB : (sgnI false (val xs) == 0) = true := by unfold sgnI; rw [if_pos hN]; rfl
 clear hx hy hn2 hN
 go_enter Tryz.func13, Tryz.ntmps13
 go_wp2_with fail
 refine (rf2May_any a1 n1 c1 xs _ (h1.alloc _)).mono ?_
 rintro e w1 ⟨rfl, hb1⟩
 rw [hm1.out]
 have hW := next (more (Below.refl _ _) _) hb1
 have d := (box3_new w (.bool true) (.slice a1 n1 c1) (.slice a2 n2 c2) 29).stay hb1
 have ⟨d0, d1, d2, _, _, _⟩ := d
 go_wp2_with fail
 refine (rf2May_any a2 n2 c2 ys _ (h2.below hW)).mono ?_
 rintro e w2 ⟨rfl, hb2⟩
 replace hW := next hW hb2
 replace d := d.stay hb2
 have ⟨d3, d4, d5, _, _, _⟩ := d
 rw [hm2.out]
 go_wp2_with fail
 refine (rf2Int_any a1 n1 c1 xs _ (h1.below hW) fx (by omega)).mono ?_
 rintro e w3 ⟨b1, o1, k1, e1, rfl, I1, hb3⟩
 replace hW := next hW hb3
 replace d := d.stay hb3
 have ⟨d6, d7, d8, _, _, _⟩ := d
 go_wp2_with fail
 refine (rf2Int_any a2 n2 c2 ys _ (h2.below hW) fy (by omega)).mono ?_
 rintro e w4 ⟨b2, o2, k2, e2, rfl, I2, hb4⟩
 replace hW := next hW hb4
 replace d := d.stay hb4
 replace I1 := I1.stay hb4
 have ⟨g0, g1, g2, _, _, _⟩ := d
 have hk1 := I1.fr.sl.len
 have hk2 := I2.fr.sl.len
 replace hk1 : k1 ≤ 16384 := by omega
 replace hk2 : k2 ≤ 16384 := by omega
 have hl1 := I1.lt
 have hl2 := I2.lt
 clear d0 d1 d2 d3 d4 d5 d6 d7 d8
 go_wp2_with fail
 refine (nbSign_any b1 _ false o1 k1 e1 (val xs) _ I1).mono ?_
 rintro e w5 ⟨rfl, rfl⟩
 obtain ⟨S, hS⟩ : ∃ S, S = sgnI false (val xs) := ⟨_, rfl⟩
 rw [← hS]
 rw [← hS] at hsB
 clear hS
 go_wp2
 go_ret
 exact ⟨by rw [hr.out]; simp, hW⟩
theorem rf2Check_c2 (a1 a2 : Option Addr) (n1 n2 c1 c2 : Nat) (xs ys : List Nat) (w : World) (h1 : Sl w a1 n1 c1 xs) (h2 : Sl w a2 n2 c2 ys) (hx : chk xs = 0) (hy : chk ys = 0) (hn2 : n2 ≠ 0) (hN : val xs = 0) (hD : val ys ≠ 1) :
 Calls Tryz.prog 13 #[.agg #[.bool false, .slice a1 n1 c1, .slice a2 n2 c2]] w fun e w' => e = .returned (.int .i64 (ratE false xs ys)) ∧ Below w.heap.size w w' := by
 have hm1 : Hid (mayB xs = true) := Lib.hid (decide_eq_true hx)
 have hm2 : Hid (mayB ys = true) := Lib.hid (decide_eq_true hy)
 have hcD : ((n2 : Int) == 0) = false := by simp [hn2]
 have fx := fine_of_chk h1.ok hx
 have fy := fine_of_chk h2.ok hy
 have lx := chk_zero_len hx
 have ly := chk_zero_len hy
 rw [h1.len] at lx
 rw [h2.len] at ly
 have H := Lib.hid (And.intro hx (And.intro hy hn2))
 have lN : (limbs (val xs)).length ≤ 16384 := by rw [limbs_val fx, h1.len]; exact lx
 have lD : (limbs (val ys)).length ≤ 16384 := by rw [limbs_val fy, h2.len]; exact ly
 have hr : Hid (ratE false xs ys = 20) := Lib.hid (ratE_no (decide_eq_false (fun h => hD (by have := h.2.2.2.1; rw [hN, Nat.gcd_zero_left] at this; exact this))))
 have hsB : (sgnI false (val xs) == 0) = true := by unfold sgnI; rw [if_pos hN]; rfl
 have hqB : (cmpN (val ys) 1 != 0) = true := by simp only [bne, cmp_one hD]; rfl
 clear hx hy hn2 hN hD
 go_enter Tryz.func13, Tryz.ntmps13
 go_wp2_with fail
 refine (rf2May_any a1 n1 c1 xs _ (h1.alloc _)).mono ?_
 rintro e w1 ⟨rfl, hb1⟩
 rw [hm1.out]
 have hW := next (more (Below.refl _ _) _) hb1
 have d := (box3_new w (.bool false) (.slice a1 n1 c1) (.slice a2 n2 c2) 29).stay hb1
 have ⟨d0, d1, d2, _, _, _⟩ := d
 go_wp2_with fail
 refine (rf2May_any a2 n2 c2 ys _ (h2.below hW)).mono ?_
 rintro e w2 ⟨rfl, hb2⟩
 replace hW := next hW hb2
 replace d := d.stay hb2
 have ⟨d3, d4, d5, _, _, _⟩ := d
 rw [hm2.out]
 go_wp2_with fail
 refine (rf2Int_any a1 n1 c1 xs _ (h1.below hW) fx (by omega)).mono ?_
 rintro e w3 ⟨b1, o1, k1, e1, rfl, I1, hb3⟩
 replace hW := next hW hb3
 replace d := d.stay hb3
 have ⟨d6, d7, d8, _, _, _⟩ := d
 go_wp2_with fail
 refine (rf2Int_any a2 n2 c2 ys _ (h2.below hW) fy (by omega)).mono ?_
 rintro e w4 ⟨b2, o2, k2, e2, rfl, I2, hb4⟩
 replace hW := next hW hb4
 replace d := d.stay hb4
 replace I1 := I1.stay hb4
 have ⟨g0, g1, g2, _, _, _⟩ := d
 have hk1 := I1.fr.sl.len
 have hk2 := I2.fr.sl.len
 replace hk1 : k1 ≤ 16384 := by omega
 replace hk2 : k2 ≤ 16384 := by omega
 have hl1 := I1.lt
 have hl2 := I2.lt
 clear d0 d1 d2 d3 d4 d5 d6 d7 d8
 go_wp2_with fail
 refine (nbSign_any b1 _ false o1 k1 e1 (val xs) _ I1).mono ?_
 rintro e w5 ⟨rfl, rfl⟩
 obtain ⟨S, hS⟩ : ∃ S, S = sgnI false (val xs) := ⟨_, rfl⟩
 rw [← hS]
 rw [← hS] at hsB
 clear hS
 go_wp2_with fail
 refine (nbNewInt_any 1 _ (by decide)).mono ?_
 rintro e w6 ⟨b6, o6, k6, e6, rfl, I6, hb6⟩
 replace hW := next hW hb6
 change In _ _ _ _ false _ _ _ 1 at I6
 replace d := d.stay hb6
 replace I1 := I1.stay hb6
 replace I2 := I2.stay hb6
 have ⟨g3, g4, g5, _, _, _⟩ := d
 go_wp2_with fail
 refine (nbICmp_any _ _ b2 b6 o2 o6 k2 k6 e2 e6 (val ys) 1 _ I2 I6).mono ?_
 rintro e w7 ⟨rfl, hb7⟩
 replace hW := next hW hb7
 generalize cmpN (val ys) 1 = Q at hqB
 go_wp2
 go_ret
 exact ⟨by rw [hr.out]; simp, hW⟩
theorem rf2Check_c3 (a1 a2 : Option Addr) (n1 n2 c1 c2 : Nat) (xs ys : List Nat) (w : World) (h1 : Sl w a1 n1 c1 xs) (h2 : Sl w a2 n2 c2 ys) (hx : chk xs = 0) (hy : chk ys = 0) (hn2 : n2 ≠ 0) (hN : val xs = 0) (hD : val ys = 1) (hT : Tab w) :
 Calls Tryz.prog 13 #[.agg #[.bool false, .slice a1 n1 c1, .slice a2 n2 c2]] w fun e w' => e = .returned (.int .i64 (ratE false xs ys)) ∧ Below w.heap.size w w' := by
 have hm1 : Hid (mayB xs = true) := Lib.hid (decide_eq_true hx)
 have hm2 : Hid (mayB ys = true) := Lib.hid (decide_eq_true hy)
 have hcD : ((n2 : Int) == 0) = false := by simp [hn2]
 have fx := fine_of_chk h1.ok hx
 have fy := fine_of_chk h2.ok hy
 have lx := chk_zero_len hx
 have ly := chk_zero_len hy
 rw [h1.len] at lx
 rw [h2.len] at ly
 have H := Lib.hid (And.intro hx (And.intro hy hn2))
 have lN : (limbs (val xs)).length ≤ 16384 := by rw [limbs_val fx, h1.len]; exact lx
 have lD : (limbs (val ys)).length ≤ 16384 := by rw [limbs_val fy, h2.len]; exact ly
 have hr : Hid (ratE false xs ys = 0) := Lib.hid (ratE_yes (decide_eq_true ⟨hx, hy, by rw [h2.len]; exact hn2, by rw [hN, hD]; exact Nat.gcd_zero_left 1, fun h => by cases h⟩))
 have hsB : (sgnI false (val xs) == 0) = true := by unfold sgnI; rw [if_pos hN]; rfl
 have hqB : (cmpN (val ys) 1 != 0) = false := by rw [hD]; rfl
 have hgB : (cmpN (Nat.gcd (val xs) (val ys)) 1 == 0) = true := by rw [hN, hD]; rfl
 clear hx hy hn2 hN hD
 go_enter Tryz.func13, Tryz.ntmps13
 go_wp2_with fail
 refine (rf2May_any a1 n1 c1 xs _ (h1.alloc _)).mono ?_
 rintro e w1 ⟨rfl, hb1⟩
 rw [hm1.out]
 have hW := next (more (Below.refl _ _) _) hb1
 have d := (box3_new w (.bool false) (.slice a1 n1 c1) (.slice a2 n2 c2) 29).stay hb1
 have ⟨d0, d1, d2, _, _, _⟩ := d
 go_wp2_with fail
 refine (rf2May_any a2 n2 c2 ys _ (h2.below hW)).mono ?_
 rintro e w2 ⟨rfl, hb2⟩
 replace hW := next hW hb2
 replace d := d.stay hb2
 have ⟨d3, d4, d5, _, _, _⟩ := d
 rw [hm2.out]
 go_wp2_with fail
 refine (rf2Int_any a1 n1 c1 xs _ (h1.below hW) fx (by omega)).mono ?_
 rintro e w3 ⟨b1, o1, k1, e1, rfl, I1, hb3⟩
 replace hW := next hW hb3
 replace d := d.stay hb3
 have ⟨d6, d7, d8, _, _, _⟩ := d
 go_wp2_with fail
 refine (rf2Int_any a2 n2 c2 ys _ (h2.below hW) fy (by omega)).mono ?_
 rintro e w4 ⟨b2, o2, k2, e2, rfl, I2, hb4⟩
 replace hW := next hW hb4
 replace d := d.stay hb4
 replace I1 := I1.stay hb4
 have ⟨g0, g1, g2, _, _, _⟩ := d
 have hk1 := I1.fr.sl.len
 have hk2 := I2.fr.sl.len
 replace hk1 : k1 ≤ 16384 := by omega
 replace hk2 : k2 ≤ 16384 := by omega
 have hl1 := I1.lt
 have hl2 := I2.lt
 clear d0 d1 d2 d3 d4 d5 d6 d7 d8
 go_wp2_with fail
 refine (nbSign_any b1 _ false o1 k1 e1 (val xs) _ I1).mono ?_
 rintro e w5 ⟨rfl, rfl⟩
 obtain ⟨S, hS⟩ : ∃ S, S = sgnI false (val xs) := ⟨_, rfl⟩
 rw [← hS]
 rw [← hS] at hsB
 clear hS
 go_wp2_with fail
 refine (nbNewInt_any 1 _ (by decide)).mono ?_
 rintro e w6 ⟨b6, o6, k6, e6, rfl, I6, hb6⟩
 replace hW := next hW hb6
 change In _ _ _ _ false _ _ _ 1 at I6
 replace d := d.stay hb6
 replace I1 := I1.stay hb6
 replace I2 := I2.stay hb6
 have ⟨g3, g4, g5, _, _, _⟩ := d
 go_wp2_with fail
 refine (nbICmp_any _ _ b2 b6 o2 o6 k2 k6 e2 e6 (val ys) 1 _ I2 I6).mono ?_
 rintro e w7 ⟨rfl, hb7⟩
 replace hW := next hW hb7
 generalize cmpN (val ys) 1 = Q at hqB
 replace d := d.stay hb7
 replace I1 := I1.stay hb7
 replace I2 := I2.stay hb7
 have hTw := hT.below hW
 go_wp2_with fail
 refine (gcd_new b1 b2 o1 o2 k1 k2 e1 e2 (val xs) (val ys) _ _ _ I1 I2 (by omega) (by omega) hTw).mono ?_
 rintro e w8 ⟨b8, o8, k8, e8, rfl, I8, hb8⟩
 replace hW := next hW hb8
 go_wp2_with fail
 refine (nbNewInt_any 1 _ (by decide)).mono ?_
 rintro e w9 ⟨b9, o9, k9, e9, rfl, I9, hb9⟩
 replace hW := next hW hb9
 change In _ _ _ _ false _ _ _ 1 at I9
 replace I8 := I8.stay hb9
 go_wp2_with fail
 refine (nbICmp_any _ _ b8 b9 o8 o9 k8 k9 e8 e9 (Nat.gcd (val xs) (val ys)) 1 _ I8 I9).mono ?_
 rintro e w10 ⟨rfl, hb10⟩
 replace hW := next hW hb10
 generalize cmpN (Nat.gcd (val xs) (val ys)) 1 = G at hgB
 go_wp2
 go_ret
 exact ⟨by rw [hr.out]; simp, hW⟩
theorem rf2Check_c4 (s : Bool) (a1 a2 : Option Addr) (n1 n2 c1 c2 : Nat) (xs ys : List Nat) (w : World) (h1 : Sl w a1 n1 c1 xs) (h2 : Sl w a2 n2 c2 ys) (hx : chk xs = 0) (hy : chk ys = 0) (hn2 : n2 ≠ 0) (hN : val xs ≠ 0) (hG : Nat.gcd (val xs) (val ys) = 1) (hT : Tab w) :
 Calls Tryz.prog 13 #[.agg #[.bool s, .slice a1 n1 c1, .slice a2 n2 c2]] w fun e w' => e = .returned (.int .i64 (ratE s xs ys)) ∧ Below w.heap.size w w' := by
 have hm1 : Hid (mayB xs = true) := Lib.hid (decide_eq_true hx)
 have hm2 : Hid (mayB ys = true) := Lib.hid (decide_eq_true hy)
 have hcD : ((n2 : Int) == 0) = false := by simp [hn2]
 have fx := fine_of_chk h1.ok hx
 have fy := fine_of_chk h2.ok hy
 have lx := chk_zero_len hx
 have ly := chk_zero_len hy
 rw [h1.len] at lx
 rw [h2.len] at ly
 have H := Lib.hid (And.intro hx (And.intro hy hn2))
 have lN : (limbs (val xs)).length ≤ 16384 := by rw [limbs_val fx, h1.len]; exact lx
 have lD : (limbs (val ys)).length ≤ 16384 := by rw [limbs_val fy, h2.len]; exact ly
 have hr : Hid (ratE s xs ys = 0) := Lib.hid (ratE_yes (decide_eq_true ⟨hx, hy, by rw [h2.len]; exact hn2, hG, fun _ => hN⟩))
 have hsB : (sgnI false (val xs) == 0) = false := by unfold sgnI; rw [if_neg hN]; rfl
 have hgB : (cmpN (Nat.gcd (val xs) (val ys)) 1 == 0) = true := by rw [hG]; rfl
 clear hx hy hn2 hN hG
 go_enter Tryz.func13, Tryz.ntmps13
 go_wp2_with fail
 refine (rf2May_any a1 n1 c1 xs _ (h1.alloc _)).mono ?_
 rintro e w1 ⟨rfl, hb1⟩
 rw [hm1.out]
 have hW := next (more (Below.refl _ _) _) hb1
 have d := (box3_new w (.bool s) (.slice a1 n1 c1) (.slice a2 n2 c2) 29).stay hb1
 have ⟨d0, d1, d2, _, _, _⟩ := d
 go_wp2_with fail
 refine (rf2May_any a2 n2 c2 ys _ (h2.below hW)).mono ?_
 rintro e w2 ⟨rfl, hb2⟩
 replace hW := next hW hb2
 replace d := d.stay hb2
 have ⟨d3, d4, d5, _, _, _⟩ := d
 rw [hm2.out]
 go_wp2_with fail
 refine (rf2Int_any a1 n1 c1 xs _ (h1.below hW) fx (by omega)).mono ?_
 rintro e w3 ⟨b1, o1, k1, e1, rfl, I1, hb3⟩
 replace hW := next hW hb3
 replace d := d.stay hb3
 have ⟨d6, d7, d8, _, _, _⟩ := d
 go_wp2_with fail
 refine (rf2Int_any a2 n2 c2 ys _ (h2.below hW) fy (by omega)).mono ?_
 rintro e w4 ⟨b2, o2, k2, e2, rfl, I2, hb4⟩
 replace hW := next hW hb4
 replace d := d.stay hb4
 replace I1 := I1.stay hb4
 have ⟨g0, g1, g2, _, _, _⟩ := d
 have hk1 := I1.fr.sl.len
 have hk2 := I2.fr.sl.len
 replace hk1 : k1 ≤ 16384 := by omega
 replace hk2 : k2 ≤ 16384 := by omega
 have hl1 := I1.lt
 have hl2 := I2.lt
 clear d0 d1 d2 d3 d4 d5 d6 d7 d8
 go_wp2_with fail
 refine (nbSign_any b1 _ false o1 k1 e1 (val xs) _ I1).mono ?_
 rintro e w5 ⟨rfl, rfl⟩
 obtain ⟨S, hS⟩ : ∃ S, S = sgnI false (val xs) := ⟨_, rfl⟩
 rw [← hS]
 rw [← hS] at hsB
 clear hS
 have hTw := hT.below hW
 go_wp2_with fail
 refine (gcd_new b1 b2 o1 o2 k1 k2 e1 e2 (val xs) (val ys) _ _ _ I1 I2 (by omega) (by omega) hTw).mono ?_
 rintro e w8 ⟨b8, o8, k8, e8, rfl, I8, hb8⟩
 replace hW := next hW hb8
 go_wp2_with fail
 refine (nbNewInt_any 1 _ (by decide)).mono ?_
 rintro e w9 ⟨b9, o9, k9, e9, rfl, I9, hb9⟩
 replace hW := next hW hb9
 change In _ _ _ _ false _ _ _ 1 at I9
 replace I8 := I8.stay hb9
 go_wp2_with fail
 refine (nbICmp_any _ _ b8 b9 o8 o9 k8 k9 e8 e9 (Nat.gcd (val xs) (val ys)) 1 _ I8 I9).mono ?_
 rintro e w10 ⟨rfl, hb10⟩
 replace hW := next hW hb10
 generalize cmpN (Nat.gcd (val xs) (val ys)) 1 = G at hgB
 go_wp2
 go_ret
 exact ⟨by rw [hr.out]; simp, hW⟩
theorem rf2Check_c5 (s : Bool) (a1 a2 : Option Addr) (n1 n2 c1 c2 : Nat) (xs ys : List Nat) (w : World) (h1 : Sl w a1 n1 c1 xs) (h2 : Sl w a2 n2 c2 ys) (hx : chk xs = 0) (hy : chk ys = 0) (hn2 : n2 ≠ 0) (hN : val xs ≠ 0) (hG : Nat.gcd (val xs) (val ys) ≠ 1) (hT : Tab w) :
 Calls Tryz.prog 13 #[.agg #[.bool s, .slice a1 n1 c1, .slice a2 n2 c2]] w fun e w' => e = .returned (.int .i64 (ratE s xs ys)) ∧ Below w.heap.size w w' := by
 have hm1 : Hid (mayB xs = true) := Lib.hid (decide_eq_true hx)
 have hm2 : Hid (mayB ys = true) := Lib.hid (decide_eq_true hy)
 have hcD : ((n2 : Int) == 0) = false := by simp [hn2]
 have fx := fine_of_chk h1.ok hx
 have fy := fine_of_chk h2.ok hy
 have lx := chk_zero_len hx
 have ly := chk_zero_len hy
 rw [h1.len] at lx
 rw [h2.len] at ly
 have H := Lib.hid (And.intro hx (And.intro hy hn2))
 have lN : (limbs (val xs)).length ≤ 16384 := by rw [limbs_val fx, h1.len]; exact lx
 have lD : (limbs (val ys)).length ≤ 16384 := by rw [limbs_val fy, h2.len]; exact ly
 have hr : Hid (ratE s xs ys = 20) := Lib.hid (ratE_no (decide_eq_false (fun h => hG h.2.2.2.1)))
 have hsB : (sgnI false (val xs) == 0) = false := by unfold sgnI; rw [if_neg hN]; rfl
 have hgB : (cmpN (Nat.gcd (val xs) (val ys)) 1 == 0) = false := cmp_one hG
 clear hx hy hn2 hN hG
 go_enter Tryz.func13, Tryz.ntmps13
 go_wp2_with fail
 refine (rf2May_any a1 n1 c1 xs _ (h1.alloc _)).mono ?_
 rintro e w1 ⟨rfl, hb1⟩
 rw [hm1.out]
 have hW := next (more (Below.refl _ _) _) hb1
 have d := (box3_new w (.bool s) (.slice a1 n1 c1) (.slice a2 n2 c2) 29).stay hb1
 have ⟨d0, d1, d2, _, _, _⟩ := d
 go_wp2_with fail
 refine (rf2May_any a2 n2 c2 ys _ (h2.below hW)).mono ?_
 rintro e w2 ⟨rfl, hb2⟩
 replace hW := next hW hb2
 replace d := d.stay hb2
 have ⟨d3, d4, d5, _, _, _⟩ := d
 rw [hm2.out]
 go_wp2_with fail
 refine (rf2Int_any a1 n1 c1 xs _ (h1.below hW) fx (by omega)).mono ?_
 rintro e w3 ⟨b1, o1, k1, e1, rfl, I1, hb3⟩
 replace hW := next hW hb3
 replace d := d.stay hb3
 have ⟨d6, d7, d8, _, _, _⟩ := d
 go_wp2_with fail
 refine (rf2Int_any a2 n2 c2 ys _ (h2.below hW) fy (by omega)).mono ?_
 rintro e w4 ⟨b2, o2, k2, e2, rfl, I2, hb4⟩
 replace hW := next hW hb4
 replace d := d.stay hb4
 replace I1 := I1.stay hb4
 have ⟨g0, g1, g2, _, _, _⟩ := d
 have hk1 := I1.fr.sl.len
 have hk2 := I2.fr.sl.len
 replace hk1 : k1 ≤ 16384 := by omega
 replace hk2 : k2 ≤ 16384 := by omega
 have hl1 := I1.lt
 have hl2 := I2.lt
 clear d0 d1 d2 d3 d4 d5 d6 d7 d8
 go_wp2_with fail
 refine (nbSign_any b1 _ false o1 k1 e1 (val xs) _ I1).mono ?_
 rintro e w5 ⟨rfl, rfl⟩
 obtain ⟨S, hS⟩ : ∃ S, S = sgnI false (val xs) := ⟨_, rfl⟩
 rw [← hS]
 rw [← hS] at hsB
 clear hS
 have hTw := hT.below hW
 go_wp2_with fail
 refine (gcd_new b1 b2 o1 o2 k1 k2 e1 e2 (val xs) (val ys) _ _ _ I1 I2 (by omega) (by omega) hTw).mono ?_
 rintro e w8 ⟨b8, o8, k8, e8, rfl, I8, hb8⟩
 replace hW := next hW hb8
 go_wp2_with fail
 refine (nbNewInt_any 1 _ (by decide)).mono ?_
 rintro e w9 ⟨b9, o9, k9, e9, rfl, I9, hb9⟩
 replace hW := next hW hb9
 change In _ _ _ _ false _ _ _ 1 at I9
 replace I8 := I8.stay hb9
 go_wp2_with fail
 refine (nbICmp_any _ _ b8 b9 o8 o9 k8 k9 e8 e9 (Nat.gcd (val xs) (val ys)) 1 _ I8 I9).mono ?_
 rintro e w10 ⟨rfl, hb10⟩
 replace hW := next hW hb10
 generalize cmpN (Nat.gcd (val xs) (val ys)) 1 = G at hgB
 go_wp2
 go_ret
 exact ⟨by rw [hr.out]; simp, hW⟩
theorem rf2Check_any (s : Bool) (a1 a2 : Option Addr) (n1 n2 c1 c2 : Nat) (xs ys : List Nat) (w : World) (h1 : Sl w a1 n1 c1 xs) (h2 : Sl w a2 n2 c2 ys) (hT : Tab w) :
 Calls Tryz.prog 13 #[.agg #[.bool s, .slice a1 n1 c1, .slice a2 n2 c2]] w fun e w' => e = .returned (.int .i64 (ratE s xs ys)) ∧ Below w.heap.size w w' := by
 by_cases hx : chk xs = 0
 · by_cases hy : chk ys = 0
   · by_cases hn : n2 = 0
     · subst hn
       exact rf2Check_z s a1 a2 n1 c1 c2 xs ys w h1 h2 hx hy
     · by_cases hN : val xs = 0
       · cases s
         · by_cases hD : val ys = 1
           · exact rf2Check_c3 a1 a2 n1 n2 c1 c2 xs ys w h1 h2 hx hy hn hN hD hT
           · exact rf2Check_c2 a1 a2 n1 n2 c1 c2 xs ys w h1 h2 hx hy hn hN hD
         · exact rf2Check_c1 a1 a2 n1 n2 c1 c2 xs ys w h1 h2 hx hy hn hN
       · by_cases hG : Nat.gcd (val xs) (val ys) = 1
         · exact rf2Check_c4 s a1 a2 n1 n2 c1 c2 xs ys w h1 h2 hx hy hn hN hG hT
         · exact rf2Check_c5 s a1 a2 n1 n2 c1 c2 xs ys w h1 h2 hx hy hn hN hG hT
   · exact rf2Check_y s a1 a2 n1 n2 c1 c2 xs ys w h1 h2 hx hy
 · exact rf2Check_x s a1 a2 n1 n2 c1 c2 xs ys w h1 h2 hx
end Go.Proofs.YtpmncmglmobjoaaGreatDoor
