/-
  Contracts of numeralbig's Words, numeralref02.Nat, numeralref05.Whole and round.Whole, whatever they are asked.
-/

import Derived.Test.YtgdhleiokfaeoaaGreatDoorQHelpC
import Derived.Test.YtgdhleiokfaeoaaGreatDoorQRvI
namespace Go.Proofs.YtgdhleiokfaeoaaGreatDoor

open Go.RowKit Go.Lb

attribute [local go_sem] Go.World.cell?_alloc_some

theorem nbWords_any (b base x : Nat) (w : World) (h : Iz 43 w base b (x : Int)) (l : ln x ≤ 4194304) :
    Calls Tryz.prog 139 #[.pointer (some ⟨b, 0, none⟩)] w fun e w' => ∃ ao k c, e = .returned (.slice ao k c) ∧ Fr 43 w' w.heap.size ao k c (limbs x) ∧ Below w.heap.size w w' := by
  obtain ⟨ao, k, c, i⟩ := iz_nat h
  have hlen := i.fr.sl.len
  have hC := nbCopied_any ao k c (limbs x) w i.fr.sl (by rw [← hlen]; exact Nat.le_trans l (by decide))
  have hc1 := i.c1
  by_cases hk : k = 0
  · have hx : Hid (limbs x = []) := Lib.hid (List.eq_nil_of_length_eq_zero (hlen.trans hk))
    subst hk
    clear h i hlen l hC
    go_enter Tryz.func139, Tryz.ntmps139
    go_wp2
    go_ret
    exact ⟨none, 0, 0, rfl, by rw [hx.out]; exact fr_nil _ _ _, Below.refl _ _⟩
  · have hk0 : ¬ ((k : Int) = 0) := by omega
    have HL := Lib.hid (And.intro hlen (ok_limbs x))
    clear h i hlen l hk
    go_enter Tryz.func139, Tryz.ntmps139
    go_wp2_with fail
    refine hC.mono ?_
    rintro en w2 ⟨g, rfl, ho, hb⟩
    go_wp2
    go_ret
    have hF := fr_own ho HL.out.2 (Nat.le_refl _) (Nat.le_refl _) (Nat.le_refl _)
    rw [List.take_of_length_le (by rw [HL.out.1]; exact Nat.le_refl _)] at hF
    exact ⟨_, _, _, rfl, hF, hb⟩

theorem rf2Nat_any (b base x : Nat) (w : World) (h : Iz 43 w base b (x : Int)) (l : ln x ≤ 4194304) :
    Calls Tryz.prog 62 #[.pointer (some ⟨b, 0, none⟩)] w fun e w' => ∃ ao k c, e = .returned (.agg #[.slice ao k c]) ∧ Fr 43 w' w.heap.size ao k c (limbs x) ∧ Below w.heap.size w w' := by
  have hW := nbWords_any b base x (w.alloc (.cells #[.slice none 0 0] 26)) (h.stay (more (Below.refl _ _) _)) l
  have R := box1_new w (.slice none 0 0) 26
  clear h l
  go_enter Tryz.func62, Tryz.ntmps62
  go_wp2_with fail
  refine hW.mono ?_
  rintro en w2 ⟨ao, k, c, rfl, F2, hb2⟩
  have ⟨r0, y0⟩ := R.stay hb2
  have V2 := next (more (Below.refl _ _) _) hb2
  clear hW R
  go_wp2
  have t0 := World.cell?_setCell_same w2 ⟨w.heap.size, 0, none⟩ (.slice ao k c) r0
  refine bodyPost_ret (v := .agg #[.slice ao k c]) (by simp [results, Tryz.results62, go_sem, t0]) rfl ⟨ao, k, c, rfl, (F2.setCell (by simp) _).mono (by simp), V2.setCell (Nat.le_refl _) _⟩

/-- An answer of Whole. -/
def WhU (b : Bool) (N : Nat) (x : Bool) (er : Int) (w : World) (en : Ending) (w' : World) : Prop :=
  ∃ ao k c, en = .returned (.tuple #[.bool b, .agg #[.slice ao k c], .bool x, .int .i64 er]) ∧ Fr 43 w' w.heap.size ao k c (limbs N) ∧ Below w.heap.size w w'

/-- Whole's error; its number, its sign, whether it is that. -/
def whE (s : Bool) (xs ys : List Nat) (m : Nat) : Int := if ratB s xs ys = false then 20 else if 4 < m then 7 else 0

def whN (s : Bool) (xs ys : List Nat) (m : Nat) : Nat := if whE s xs ys m = 0 then rdN (val xs) (val ys) s m else 0

def whS (s : Bool) (xs ys : List Nat) (m : Nat) : Bool := if whE s xs ys m = 0 then nzB s (rdN (val xs) (val ys) s m) else false

def whX (s : Bool) (xs ys : List Nat) (m : Nat) : Bool := if whE s xs ys m = 0 then exB (val xs) (val ys) else false

theorem whU_no {er : Int} {w w' : World} (hb : Below w.heap.size w w') : WhU false 0 false er w (.returned (.tuple #[.bool false, .agg #[.slice none 0 0], .bool false, .int .i64 er])) w' :=
  ⟨none, 0, 0, rfl, by rw [limbs_zero]; exact fr_nil _ _ _, hb⟩

set_option maxRecDepth 100000 in
set_option maxHeartbeats 2000000 in
theorem rdWholeP_rat (a1 a2 : Option Addr) (n1 n2 c1 c2 m : Nat) (s : Bool) (xs ys : List Nat) (w : World) (h1 : Sl w a1 n1 c1 xs) (h2 : Sl w a2 n2 c2 ys) (hT : Tab w) (hr : ratB s xs ys = false) :
    Calls Tryz.prog 19 #[.agg #[.bool s, .slice a1 n1 c1, .slice a2 n2 c2], .int .u8 (m : Int)] w (WhU false 0 false 20 w) := by
  obtain ⟨W2, hW2⟩ : ∃ W2 : World, W2 = (w.alloc (.cells #[.bool s, .slice a1 n1 c1, .slice a2 n2 c2] 28)).alloc (.cells #[.slice none 0 0] 26) := ⟨_, rfl⟩
  have hb2 : Below w.heap.size w W2 := hW2 ▸ more (more (Below.refl _ _) _) _
  have D2 : Box3 W2 w.heap.size (.bool s) (.slice a1 n1 c1) (.slice a2 n2 c2) := hW2 ▸ (box3_new w _ _ _ _).alloc _
  have R2 : Box1 W2 (w.heap.size + 1) (.slice none 0 0) := by
    have := box1_new (w.alloc (.cells #[.bool s, .slice a1 n1 c1, .slice a2 n2 c2] 28)) (.slice none 0 0) 26
    rw [World.size_alloc] at this
    exact hW2 ▸ this
  have hRc : Calls Tryz.prog 46 #[.agg #[.bool s, .slice a1 n1 c1, .slice a2 n2 c2]] W2 fun e w' => e = .returned (.int .i64 20) ∧ Below W2.heap.size W2 w' := by
    have := rtCheck_any s a1 a2 n1 n2 c1 c2 xs ys W2 (h1.below hb2) (h2.below hb2) (hT.below hb2)
    unfold ratE at this
    rwa [hr, if_neg (by decide)] at this
  clear hr hT h1 h2
  have ⟨d0, d1, d2, _, _, _⟩ := D2
  go_enter Tryz.func19, Tryz.ntmps19
  go_wp2_with fail
  rw [← hW2]
  clear hW2
  refine hRc.mono ?_
  rintro en w3 ⟨rfl, hb3⟩
  have W3 := next hb2 hb3
  have ⟨r0, y0⟩ := R2.stay hb3
  go_wp2
  have t0 := World.cell?_setCell_same w3 ⟨w.heap.size + 1, 0, none⟩ (.slice none 0 0) r0
  refine bodyPost_ret (v := .tuple #[.bool false, .agg #[.slice none 0 0], .bool false, .int .i64 20]) (by simp [results, Tryz.results19, go_sem, t0]) rfl (whU_no (W3.setCell (by simp) _))

set_option maxRecDepth 100000 in
set_option maxHeartbeats 2000000 in
theorem rdWholeP_mode (a1 a2 : Option Addr) (n1 n2 c1 c2 m : Nat) (s : Bool) (xs ys : List Nat) (w : World) (h1 : Sl w a1 n1 c1 xs) (h2 : Sl w a2 n2 c2 ys) (hT : Tab w) (hr : ratB s xs ys = true) (hm : 4 < m) :
    Calls Tryz.prog 19 #[.agg #[.bool s, .slice a1 n1 c1, .slice a2 n2 c2], .int .u8 (m : Int)] w (WhU false 0 false 7 w) := by
  obtain ⟨W2, hW2⟩ : ∃ W2 : World, W2 = (w.alloc (.cells #[.bool s, .slice a1 n1 c1, .slice a2 n2 c2] 28)).alloc (.cells #[.slice none 0 0] 26) := ⟨_, rfl⟩
  have hb2 : Below w.heap.size w W2 := hW2 ▸ more (more (Below.refl _ _) _) _
  have D2 : Box3 W2 w.heap.size (.bool s) (.slice a1 n1 c1) (.slice a2 n2 c2) := hW2 ▸ (box3_new w _ _ _ _).alloc _
  have R2 : Box1 W2 (w.heap.size + 1) (.slice none 0 0) := by
    have := box1_new (w.alloc (.cells #[.bool s, .slice a1 n1 c1, .slice a2 n2 c2] 28)) (.slice none 0 0) 26
    rw [World.size_alloc] at this
    exact hW2 ▸ this
  have hRc : Calls Tryz.prog 46 #[.agg #[.bool s, .slice a1 n1 c1, .slice a2 n2 c2]] W2 fun e w' => e = .returned (.int .i64 0) ∧ Below W2.heap.size W2 w' := by
    have := rtCheck_any s a1 a2 n1 n2 c1 c2 xs ys W2 (h1.below hb2) (h2.below hb2) (hT.below hb2)
    unfold ratE at this
    rwa [if_pos hr] at this
  have hm4 : (m : Int) > 4 := by omega
  clear hr hT h1 h2
  have ⟨d0, d1, d2, _, _, _⟩ := D2
  go_enter Tryz.func19, Tryz.ntmps19
  go_wp2_with fail
  rw [← hW2]
  clear hW2
  refine hRc.mono ?_
  rintro en w3 ⟨rfl, hb3⟩
  have W3 := next hb2 hb3
  have ⟨r0, y0⟩ := R2.stay hb3
  go_wp2
  have t0 := World.cell?_setCell_same w3 ⟨w.heap.size + 1, 0, none⟩ (.slice none 0 0) r0
  refine bodyPost_ret (v := .tuple #[.bool false, .agg #[.slice none 0 0], .bool false, .int .i64 7]) (by simp [results, Tryz.results19, go_sem, t0]) rfl (whU_no (W3.setCell (by simp) _))

theorem rdWholeP_any (a1 a2 : Option Addr) (n1 n2 c1 c2 m : Nat) (s : Bool) (xs ys : List Nat) (w : World) (h1 : Sl w a1 n1 c1 xs) (h2 : Sl w a2 n2 c2 ys) (hT : Tab w) :
    Calls Tryz.prog 19 #[.agg #[.bool s, .slice a1 n1 c1, .slice a2 n2 c2], .int .u8 (m : Int)] w (WhU (whS s xs ys m) (whN s xs ys m) (whX s xs ys m) (whE s xs ys m) w) := by
  cases hr : ratB s xs ys
  · have hE : whE s xs ys m = 20 := by unfold whE; rw [if_pos hr]
    unfold whS whN whX
    rw [hE]
    exact rdWholeP_rat a1 a2 n1 n2 c1 c2 m s xs ys w h1 h2 hT hr
  · by_cases hm : 4 < m
    · have hE : whE s xs ys m = 7 := by unfold whE; rw [if_neg (by rw [hr]; decide), if_pos hm]
      unfold whS whN whX
      rw [hE]
      exact rdWholeP_mode a1 a2 n1 n2 c1 c2 m s xs ys w h1 h2 hT hr hm
    · have hE : whE s xs ys m = 0 := by unfold whE; rw [if_neg (by rw [hr]; decide), if_neg hm]
      unfold whS whN whX
      rw [hE]
      exact rdWholeP_ok a1 a2 n1 n2 c1 c2 m s xs ys w h1 h2 hT (by omega) hr

set_option maxRecDepth 100000 in
set_option maxHeartbeats 2000000 in
theorem nbWhole5_rat (a1 a2 : Option Addr) (n1 n2 c1 c2 m : Nat) (s : Bool) (xs ys : List Nat) (w : World) (h1 : Sl w a1 n1 c1 xs) (h2 : Sl w a2 n2 c2 ys) (hT : Tab w) (hr : ratB s xs ys = false) :
    Calls Tryz.prog 20 #[.agg #[.bool s, .slice a1 n1 c1, .slice a2 n2 c2], .int .u8 (m : Int)] w (WhU false 0 false 20 w) := by
  obtain ⟨W2, hW2⟩ : ∃ W2 : World, W2 = (w.alloc (.cells #[.bool s, .slice a1 n1 c1, .slice a2 n2 c2] 28)).alloc (.cells #[.slice none 0 0] 26) := ⟨_, rfl⟩
  have hb2 : Below w.heap.size w W2 := hW2 ▸ more (more (Below.refl _ _) _) _
  have D2 : Box3 W2 w.heap.size (.bool s) (.slice a1 n1 c1) (.slice a2 n2 c2) := hW2 ▸ (box3_new w _ _ _ _).alloc _
  have R2 : Box1 W2 (w.heap.size + 1) (.slice none 0 0) := by
    have := box1_new (w.alloc (.cells #[.bool s, .slice a1 n1 c1, .slice a2 n2 c2] 28)) (.slice none 0 0) 26
    rw [World.size_alloc] at this
    exact hW2 ▸ this
  have hRc : Calls Tryz.prog 42 #[.agg #[.bool s, .slice a1 n1 c1, .slice a2 n2 c2]] W2 fun e w' => e = .returned (.int .i64 20) ∧ Below W2.heap.size W2 w' := by
    have := rf2Check_any s a1 a2 n1 n2 c1 c2 xs ys W2 (h1.below hb2) (h2.below hb2) (hT.below hb2)
    unfold ratE at this
    rwa [hr, if_neg (by decide)] at this
  clear hr hT h1 h2
  have ⟨d0, d1, d2, _, _, _⟩ := D2
  go_enter Tryz.func20, Tryz.ntmps20
  go_wp2_with fail
  rw [← hW2]
  clear hW2
  refine hRc.mono ?_
  rintro en w3 ⟨rfl, hb3⟩
  have W3 := next hb2 hb3
  have ⟨r0, y0⟩ := R2.stay hb3
  go_wp2
  have t0 := World.cell?_setCell_same w3 ⟨w.heap.size + 1, 0, none⟩ (.slice none 0 0) r0
  refine bodyPost_ret (v := .tuple #[.bool false, .agg #[.slice none 0 0], .bool false, .int .i64 20]) (by simp [results, Tryz.results20, go_sem, t0]) rfl (whU_no (W3.setCell (by simp) _))

set_option maxRecDepth 100000 in
set_option maxHeartbeats 2000000 in
theorem nbWhole5_mode (a1 a2 : Option Addr) (n1 n2 c1 c2 m : Nat) (s : Bool) (xs ys : List Nat) (w : World) (h1 : Sl w a1 n1 c1 xs) (h2 : Sl w a2 n2 c2 ys) (hT : Tab w) (hr : ratB s xs ys = true) (hm : 4 < m) :
    Calls Tryz.prog 20 #[.agg #[.bool s, .slice a1 n1 c1, .slice a2 n2 c2], .int .u8 (m : Int)] w (WhU false 0 false 7 w) := by
  obtain ⟨W2, hW2⟩ : ∃ W2 : World, W2 = (w.alloc (.cells #[.bool s, .slice a1 n1 c1, .slice a2 n2 c2] 28)).alloc (.cells #[.slice none 0 0] 26) := ⟨_, rfl⟩
  have hb2 : Below w.heap.size w W2 := hW2 ▸ more (more (Below.refl _ _) _) _
  have D2 : Box3 W2 w.heap.size (.bool s) (.slice a1 n1 c1) (.slice a2 n2 c2) := hW2 ▸ (box3_new w _ _ _ _).alloc _
  have R2 : Box1 W2 (w.heap.size + 1) (.slice none 0 0) := by
    have := box1_new (w.alloc (.cells #[.bool s, .slice a1 n1 c1, .slice a2 n2 c2] 28)) (.slice none 0 0) 26
    rw [World.size_alloc] at this
    exact hW2 ▸ this
  have hRc : Calls Tryz.prog 42 #[.agg #[.bool s, .slice a1 n1 c1, .slice a2 n2 c2]] W2 fun e w' => e = .returned (.int .i64 0) ∧ Below W2.heap.size W2 w' := by
    have := rf2Check_any s a1 a2 n1 n2 c1 c2 xs ys W2 (h1.below hb2) (h2.below hb2) (hT.below hb2)
    unfold ratE at this
    rwa [if_pos hr] at this
  have hm4 : (m : Int) > 4 := by omega
  clear hr hT h1 h2
  have ⟨d0, d1, d2, _, _, _⟩ := D2
  go_enter Tryz.func20, Tryz.ntmps20
  go_wp2_with fail
  rw [← hW2]
  clear hW2
  refine hRc.mono ?_
  rintro en w3 ⟨rfl, hb3⟩
  have W3 := next hb2 hb3
  have ⟨r0, y0⟩ := R2.stay hb3
  go_wp2
  have t0 := World.cell?_setCell_same w3 ⟨w.heap.size + 1, 0, none⟩ (.slice none 0 0) r0
  refine bodyPost_ret (v := .tuple #[.bool false, .agg #[.slice none 0 0], .bool false, .int .i64 7]) (by simp [results, Tryz.results20, go_sem, t0]) rfl (whU_no (W3.setCell (by simp) _))

theorem ex_low {N D : Nat} (hG : Nat.gcd N D = 1) : decide (D = 1) = exB N D := by
  unfold exB
  by_cases h : N % D = 0
  · have hd : D ∣ N := Nat.dvd_of_mod_eq_zero h
    have : Nat.gcd N D = D := Nat.gcd_eq_right hd
    rw [decide_eq_true h, decide_eq_true (by omega)]
  · rw [decide_eq_false h, decide_eq_false]
    rintro rfl
    exact h (Nat.mod_one _)

theorem sign_lt (x : Int) : decide (x.sign < 0) = decide (x < 0) := by
  rcases Int.lt_trichotomy x 0 with h | h | h
  · rw [Int.sign_eq_neg_one_of_neg h, decide_eq_true h]; rfl
  · subst h; rfl
  · rw [Int.sign_eq_one_of_pos h, decide_eq_false (by decide), decide_eq_false (by omega)]

set_option maxRecDepth 100000 in
set_option maxHeartbeats 4000000 in
theorem nbWhole5_ok (a1 a2 : Option Addr) (n1 n2 c1 c2 m : Nat) (s : Bool) (xs ys : List Nat) (w : World) (h1 : Sl w a1 n1 c1 xs) (h2 : Sl w a2 n2 c2 ys) (hT : Tab w) (hm : m < 5) (hr : ratB s xs ys = true) :
    Calls Tryz.prog 20 #[.agg #[.bool s, .slice a1 n1 c1, .slice a2 n2 c2], .int .u8 (m : Int)] w (WhU (nzB s (rdN (val xs) (val ys) s m)) (rdN (val xs) (val ys) s m) (exB (val xs) (val ys)) 0 w) := by
  obtain ⟨fx, fy, hD, hG, hs, l1, l2⟩ := rat_facts h1 h2 hr
  obtain ⟨W2, hW2⟩ : ∃ W2 : World, W2 = (w.alloc (.cells #[.bool s, .slice a1 n1 c1, .slice a2 n2 c2] 28)).alloc (.cells #[.slice none 0 0] 26) := ⟨_, rfl⟩
  have hb2 : Below w.heap.size w W2 := hW2 ▸ more (more (Below.refl _ _) _) _
  have D2 : Box3 W2 w.heap.size (.bool s) (.slice a1 n1 c1) (.slice a2 n2 c2) := hW2 ▸ (box3_new w _ _ _ _).alloc _
  have R2 : Box1 W2 (w.heap.size + 1) (.slice none 0 0) := by
    have := box1_new (w.alloc (.cells #[.bool s, .slice a1 n1 c1, .slice a2 n2 c2] 28)) (.slice none 0 0) 26
    rw [World.size_alloc] at this
    exact hW2 ▸ this
  have hRc : Calls Tryz.prog 42 #[.agg #[.bool s, .slice a1 n1 c1, .slice a2 n2 c2]] W2 fun e w' => e = .returned (.int .i64 0) ∧ Below W2.heap.size W2 w' := by
    have := rf2Check_any s a1 a2 n1 n2 c1 c2 xs ys W2 (h1.below hb2) (h2.below hb2) (hT.below hb2)
    unfold ratE at this
    rwa [if_pos hr] at this
  have hQ : ∀ W, Below w.heap.size w W → Calls Tryz.prog 44 #[.agg #[.bool s, .slice a1 n1 c1, .slice a2 n2 c2]] W (MkQ 43 (sgQ' s (val xs) (val ys)) W) := fun W hW => rf2Rat_any a1 a2 n1 n2 c1 c2 s xs ys W (h1.below hW) (h2.below hW) fx fy hD l1 l2 (hT.below hW)
  obtain ⟨q1, q2, q3⟩ := mk_low hD hG hs
  have hex := ex_low hG
  have lN : ln (val xs) ≤ 16384 := Nat.le_trans (ln_le (val_lt h1.ok)) (by rw [h1.len]; exact l1)
  have lD : ln (val ys) ≤ 16384 := Nat.le_trans (ln_le (val_lt h2.ok)) (by rw [h2.len]; exact l2)
  obtain ⟨q, hq⟩ : ∃ q, q = sgQ' s (val xs) (val ys) := ⟨_, rfl⟩
  rw [← hq] at hQ q1 q2 q3
  have hsg : decide (q.num.sign < 0) = s := (sign_lt _).trans q3
  have hsz : (q.num.sign < 0) = (s = true) := by rw [← hsg]; simp
  have hIs : isB q = exB (val xs) (val ys) := by unfold isB; rw [q2]; exact hex
  obtain ⟨p1, p2, p3⟩ := absR_parts q
  have hAb : ∀ W, Below w.heap.size w W → ∀ b B, Rq 43 W B b q → Calls Tryz.prog 59 #[.pointer (some ⟨W.heap.size, 0, none⟩), .pointer (some ⟨b, 0, none⟩)] (W.alloc (.cells #[.bool false, .slice none 0 0, .slice none 0 0] 103)) (StQ 43 W.heap.size W.heap.size (absR q) (W.alloc (.cells #[.bool false, .slice none 0 0, .slice none 0 0] 103))) := fun W _ b B hb => nbRAbs_any W.heap.size W.heap.size B b q _ (res_new W _ _ _ _) (Nat.le_refl _) (hb.stay (more (Below.refl _ _) _)) (by rw [q1]; omega) (by rw [q2]; omega)
  have hSn : ∀ W b B, Rq 43 W B b q → Calls Tryz.prog 60 #[.pointer (some ⟨b, 0, none⟩)] W fun e w' => e = .returned (.int .i64 q.num.sign) ∧ W = w' := fun W b B hb => nbRSignZ_any b B q W hb
  have hWh : ∀ W b B, Below w.heap.size w W → Rq 43 W B b (absR q) → Calls Tryz.prog 58 #[.pointer (some ⟨b, 0, none⟩), .bool (decide (q.num.sign < 0)), .int .u8 (m : Int)] W (MkZ 43 ((rdN (val xs) (val ys) s m : Nat) : Int) W) := fun W b B hW hb => by
    have h0 : 0 ≤ absR q := Rat.num_nonneg.1 (by have := of_decide_eq_false p3; omega)
    have := nbWholeR_any B b m (absR q) s W hb h0 hm (by rw [p1, q1]; omega) (by rw [p2, q2]; omega) (hT.below hW)
    rw [p1, p2, q1, q2] at this
    rw [hsg]
    exact this
  have hII : ∀ W b B, Rq 43 W B b q → Calls Tryz.prog 63 #[.pointer (some ⟨b, 0, none⟩)] W fun e w' => e = .returned (.bool (exB (val xs) (val ys))) ∧ W = w' := fun W b B hb => by
    rw [← hIs]
    exact nbRIsInt_any b B q W hb
  have hrn : ln (rdN (val xs) (val ys) s m) ≤ 16386 := by
    have h3 := rd_le (val xs) (val ys) s m
    have h4 := ln_mono h3
    have h5 := ln_add' (val xs / val ys) 1
    have h6 := ln_div (val xs) (val ys)
    have h7 := ln_one
    omega
  have hm4 : ¬ (m : Int) > 4 := by omega
  generalize rdN (val xs) (val ys) s m = rn at *
  generalize exB (val xs) (val ys) = ex at *
  have hn : Hid (nzB s rn = (s && decide (rn ≠ 0))) := Lib.hid rfl
  have hsn := sign_gt rn
  have HSG := Lib.hid hsg
  generalize absR q = aq at *
  generalize hsq : q.num.sign = sq at *
  clear fx fy hD hG hs l1 l2 hr hT h1 h2 lN lD hq hex hIs hsg hsz q1 q2 q3 p1 p2 p3 hm hsq
  have ⟨d0, d1, d2, _, _, _⟩ := D2
  go_enter Tryz.func20, Tryz.ntmps20
  go_wp2_with fail
  rw [← hW2]
  clear hW2
  refine hRc.mono ?_
  rintro en w3 ⟨rfl, hb3⟩
  have V3 := next hb2 hb3
  have D3 := D2.stay hb3
  have R3 := R2.stay hb3
  clear d0 d1 d2 D2 R2 hRc hb2
  have ⟨d0, d1, d2, _, _, _⟩ := D3
  go_wp2_with fail
  refine (hQ w3 V3).mono ?_
  rintro en w4 ⟨t1, rfl, Q4, hb4⟩
  have V4 := next V3 hb4
  have R4 := R3.stay hb4
  clear d0 d1 d2 D3 R3 hQ hb3
  go_wp2_with fail
  refine (hAb w4 V4 t1 _ Q4).mono ?_
  rintro en w5 hS5
  obtain ⟨t2, rfl, Q5, hb5⟩ := hS5.mk
  have V5 := next V4 hb5
  have R5 := R4.stay hb5
  have Q4' := Q4.stay hb5
  go_wp2_with fail
  refine (hSn w5 t1 _ Q4').mono ?_
  rintro en w5' ⟨rfl, rfl⟩
  go_wp2_with fail
  refine (hWh w5 t2 _ V5 Q5).mono ?_
  rintro en w6 ⟨t3, rfl, I6, hb6⟩
  have V6 := next V5 hb6
  have R6 := R5.stay hb6
  have Q6 := Q4'.stay hb6
  clear hAb hWh hS5 Q5 Q4 Q4' R4 R5 hb5 hb4
  go_wp2_with fail
  refine (hSn w6 t1 _ Q6).mono ?_
  rintro en w6' ⟨rfl, rfl⟩
  have hSZ := nbSignZ_any t3 _ (rn : Int) w6 I6
  have hNt := rf2Nat_any t3 _ rn w6 I6 (by omega)
  have hz6 := V6.size
  have hz7 := R6.lt
  cases s
  · have hs0 : ¬ sq < 0 := of_decide_eq_false HSG.out
    go_wp2_with fail
    refine hNt.mono ?_
    rintro en w7 ⟨ao, k, c, rfl, F7, hb7⟩
    have Q7 := Q6.stay hb7
    have ⟨r0, y0⟩ := R6.stay hb7
    have V7 := next V6 hb7
    go_wp2_with fail
    refine (hII w7 t1 _ Q7).mono ?_
    rintro en w7' ⟨rfl, rfl⟩
    go_wp2
    have t0 := World.cell?_setCell_same w7 ⟨w.heap.size + 1, 0, none⟩ (.slice ao k c) r0
    refine bodyPost_ret (v := .tuple #[.bool false, .agg #[.slice ao k c], .bool ex, .int .i64 0]) (by simp [results, Tryz.results20, go_sem, t0]) rfl ⟨ao, k, c, by rw [hn.out]; rfl, (F7.setCell (by simp; omega) _).mono (by omega), V7.setCell (by simp) _⟩
  · have hs0 : sq < 0 := of_decide_eq_true HSG.out
    go_wp2_with fail
    refine hSZ.mono ?_
    rintro en w6' ⟨rfl, rfl⟩
    go_wp2_with fail
    refine hNt.mono ?_
    rintro en w7 ⟨ao, k, c, rfl, F7, hb7⟩
    have Q7 := Q6.stay hb7
    have ⟨r0, y0⟩ := R6.stay hb7
    have V7 := next V6 hb7
    go_wp2_with fail
    refine (hII w7 t1 _ Q7).mono ?_
    rintro en w7' ⟨rfl, rfl⟩
    go_wp2
    have t0 := World.cell?_setCell_same w7 ⟨w.heap.size + 1, 0, none⟩ (.slice ao k c) r0
    refine bodyPost_ret (v := .tuple #[.bool (decide ((rn : Int).sign > 0)), .agg #[.slice ao k c], .bool ex, .int .i64 0]) (by simp [results, Tryz.results20, go_sem, t0]) rfl ⟨ao, k, c, by rw [hn.out, hsn]; rfl, (F7.setCell (by simp; omega) _).mono (by omega), V7.setCell (by simp) _⟩

theorem nbWhole5_any (a1 a2 : Option Addr) (n1 n2 c1 c2 m : Nat) (s : Bool) (xs ys : List Nat) (w : World) (h1 : Sl w a1 n1 c1 xs) (h2 : Sl w a2 n2 c2 ys) (hT : Tab w) :
    Calls Tryz.prog 20 #[.agg #[.bool s, .slice a1 n1 c1, .slice a2 n2 c2], .int .u8 (m : Int)] w (WhU (whS s xs ys m) (whN s xs ys m) (whX s xs ys m) (whE s xs ys m) w) := by
  cases hr : ratB s xs ys
  · have hE : whE s xs ys m = 20 := by unfold whE; rw [if_pos hr]
    unfold whS whN whX
    rw [hE]
    exact nbWhole5_rat a1 a2 n1 n2 c1 c2 m s xs ys w h1 h2 hT hr
  · by_cases hm : 4 < m
    · have hE : whE s xs ys m = 7 := by unfold whE; rw [if_neg (by rw [hr]; decide), if_pos hm]
      unfold whS whN whX
      rw [hE]
      exact nbWhole5_mode a1 a2 n1 n2 c1 c2 m s xs ys w h1 h2 hT hr hm
    · have hE : whE s xs ys m = 0 := by unfold whE; rw [if_neg (by rw [hr]; decide), if_neg hm]
      unfold whS whN whX
      rw [hE]
      exact nbWhole5_ok a1 a2 n1 n2 c1 c2 m s xs ys w h1 h2 hT (by omega) hr

end Go.Proofs.YtgdhleiokfaeoaaGreatDoor

