/-
  Contract of ratio: Make, of two numbers that may be, the lower one not nought.
-/
import Derived.Test.YteoceoepakfgiaaGreatDoorRtD
import Derived.Test.YteoceoepakfgiaaGreatDoorNats
import Derived.Deep.Cut
import Derived.Deep.RegionHeld3
namespace Go.Proofs.YteoceoepakfgiaaGreatDoor
open Go.RowKit Go.Lb

attribute [local go_sem] Go.World.cell?_alloc_some

theorem len_divB (N G : Nat) : (limbs (N / G)).length ≤ (limbs N).length := limbs_length_le (Nat.lt_of_le_of_lt (Nat.div_le_self N G) (lt_of_limbs_length (Nat.le_refl _)))

theorem nz_divB (s : Bool) (N D : Nat) : nzB (nzB s N) (N / Nat.gcd N D) = nzB s N := by
  unfold nzB
  by_cases h : N = 0
  · simp [h]
  · have : N / Nat.gcd N D ≠ 0 := Nat.ne_of_gt (Nat.div_pos (Nat.gcd_le_left D (Nat.pos_of_ne_zero h)) (Nat.gcd_pos_of_pos_left _ (Nat.pos_of_ne_zero h)))
    simp [h, this]

set_option maxRecDepth 100000 in
set_option maxHeartbeats 4000000 in
theorem rtMake_ok (s : Bool) (a1 a2 : Option Addr) (n1 n2 c1 c2 : Nat) (xs ys : List Nat) (w : World) (h1 : Sl w a1 n1 c1 xs) (h2 : Sl w a2 n2 c2 ys) (hx : chk xs = 0) (hy : chk ys = 0) (hn2 : n2 ≠ 0) (hT : Tab w) :
    Calls Tryz.prog 9 #[.bool s, .agg #[.slice a1 n1 c1], .agg #[.slice a2 n2 c2]] w (Rtn (nzB s (val xs)) (val xs / Nat.gcd (val xs) (val ys)) (val ys / Nat.gcd (val xs) (val ys)) 0 w) := by
  obtain ⟨W3, hW3⟩ : ∃ W3 : World, W3 = ((w.alloc (.cells #[.slice a1 n1 c1] 24)).alloc (.cells #[.slice a2 n2 c2] 24)).alloc (.cells #[.bool false, .slice none 0 0, .slice none 0 0] 26) := ⟨_, rfl⟩
  have hb3 : Below w.heap.size w W3 := hW3 ▸ more (more (more (Below.refl _ _) _) _) _
  have hs3 : W3.heap.size = w.heap.size + 3 := by rw [hW3]; simp
  have A3 : Box1 W3 w.heap.size (.slice a1 n1 c1) := hW3 ▸ ((box1_new w _ _).alloc _).alloc _
  have B3 : Box1 W3 (w.heap.size + 1) (.slice a2 n2 c2) := by
    have := (box1_new (w.alloc (.cells #[.slice a1 n1 c1] 24)) (.slice a2 n2 c2) 24).alloc (.cells #[.bool false, .slice none 0 0, .slice none 0 0] 26)
    rw [World.size_alloc] at this
    exact hW3 ▸ this
  have R3 : Box3 W3 (w.heap.size + 2) (.bool false) (.slice none 0 0) (.slice none 0 0) := by
    have := box3_new ((w.alloc (.cells #[.slice a1 n1 c1] 24)).alloc (.cells #[.slice a2 n2 c2] 24)) (.bool false) (.slice none 0 0) (.slice none 0 0) 26
    rw [World.size_alloc, World.size_alloc] at this
    exact hW3 ▸ this
  obtain ⟨W4, hW4⟩ : ∃ W4 : World, W4 = W3.alloc (.cells #[.slice a1 n1 c1, .slice a2 n2 c2] 24) := ⟨_, rfl⟩
  have hb34 : Below W3.heap.size W3 W4 := hW4 ▸ more (Below.refl _ _) _
  have hb4 := next hb3 hb34
  have A4 := A3.stay hb34
  have B4 := B3.stay hb34
  have R4 := R3.stay hb34
  have C0 : W4.cell? ⟨w.heap.size + 3, 0, none⟩ = some (.slice a1 n1 c1) := by rw [hW4, ← hs3]; simp
  have C1 : W4.cell? ⟨w.heap.size + 3, 1, none⟩ = some (.slice a2 n2 c2) := by rw [hW4, ← hs3]; simp
  have hk1 : ∀ W, Below w.heap.size w W → Calls Tryz.prog 31 #[.agg #[.slice a1 n1 c1]] W fun e w' => e = .returned (.int .i64 0) ∧ Below W.heap.size W w' := fun W hW => by
    have := natCheck_any a1 n1 c1 xs W (h1.below hW)
    rwa [hx] at this
  have hk2 : ∀ W, Below w.heap.size w W → Calls Tryz.prog 31 #[.agg #[.slice a2 n2 c2]] W fun e w' => e = .returned (.int .i64 0) ∧ Below W.heap.size W w' := fun W hW => by
    have := natCheck_any a2 n2 c2 ys W (h2.below hW)
    rwa [hy] at this
  have fx := fine_of_chk h1.ok hx
  have fy := fine_of_chk h2.ok hy
  have lx := chk_zero_len hx
  have ly := chk_zero_len hy
  rw [h1.len] at lx
  rw [h2.len] at ly
  have cA : ∀ W : World, Below w.heap.size w W → Calls Tryz.prog 32 #[.agg #[.slice a1 n1 c1]] W (MkI 37 false (val xs) W) := fun W hW => rtWhole_any a1 n1 c1 xs W (h1.below hW) fx lx
  have cB : ∀ W : World, Below w.heap.size w W → Calls Tryz.prog 32 #[.agg #[.slice a2 n2 c2]] W (MkI 37 false (val ys) W) := fun W hW => rtWhole_any a2 n2 c2 ys W (h2.below hW) fy ly
  have hD0 : val ys ≠ 0 := fun h => hn2 (by rw [← h2.len]; exact (val_zero_iff h2.ok hy).1 h)
  have lN : (limbs (val xs)).length ≤ 16384 := by rw [limbs_val fx, h1.len]; exact lx
  have lD : (limbs (val ys)).length ≤ 16384 := by rw [limbs_val fy, h2.len]; exact ly
  have hcD : ((n2 : Int) == 0) = false := by simp [hn2]
  generalize val xs = N at *
  generalize val ys = D at *
  clear h1 h2 hx hy fx fy lx ly hn2
  have a3 := A3.c0
  have b3 := B3.c0
  have HS3 := Lib.hid hs3
  go_enter Tryz.func9, Tryz.ntmps9
  go_upto_region 1 with fail
  rw [← hW3]
  rw [← hs3] at C0 C1
  clear hW3 hs3
  go_wp2
  rw [← hW4]
  clear hW4 a3 b3 A3 B3 R3
  go_loopw [16] (fun i wr => ∃ k : Nat, k ≤ 2 ∧ i = .int .i64 k ∧ Below W4.heap.size W4 wr) (fun i _ => 2 - (intOf i).toNat)
  case atStart => exact ⟨0, by omega, rfl, Below.refl _ _⟩
  case round =>
    obtain ⟨k, hk, rfl, hbr⟩ := hrel
    have V := next hb4 hbr
    have hkk : k = 0 ∨ k = 1 ∨ k = 2 := by omega
    rcases hkk with rfl | rfl | rfl
    · have z0 := cellStay C0 hbr
      have z1 := cellStay C1 hbr
      go_wp2_with fail
      refine (hk1 _ (more V _)).mono ?_
      rintro en w5 ⟨rfl, hb5⟩
      go_wp2
      exact ⟨⟨1, by omega, by go_num, next (more hbr _) hb5⟩, by simp [intOf]⟩
    · have z0 := cellStay C0 hbr
      have z1 := cellStay C1 hbr
      go_wp2_with fail
      refine (hk2 _ (more V _)).mono ?_
      rintro en w5 ⟨rfl, hb5⟩
      go_wp2
      exact ⟨⟨2, by omega, by go_num, next (more hbr _) hb5⟩, by simp [intOf]⟩
    · have A5 := A4.stay hbr
      have B5 := B4.stay hbr
      have R5 := R4.stay hbr
      clear A4 C0 C1 hk1 hk2
      have p0 := A5.c0
      have p1 := B5.c0
      go_wp2_with fail
      refine (cA wr V).mono ?_
      rintro en w5 ⟨b1, o1, k1, e1, rfl, I1, hb5⟩
      have V5 := next V hb5
      have B6 := B5.stay hb5
      have R6 := R5.stay hb5
      have kk1 : k1 ≤ 16384 := by rw [← I1.fr.sl.len]; exact lN
      clear A5 B5 R5 p0 p1 cA hb34
      go_upto_if 34 with fail
      go_cut [11] from 34 (fun v11 wx => ∃ (o1 : Option Addr) (k1 e1 : Nat), v11 = .pointer (some ⟨b1, 0, none⟩) ∧ k1 ≤ 16384 ∧ In 37 wx wr.heap.size b1 (nzB s N) o1 k1 e1 N ∧ Below wr.heap.size wr wx)
      case first =>
        cases s
        · go_wp2
          go_meet
          exact ⟨o1, k1, e1, rfl, kk1, I1, hb5⟩
        · go_wp2_with (go_at_call 33; refine (bgNeg_any b1 wr.heap.size wr.heap.size b1 false o1 k1 e1 N _ I1.zc hb5.size I1 (by omega)).mono ?_; rintro en w4 hS; obtain ⟨o3, k3, e3, rfl, I3, hg⟩ := hS.in_ I1.zc I1.hb)
          go_meet
          exact ⟨o3, k3, e3, rfl, by rw [← I3.fr.sl.len]; exact lN, I3, hb5.grown hg hb5.size (by intro k hk; cases hk; exact I1.hb)⟩
      case rest =>
        obtain ⟨o3, k3, e3, rfl, hk3, J1, hbx⟩ := hcut
        clear I1 kk1 hb5 V5 B6 R6
        have Vx := next V hbx
        have hBx := ((B4.stay hbr).stay hbx).c0
        have Rx := (R4.stay hbr).stay hbx
        have hsz : wr.heap.size ≤ wc.heap.size := hbx.size
        have Ux := more Vx (.cells #[.bool false, .slice none 0 0, .slice none 0 0] 79)
        go_wp2_with fail
        refine (cB _ Ux).mono ?_
        rintro en w7 ⟨b2, o2, k2, e2, rfl, I2, hb7⟩
        have hk2' : k2 ≤ 16384 := by rw [← I2.fr.sl.len]; exact lD
        have hA7 : Below wc.heap.size wc w7 := next (more (Below.refl _ _) _) hb7
        have V7 := next Vx hA7
        have J7 := J1.stay hA7
        have R7 := Rx.stay hA7
        have S7 := (box3_new wc (.bool false) (.slice none 0 0) (.slice none 0 0) 79).stay hb7
        have l2 := I2.hb
        rw [World.size_alloc] at l2
        have l1 := J1.lt
        have lN2 := len_divB N (Nat.gcd N D)
        have lD2 := len_divB D (Nat.gcd N D)
        have hl1 : lngB (N / Nat.gcd N D) = false := decide_eq_false (by omega)
        have hl2 : lngB (D / Nat.gcd N D) = false := decide_eq_false (by omega)
        have hsg : nzB (nzB s N != false) N = nzB s N := by unfold nzB; cases s <;> cases decide (N ≠ 0) <;> rfl
        have hs2 : nzB (nzB s N) (N / Nat.gcd N D) = nzB s N := nz_divB s N D
        have cF := bgSetFrac_any wc.heap.size wc.heap.size wr.heap.size wc.heap.size b1 b2 (nzB s N) false o3 o2 k3 k2 e3 e2 N D w7 S7.res J7 (I2.mono (by simp)) (Nat.ne_of_lt l1) (by omega) hD0 (Nat.le_refl _) (by omega) (by omega) (hT.below V7)
        rw [hsg] at cF
        generalize hG : N / Nat.gcd N D = P at *
        generalize hG2 : D / Nat.gcd N D = Q at *
        clear hG hG2 cB Ux J1 S7 hBx
        go_wp2_with fail
        refine cF.mono ?_
        rintro en w8 ⟨rfl, hR, hg⟩
        have hb8 : Below wc.heap.size wc w8 := hA7.grown hg hA7.size (by intro k hk; cases hk; exact Nat.le_refl _)
        go_wp2_with fail
        refine (rtTold_yes wc.heap.size wc.heap.size (nzB s N) P Q w8 hR (by omega) (by omega) hl1 hl2).mono ?_
        rintro en w9 ⟨a3, n3, f3, a4, n4, f4, rfl, F3, F4, hap, hb9⟩
        rw [hs2]
        have V9 := next (next Vx hb8) hb9
        have R9 := (Rx.stay hb8).stay hb9
        have ⟨r0, r1, r2, y0, y1, y2⟩ := R9
        have hz8 := hb8.size
        have hz9 := Vx.size
        have hR4 := R4.lt
        have hz := hb4.size
        have hs4 := hbr.size
        clear cF hR
        go_wp2
        obtain ⟨t0, t1, t2⟩ := R9.set (.bool (nzB s N)) (.slice a3 n3 f3) (.slice a4 n4 f4)
        refine bodyPost_ret (v := .tuple #[.agg #[.bool (nzB s N), .slice a3 n3 f3, .slice a4 n4 f4], .int .i64 0]) (by simp [results, Tryz.results9, go_sem, t0, t1, t2]) rfl ?_
        exact ⟨_, _, _, _, _, _, rfl, (((F3.setCell (by simp; omega) _).setCell (by simp; omega) _).setCell (by simp; omega) _).mono (by omega), (((F4.setCell (by simp; omega) _).setCell (by simp; omega) _).setCell (by simp; omega) _).mono (by omega), hap, ((V9.setCell (by simp; omega) _).setCell (by simp; omega) _).setCell (by simp; omega) _⟩

end Go.Proofs.YteoceoepakfgiaaGreatDoor
