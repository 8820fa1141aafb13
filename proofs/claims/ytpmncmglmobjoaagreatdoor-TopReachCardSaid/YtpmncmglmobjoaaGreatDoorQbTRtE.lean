/-
  Contracts: taken, Check of ratio.
-/
import Derived.Test.YtpmncmglmobjoaaGreatDoorQbTRtD
import Derived.Laws.StructEq
set_option maxHeartbeats 4000000
set_option maxRecDepth 100000
namespace Go.Proofs.YtpmncmglmobjoaaGreatDoor
open Go.RowKit Go.Lb
def ratB (s : Bool) (xs ys : List Nat) : Bool := decide (chk xs = 0 ∧ chk ys = 0 ∧ ys.length ≠ 0 ∧ Nat.gcd (val xs) (val ys) = 1 ∧ (s = true → val xs ≠ 0))
theorem len_div (N G : Nat) : (limbs (N / G)).length ≤ (limbs N).length := limbs_length_le (Nat.lt_of_le_of_lt (Nat.div_le_self N G) (lt_of_limbs_length (Nat.le_refl _)))
theorem nz_div (s : Bool) (N D : Nat) : nzB (nzB s N) (N / Nat.gcd N D) = nzB s N := by
 unfold nzB
 by_cases h : N = 0
 · simp [h]
 · have : N / Nat.gcd N D ≠ 0 := Nat.ne_of_gt (Nat.div_pos (Nat.gcd_le_left D (Nat.pos_of_ne_zero h)) (Nat.gcd_pos_of_pos_left _ (Nat.pos_of_ne_zero h)))
   simp [h, this]
theorem look_stood : Tryz.prog.stoodInHeld 163 = false := by kernel_rfl
theorem cmp_div {D G : Nat} (hD : D ≠ 0) (hd : G ∣ D) (h : cmpN (D / G) D = 0) : G = 1 := by
 have e : D / G = D := by
  unfold cmpN at h
  split at h
  · cases h
  · split at h
    · cases h
    · omega
 have h1 := Nat.div_mul_cancel hd
 rw [e] at h1
 exact Nat.eq_of_mul_eq_mul_left (Nat.pos_of_ne_zero hD) (by rw [h1, Nat.mul_one])
def TakenA (s : Bool) (xs ys : List Nat) (w : World) (en : Ending) (w' : World) : Prop :=
 (ratB s xs ys = true ∧ ∃ b, en = .returned (.tuple #[.pointer (some ⟨b, 0, none⟩), .int .i64 0]) ∧ Ra 40 w' w.heap.size b s (val xs) (val ys) ∧ Below w.heap.size w w') ∨
 (ratB s xs ys = false ∧ en = .returned (.tuple #[.pointer none, .int .i64 20]) ∧ Below w.heap.size w w')
theorem taken_no {s : Bool} {xs ys : List Nat} {w w' : World} (h : ratB s xs ys = false) (hb : Below w.heap.size w w') : TakenA s xs ys w (.returned (.tuple #[.pointer none, .int .i64 20])) w' := .inr ⟨h, rfl, hb⟩
theorem rtTaken_x (s : Bool) (a1 a2 : Option Addr) (n1 n2 c1 c2 : Nat) (xs ys : List Nat) (w : World) (h1 : Sl w a1 n1 c1 xs) (hx : chk xs ≠ 0) :
 Calls Tryz.prog 81 #[.agg #[.bool s, .slice a1 n1 c1, .slice a2 n2 c2]] w (TakenA s xs ys w) := by
 have hcB : (chk xs != 0) = true := by simp [hx]
 have hr : Hid (ratB s xs ys = false) := Lib.hid (decide_eq_false (fun h => hx h.1))
 clear hx
 go_enter Tryz.func81, Tryz.ntmps81
 go_wp2_with fail
 refine (natCheck_any _ n1 c1 xs _ (h1.alloc _)).mono ?_
 rintro e w1 ⟨rfl, hb1⟩
 have hW := next (more (Below.refl _ _) _) hb1
 go_wp2
 go_ret2
 exact taken_no hr.out hW
theorem rtTaken_y (s : Bool) (a1 a2 : Option Addr) (n1 n2 c1 c2 : Nat) (xs ys : List Nat) (w : World) (h1 : Sl w a1 n1 c1 xs) (h2 : Sl w a2 n2 c2 ys) (hx : chk xs = 0) (hy : chk ys ≠ 0) :
 Calls Tryz.prog 81 #[.agg #[.bool s, .slice a1 n1 c1, .slice a2 n2 c2]] w (TakenA s xs ys w) := by
 have hcB : (chk xs != 0) = false := by simp [hx]
 have hcC : (chk ys != 0) = true := by simp [hy]
 have hr : Hid (ratB s xs ys = false) := Lib.hid (decide_eq_false (fun h => hy h.2.1))
 clear hx hy
 go_enter Tryz.func81, Tryz.ntmps81
 go_wp2_with fail
 refine (natCheck_any _ n1 c1 xs _ (h1.alloc _)).mono ?_
 rintro e w1 ⟨rfl, hb1⟩
 have hW := next (more (Below.refl _ _) _) hb1
 have ⟨d0, d1, d2, _, _, _⟩ := (box3_new w (.bool s) (.slice a1 n1 c1) (.slice a2 n2 c2) 29).stay hb1
 go_wp2_with fail
 refine (natCheck_any _ n2 c2 ys _ (h2.below hW)).mono ?_
 rintro e w2 ⟨rfl, hb2⟩
 replace hW := next hW hb2
 go_wp2
 go_ret2
 exact taken_no hr.out hW
theorem rtTaken_z (s : Bool) (a1 a2 : Option Addr) (n1 c1 c2 : Nat) (xs ys : List Nat) (w : World) (h1 : Sl w a1 n1 c1 xs) (h2 : Sl w a2 0 c2 ys) (hx : chk xs = 0) (hy : chk ys = 0) :
 Calls Tryz.prog 81 #[.agg #[.bool s, .slice a1 n1 c1, .slice a2 0 c2]] w (TakenA s xs ys w) := by
 have hcB : (chk xs != 0) = false := by simp [hx]
 have hcC : (chk ys != 0) = false := by simp [hy]
 have hr : Hid (ratB s xs ys = false) := Lib.hid (decide_eq_false (fun h => h.2.2.1 h2.len))
 clear hx hy
 go_enter Tryz.func81, Tryz.ntmps81
 go_wp2_with fail
 refine (natCheck_any _ n1 c1 xs _ (h1.alloc _)).mono ?_
 rintro e w1 ⟨rfl, hb1⟩
 have hW := next (more (Below.refl _ _) _) hb1
 have d := (box3_new w (.bool s) (.slice a1 n1 c1) (.slice a2 0 c2) 29).stay hb1
 have ⟨d0, d1, d2, _, _, _⟩ := d
 go_wp2_with fail
 refine (natCheck_any _ 0 c2 ys _ (h2.below hW)).mono ?_
 rintro e w2 ⟨rfl, hb2⟩
 replace hW := next hW hb2
 have ⟨d3, d4, d5, _, _, _⟩ := d.stay hb2
 go_wp2
 go_ret2
 exact taken_no hr.out hW
theorem rtTaken_ok (s : Bool) (a1 a2 : Option Addr) (n1 n2 c1 c2 : Nat) (xs ys : List Nat) (w : World) (h1 : Sl w a1 n1 c1 xs) (h2 : Sl w a2 n2 c2 ys) (hx : chk xs = 0) (hy : chk ys = 0) (hn2 : n2 ≠ 0) (hT : Tab w) :
 Calls Tryz.prog 81 #[.agg #[.bool s, .slice a1 n1 c1, .slice a2 n2 c2]] w (TakenA s xs ys w) := by
 have hcB : (chk xs != 0) = false := by simp [hx]
 have hcC : (chk ys != 0) = false := by simp [hy]
 have hcD : ((n2 : Int) == 0) = false := by simp [hn2]
 have fx := fine_of_chk h1.ok hx
 have fy := fine_of_chk h2.ok hy
 have lx := chk_zero_len hx
 have ly := chk_zero_len hy
 rw [h1.len] at lx
 rw [h2.len] at ly
 have cA : ∀ W : World, Below w.heap.size w W → Calls Tryz.prog 121 #[.agg #[.slice a1 n1 c1]] W (MkI 40 false (val xs) W) := fun W hW => rtWhole_any a1 n1 c1 xs W (h1.below hW) fx lx
 have cB : ∀ W : World, Below w.heap.size w W → Calls Tryz.prog 121 #[.agg #[.slice a2 n2 c2]] W (MkI 40 false (val ys) W) := fun W hW => rtWhole_any a2 n2 c2 ys W (h2.below hW) fy ly
 have H := Lib.hid (And.intro hx (And.intro hy hn2))
 clear hx hy hn2
 go_enter Tryz.func81, Tryz.ntmps81
 go_wp2_with fail
 refine (natCheck_any _ n1 c1 xs _ (h1.alloc _)).mono ?_
 rintro e w1 ⟨rfl, hb1⟩
 have hW := next (more (Below.refl _ _) _) hb1
 have d := (box3_new w (.bool s) (.slice a1 n1 c1) (.slice a2 n2 c2) 29).stay hb1
 have ⟨d0, d1, d2, _, _, _⟩ := d
 go_wp2_with fail
 refine (natCheck_any _ n2 c2 ys _ (h2.below hW)).mono ?_
 rintro e w2 ⟨rfl, hb2⟩
 replace hW := next hW hb2
 replace d := d.stay hb2
 have ⟨d3, d4, d5, dz3, dz4, dz5⟩ := d
 clear hb1 d0 d1 d2
 go_wp2_with fail
 have kS : ∀ w' : World, Below w2.heap.size w2 w' → (w'.cell? ⟨w.heap.size, 0, none⟩ = some (.bool s) ∧ w'.cell? ⟨w.heap.size, 1, none⟩ = some (.slice a1 n1 c1) ∧ w'.cell? ⟨w.heap.size, 2, none⟩ = some (.slice a2 n2 c2) ∧ Below w2.heap.size w2 w') := fun w' hb => ⟨cellStay d.c0 hb, cellStay d.c1 hb, cellStay d.c2 hb, hb⟩
 go_cut [4, 5] from 26 (fun v4 v5 wx => ∃ (b1 b2 : Nat) (o1 o2 : Option Addr) (k1 k2 e1 e2 : Nat), v4 = .pointer (some ⟨b1, 0, none⟩) ∧ v5 = .pointer (some ⟨b2, 0, none⟩) ∧ In 40 wx w2.heap.size b1 false o1 k1 e1 (val xs) ∧ In 40 wx w2.heap.size b2 false o2 k2 e2 (val ys) ∧ b1 ≠ b2 ∧ blkOf o2 ≠ some b1 ∧ Below w2.heap.size w2 wx)
 case first =>
  go_region_held3 (fun w' => w'.cell? ⟨w.heap.size, 0, none⟩ = some (.bool s) ∧ w'.cell? ⟨w.heap.size, 1, none⟩ = some (.slice a1 n1 c1) ∧ w'.cell? ⟨w.heap.size, 2, none⟩ = some (.slice a2 n2 c2) ∧ Below w2.heap.size w2 w')
   ((refine kS _ ?_; (repeat (with_reducible (first | exact hWB | exact hWA | exact Below.refl _ _ | refine Below.drew ?_))); done))
   (first
     | (go_at_call 121; (with_reducible refine (cA _ ?_).mono ?_); (go_split_ands; exact next hW (by assumption)); rintro en wA ⟨b1, o1, k1, e1, rfl, hI1, hbA⟩; have hWA : Below w2.heap.size w2 wA := (by go_split_ands; exact next (by assumption) hbA))
     | (go_at_call 121; (with_reducible refine (cB _ ?_).mono ?_); (go_split_ands; exact next hW (by assumption)); rintro en wB ⟨b2, o2, k2, e2, rfl, hI2, hbB⟩; have hWB : Below w2.heap.size w2 wB := (by go_split_ands; exact next (by assumption) hbB); have hAB : Below wA.heap.size wA wB := (by first | exact hbB | exact undrew hbB)))
  all_goals go_split_ands
  all_goals go_wp2
  all_goals go_meet
  all_goals
   have l1 := hI1.lt
   have l2 := hI2.hb
   have l3 := hWA.size
   have hne : blkOf o2 ≠ some b1 := fun h => by
    have := (fr_lt hI2.fr h).1
    omega
   exact ⟨b1, b2, o1, o2, k1, k2, e1, e2, rfl, rfl, (hI1.stay hAB).mono (by first | exact Nat.le_refl _ | (simp; done)), hI2.mono (by omega), by omega, hne, hWB⟩
 case rest =>
  obtain ⟨b1, b2, o1, o2, k1, k2, e1, e2, rfl, rfl, I1, I2, hne, hno, hWc⟩ := hcut
  have hk1 : k1 ≤ 16384 := by rw [← I1.fr.sl.len, limbs_val fx, h1.len]; exact lx
  have hk2 : k2 ≤ 16384 := by rw [← I2.fr.sl.len, limbs_val fy, h2.len]; exact ly
  have dc := d.stay hWc
  have ⟨f3, f4, f5, _, _, _⟩ := dc
  go_upto_if 33 with fail
  go_cut [4, 5] from 34 (fun v4 v5 wx => ∃ (o1 : Option Addr) (k1 e1 : Nat), v4 = .pointer (some ⟨b1, 0, none⟩) ∧ v5 = .pointer (some ⟨b2, 0, none⟩) ∧ k1 ≤ 16384 ∧ In 40 wx w2.heap.size b1 (nzB s (val xs)) o1 k1 e1 (val xs) ∧ In 40 wx w2.heap.size b2 false o2 k2 e2 (val ys) ∧ Below w2.heap.size w2 wx)
  case first =>
   cases s
   · go_wp2
     go_meet
     exact ⟨o1, k1, e1, rfl, rfl, hk1, I1, I2, hWc⟩
   · go_wp2_with (go_at_call 122; refine (bgNeg_any b1 w2.heap.size w2.heap.size b1 false o1 k1 e1 (val xs) _ I1.zc hWc.size I1 (by omega)).mono ?_; rintro en w4 hS; obtain ⟨o3, k3, e3, rfl, I3, hg⟩ := hS.in_ I1.zc I1.hb)
     go_meet
     exact ⟨o3, k3, e3, rfl, rfl, by rw [← I3.fr.sl.len, limbs_val fx, h1.len]; exact lx, I3, I2.other hg (fun e => hne e.symm) hno, hWc.grown hg hWc.size (by intro k hk; cases hk; exact I1.hb)⟩
  case rest =>
   clear hno hWc I1 I2 dc f3 f4 f5 hk1 cA cB kS
   obtain ⟨o3, k3, e3, rfl, rfl, hk3, J1, J2, hWd⟩ := hcut
   have dd := d.stay hWd
   have ⟨f3, f4, f5, _, _, _⟩ := dd
   have hT2 := (hT.below hW).below hWd
   obtain ⟨N, hN⟩ : ∃ N, N = val xs := ⟨_, rfl⟩
   obtain ⟨D, hD⟩ : ∃ D, D = val ys := ⟨_, rfl⟩
   rw [← hN] at J1
   rw [← hD] at J2
   have hD0 : D ≠ 0 := fun h => H.out.2.2 (by rw [← h2.len, ← limbs_val fy, ← hD, h, limbs_zero]; rfl)
   have lN : (limbs N).length ≤ 16384 := by rw [hN, limbs_val fx, h1.len]; exact lx
   have lD : (limbs D).length ≤ 16384 := by rw [hD, limbs_val fy, h2.len]; exact ly
   have lN2 := len_div N (Nat.gcd N D)
   have lD2 := len_div D (Nat.gcd N D)
   have hsg : nzB (nzB s N != false) N = nzB s N := by unfold nzB; cases s <;> cases decide (N ≠ 0) <;> rfl
   have hl1 : lngB (N / Nat.gcd N D) = false := decide_eq_false (by omega)
   have hl2 : lngB (D / Nat.gcd N D) = false := decide_eq_false (by omega)
   have HN := Lib.hid (And.intro hN hD)
   clear hN hD
   generalize hG : Nat.gcd N D = G at lN2 lD2 hl1 hl2
   have HG := Lib.hid hG
   clear hG
   have cF := bgSetFrac_any wc.heap.size w.heap.size w2.heap.size w2.heap.size b1 b2 (nzB s N) false o3 o2 k3 k2 e3 e2 N D (wc.alloc (.cells #[.bool false, .slice none 0 0, .slice none 0 0] 88)) (box3_new wc _ _ _ _).res (J1.stay (more (Below.refl _ _) _)) (J2.stay (more (Below.refl _ _) _)) (Nat.ne_of_lt J1.lt) (Nat.ne_of_lt J2.lt) hD0 (Nat.le_trans hW.size hWd.size) (by omega) (by omega) (hT2.alloc _)
   rw [hsg, HG.out] at cF
   have hV := next hW hWd
   go_wp2_with fail
   refine cF.mono ?_
   rintro en w5 ⟨rfl, hR, hg⟩
   have hb5 : Below wc.heap.size wc w5 := (more (Below.refl _ _) _).grown hg (by simp) (by intro k hk; cases hk; exact Nat.le_refl _)
   have J5 := J2.stay hb5
   replace hV := next hV hb5
   replace dd := dd.stay hb5
   have cD : ∀ W : World, Below w5.heap.size w5 W → Calls Tryz.prog 125 #[.pointer (some ⟨wc.heap.size, 0, none⟩)] W (MkI 40 false (D / G) W) := fun W hW => bgRDenom_any wc.heap.size w.heap.size (nzB s N) (N / G) (D / G) W (hR.stay hW) (by omega)
   go_wp2_with fail
   refine (rtTold_yes wc.heap.size w.heap.size (nzB s N) (N / G) (D / G) w5 hR (by omega) (by omega) hl1 hl2).mono ?_
   rintro en w6 ⟨a3, n3, c3, a4, n4, c4, rfl, F3, F4, hap, hb6⟩
   have m3 := F3.sl.len
   have m4 := F4.sl.len
   have J6 := J5.stay hb6
   replace hV := next hV hb6
   replace dd := dd.stay hb6
   have ⟨g3, g4, g5, _, _, _⟩ := dd
   clear cF hg f3 f4 f5
   have hb6' : Below w5.heap.size w5 (w6.alloc (.cells #[.bool (nzB (nzB s N) (N / G)), .slice a3 n3 c3, .slice a4 n4 c4] 29)) := more hb6 _
   have hs : nzB (nzB s N) (N / G) = nzB s N := by rw [← HG.out]; exact nz_div s N D
   rw [hs] at hb6' ⊢
   have e0 := box3_new w6 (.bool (nzB s N)) (.slice a3 n3 c3) (.slice a4 n4 c4) 29
   have dd' := dd.alloc (.cells #[.bool (nzB s N), .slice a3 n3 c3, .slice a4 n4 c4] 29)
   have hV' := more hV (.cells #[.bool (nzB s N), .slice a3 n3 c3, .slice a4 n4 c4] 29)
   have J7 := J6.stay (more (Below.refl _ _) (.cells #[.bool (nzB s N), .slice a3 n3 c3, .slice a4 n4 c4] 29))
   go_upto_region 8 with fail
   generalize w6.alloc (.cells #[.bool (nzB s N), .slice a3 n3 c3, .slice a4 n4 c4] 29) = w7 at e0 dd' hV' J7 hb6' ⊢
   have kS : ∀ w' : World, Below w7.heap.size w7 w' → (w'.cell? ⟨w.heap.size, 0, none⟩ = some (.bool s) ∧ w'.cell? ⟨w.heap.size, 1, none⟩ = some (.slice a1 n1 c1) ∧ w'.cell? ⟨w.heap.size, 2, none⟩ = some (.slice a2 n2 c2) ∧ w'.cell? ⟨w6.heap.size, 0, none⟩ = some (.bool (nzB s N)) ∧ w'.cell? ⟨w6.heap.size, 1, none⟩ = some (.slice a3 n3 c3) ∧ w'.cell? ⟨w6.heap.size, 2, none⟩ = some (.slice a4 n4 c4) ∧ Below w7.heap.size w7 w') := fun w' hb => ⟨cellStay dd'.c0 hb, cellStay dd'.c1 hb, cellStay dd'.c2 hb, cellStay e0.c0 hb, cellStay e0.c1 hb, cellStay e0.c2 hb, hb⟩
   go_cut [61] from 46 (fun v61 wx => v61 = .bool (!ratB s xs ys) ∧ Below w7.heap.size w7 wx)
   case first =>
    have hD0' : 0 < D := Nat.pos_of_ne_zero hD0
    have lk2 := look_stood
    by_cases hA : s = true ∧ N = 0
    · obtain ⟨rfl, rfl⟩ := hA
      have hrb : Hid (ratB true xs ys = false) := Lib.hid (decide_eq_false (fun h => h.2.2.2.2 rfl HN.out.1.symm))
      change Box3 w7 w6.heap.size (.bool false) _ _ at e0
      replace kS : ∀ w' : World, Below w7.heap.size w7 w' → (w'.cell? ⟨w.heap.size, 0, none⟩ = some (.bool true) ∧ w'.cell? ⟨w.heap.size, 1, none⟩ = some (.slice a1 n1 c1) ∧ w'.cell? ⟨w.heap.size, 2, none⟩ = some (.slice a2 n2 c2) ∧ w'.cell? ⟨w6.heap.size, 0, none⟩ = some (.bool false) ∧ w'.cell? ⟨w6.heap.size, 1, none⟩ = some (.slice a3 n3 c3) ∧ w'.cell? ⟨w6.heap.size, 2, none⟩ = some (.slice a4 n4 c4) ∧ Below w7.heap.size w7 w') := kS
      have ⟨v0, v1, v2, v3, v4, v5, _⟩ := kS _ (Below.refl _ _)
      first
      | (go_region_with (first
          | (go_at_call 124; (with_reducible refine (rtSeen_any (false) a3 a4 n3 n4 c3 c4 _).mono ?_); rintro en wA ⟨rfl, hbA⟩; have hWA : Below w7.heap.size w7 wA := (by first | exact hbA | exact undrew hbA); have ⟨x0, x1, x2, x3, x4, x5, _⟩ := kS _ hWA)
          | (go_at_call 124; (with_reducible refine (rtSeen_any true a1 a2 n1 n2 c1 c2 _).mono ?_); rintro en wB ⟨rfl, hbB⟩; have hWB := next hWA hbB; have ⟨y0, y1, y2, y3, y4, y5, _⟩ := kS _ hWB)))
      | fail "no"
      all_goals go_wp2
      all_goals go_meet
      all_goals exact ⟨by rw [hrb.out]; rfl, by assumption⟩
    · have hsz : nzB s N = s := by
       unfold nzB
       cases s
       · rfl
       · have : N ≠ 0 := fun h => hA ⟨rfl, h⟩
         simp [this]
      rw [hsz] at kS e0
      have hA' := Lib.hid hA
      clear hA hsz
      have hss : (s == s) = true := by simp
      by_cases hB : n3 = n1
      · by_cases hC : n4 = n2
        · obtain rfl : n1 = n3 := hB.symm
          obtain rfl : n2 = n4 := hC.symm
          have cD7 : ∀ W : World, Below w7.heap.size w7 W → Calls Tryz.prog 125 #[.pointer (some ⟨wc.heap.size, 0, none⟩)] W (MkI 40 false (D / G) W) := fun W hW => cD W (next hb6' hW)
          have cQ7 : ∀ (W : World) (bC : Nat) (aC : Option Addr) (kC cC B : Nat), In 40 W B bC false aC kC cC (D / G) → Below w7.heap.size w7 W → Calls Tryz.prog 126 #[.pointer (some ⟨bC, 0, none⟩), .pointer (some ⟨b2, 0, none⟩)] W fun e w' => e = .returned (.int .i64 (cmpN (D / G) D)) ∧ Below W.heap.size W w' := fun W bC aC kC cC B hI hW => bgICmp_any _ _ bC b2 aC o2 kC k2 cC e2 (D / G) D W hI (J7.stay hW)
          by_cases hq : cmpN (D / G) D = 0
          · have hq' : (cmpN (D / G) D == 0) = true := by simp [hq]
            have hrb : Hid (ratB s xs ys = true) := Lib.hid (decide_eq_true ⟨H.out.1, H.out.2.1, by rw [h2.len]; exact H.out.2.2, by rw [← HN.out.1, ← HN.out.2, HG.out]; exact cmp_div hD0 (by rw [← HG.out]; exact Nat.gcd_dvd_right _ _) hq, fun hs hv => hA'.out ⟨hs, HN.out.1.trans hv⟩⟩)
            clear hq
            generalize cmpN (D / G) D = cv at hq' cQ7
            have ⟨v0, v1, v2, v3, v4, v5, _⟩ := kS _ (Below.refl _ _)
            first
            | (go_region_with (first
                    | (go_at_call 124; (with_reducible refine (rtSeen_any (s) a3 a4 n1 n2 c3 c4 _).mono ?_); rintro en wA ⟨rfl, hbA⟩; have hWA : Below w7.heap.size w7 wA := (by first | exact hbA | exact undrew hbA); have ⟨x0, x1, x2, x3, x4, x5, _⟩ := kS _ hWA)
                    | (go_at_call 124; (with_reducible refine (rtSeen_any s a1 a2 n1 n2 c1 c2 _).mono ?_); rintro en wB ⟨rfl, hbB⟩; have hWB := next hWA hbB; have ⟨y0, y1, y2, y3, y4, y5, _⟩ := kS _ hWB)
                    | (go_at_call 125; (with_reducible refine (cD7 _ hWB).mono ?_); rintro en wC ⟨bC, aC, kC, cC, rfl, hIC, hbC⟩; have hWC := next hWB hbC)
                    | (go_at_call 126; (with_reducible refine (cQ7 _ bC aC kC cC _ hIC hWC).mono ?_); rintro en wD ⟨rfl, hbD⟩; have hWD := next hWC hbD)))
            | fail "no"
            all_goals go_wp2
            all_goals go_meet
            all_goals exact ⟨by rw [hrb.out]; simp [bne, hq'], by assumption⟩
          · have hq' : (cmpN (D / G) D == 0) = false := by simp [hq]
            have hrb : Hid (ratB s xs ys = false) := Lib.hid (decide_eq_false (fun h => hq (by rw [← HG.out, HN.out.1, HN.out.2, h.2.2.2.1, Nat.div_one]; exact cmpN_eq rfl)))
            clear hq
            generalize cmpN (D / G) D = cv at hq' cQ7
            have ⟨v0, v1, v2, v3, v4, v5, _⟩ := kS _ (Below.refl _ _)
            first
            | (go_region_with (first
                    | (go_at_call 124; (with_reducible refine (rtSeen_any (s) a3 a4 n1 n2 c3 c4 _).mono ?_); rintro en wA ⟨rfl, hbA⟩; have hWA : Below w7.heap.size w7 wA := (by first | exact hbA | exact undrew hbA); have ⟨x0, x1, x2, x3, x4, x5, _⟩ := kS _ hWA)
                    | (go_at_call 124; (with_reducible refine (rtSeen_any s a1 a2 n1 n2 c1 c2 _).mono ?_); rintro en wB ⟨rfl, hbB⟩; have hWB := next hWA hbB; have ⟨y0, y1, y2, y3, y4, y5, _⟩ := kS _ hWB)
                    | (go_at_call 125; (with_reducible refine (cD7 _ hWB).mono ?_); rintro en wC ⟨bC, aC, kC, cC, rfl, hIC, hbC⟩; have hWC := next hWB hbC)
                    | (go_at_call 126; (with_reducible refine (cQ7 _ bC aC kC cC _ hIC hWC).mono ?_); rintro en wD ⟨rfl, hbD⟩; have hWD := next hWC hbD)))
            | fail "no"
            all_goals go_wp2
            all_goals go_meet
            all_goals exact ⟨by rw [hrb.out]; simp [bne, hq'], by assumption⟩
        · obtain rfl : n1 = n3 := hB.symm
          have hC' : ((n4 : Int) == (n2 : Int)) = false := by simp; omega
          have hrb : Hid (ratB s xs ys = false) := Lib.hid (decide_eq_false (fun h => hC (by rw [← m4, ← h2.len, ← limbs_val fy, ← HN.out.2, ← HG.out, HN.out.1, HN.out.2, h.2.2.2.1, Nat.div_one])))
          clear hC
          have ⟨v0, v1, v2, v3, v4, v5, _⟩ := kS _ (Below.refl _ _)
          first
          | (go_region_with (first
              | (go_at_call 124; (with_reducible refine (rtSeen_any (s) a3 a4 n1 n4 c3 c4 _).mono ?_); rintro en wA ⟨rfl, hbA⟩; have hWA : Below w7.heap.size w7 wA := (by first | exact hbA | exact undrew hbA); have ⟨x0, x1, x2, x3, x4, x5, _⟩ := kS _ hWA)
              | (go_at_call 124; (with_reducible refine (rtSeen_any s a1 a2 n1 n2 c1 c2 _).mono ?_); rintro en wB ⟨rfl, hbB⟩; have hWB := next hWA hbB; have ⟨y0, y1, y2, y3, y4, y5, _⟩ := kS _ hWB)))
          | fail "no"
          all_goals go_wp2
          all_goals go_meet
          all_goals exact ⟨by rw [hrb.out]; rfl, by assumption⟩
      · have hB' : ((n3 : Int) == (n1 : Int)) = false := by simp; omega
        have hrb : Hid (ratB s xs ys = false) := Lib.hid (decide_eq_false (fun h => hB (by rw [← m3, ← h1.len, ← limbs_val fx, ← HN.out.1, ← HG.out, HN.out.1, HN.out.2, h.2.2.2.1, Nat.div_one])))
        clear hB
        have ⟨v0, v1, v2, v3, v4, v5, _⟩ := kS _ (Below.refl _ _)
        first
        | (go_region_with (first
            | (go_at_call 124; (with_reducible refine (rtSeen_any (s) a3 a4 n3 n4 c3 c4 _).mono ?_); rintro en wA ⟨rfl, hbA⟩; have hWA : Below w7.heap.size w7 wA := (by first | exact hbA | exact undrew hbA); have ⟨x0, x1, x2, x3, x4, x5, _⟩ := kS _ hWA)
            | (go_at_call 124; (with_reducible refine (rtSeen_any s a1 a2 n1 n2 c1 c2 _).mono ?_); rintro en wB ⟨rfl, hbB⟩; have hWB := next hWA hbB; have ⟨y0, y1, y2, y3, y4, y5, _⟩ := kS _ hWB)))
        | fail "no"
        all_goals go_wp2
        all_goals go_meet
        all_goals exact ⟨by rw [hrb.out]; rfl, by assumption⟩
   case rest =>
    obtain ⟨rfl, hWe⟩ := hcut
    have hWf := next hV' hWe
    by_cases hrb : ratB s xs ys = true
    · have HR := Lib.hid hrb
      rw [hrb]
      go_wp2
      go_ret2
      refine .inl ⟨HR.out, _, rfl, ?_, hWf⟩
      have hRf := (hR.stay hb6').stay hWe
      have hg1 : G = 1 := by
       rw [← HG.out, HN.out.1, HN.out.2]
       exact (of_decide_eq_true HR.out).2.2.2.1
      have hsz : nzB s N = s := by
       unfold nzB
       cases s
       · rfl
       · have : N ≠ 0 := fun h => (of_decide_eq_true HR.out).2.2.2.2 rfl (HN.out.1.symm.trans h)
         simp [this]
      rw [hsz, hg1, Nat.div_one, Nat.div_one, HN.out.1, HN.out.2] at hRf
      exact hRf
    · have HR : Hid (ratB s xs ys = false) := Lib.hid (by simpa using hrb)
      rw [HR.out]
      go_wp2
      go_ret2
      exact taken_no HR.out hWf
theorem rtTaken_any (s : Bool) (a1 a2 : Option Addr) (n1 n2 c1 c2 : Nat) (xs ys : List Nat) (w : World) (h1 : Sl w a1 n1 c1 xs) (h2 : Sl w a2 n2 c2 ys) (hT : Tab w) :
 Calls Tryz.prog 81 #[.agg #[.bool s, .slice a1 n1 c1, .slice a2 n2 c2]] w (TakenA s xs ys w) := by
 by_cases hx : chk xs = 0
 · by_cases hy : chk ys = 0
   · by_cases hn : n2 = 0
     · subst hn
       exact rtTaken_z s a1 a2 n1 c1 c2 xs ys w h1 h2 hx hy
     · exact rtTaken_ok s a1 a2 n1 n2 c1 c2 xs ys w h1 h2 hx hy hn hT
   · exact rtTaken_y s a1 a2 n1 n2 c1 c2 xs ys w h1 h2 hx hy
 · exact rtTaken_x s a1 a2 n1 n2 c1 c2 xs ys w h1 hx
def ratE (s : Bool) (xs ys : List Nat) : Int := if ratB s xs ys = true then 0 else 20
theorem rtCheck_any (s : Bool) (a1 a2 : Option Addr) (n1 n2 c1 c2 : Nat) (xs ys : List Nat) (w : World) (h1 : Sl w a1 n1 c1 xs) (h2 : Sl w a2 n2 c2 ys) (hT : Tab w) :
 Calls Tryz.prog 46 #[.agg #[.bool s, .slice a1 n1 c1, .slice a2 n2 c2]] w fun e w' => e = .returned (.int .i64 (ratE s xs ys)) ∧ Below w.heap.size w w' := by
 go_enter Tryz.func46, Tryz.ntmps46
 go_wp2_with fail
 have hM := more (Below.refl w.heap.size w) (.cells #[.bool s, .slice a1 n1 c1, .slice a2 n2 c2] 29)
 refine (rtTaken_any s a1 a2 n1 n2 c1 c2 xs ys _ (h1.below hM) (h2.below hM) (hT.below hM)).mono ?_
 rintro e w1 (⟨hB, b, rfl, -, hb⟩ | ⟨hB, rfl, hb⟩)
 · have hE : Hid (ratE s xs ys = 0) := Lib.hid (by unfold ratE; rw [if_pos hB])
   go_wp2
   go_ret
   exact ⟨by rw [hE.out]; rfl, next hM hb⟩
 · have hE : Hid (ratE s xs ys = 20) := Lib.hid (by unfold ratE; rw [if_neg (by rw [hB]; decide)])
   go_wp2
   go_ret
   exact ⟨by rw [hE.out]; rfl, next hM hb⟩
end Go.Proofs.YtpmncmglmobjoaaGreatDoor
