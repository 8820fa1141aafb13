/-
  Contracts: taken, Check of ratio.
-/
import Derived.Test.YtklibjdhlmdkpaaGreatDoorQbBRtD
import Derived.Test.YtklibjdhlmdkpaaGreatDoorQbBMB1
import Derived.Laws.StructEq
import Derived.Test.YtklibjdhlmdkpaaGreatDoorQbBNbI
import Derived.Test.YtklibjdhlmdkpaaGreatDoorQbBRvG
import Derived.Test.YtklibjdhlmdkpaaGreatDoorQbBRdB
import Derived.Test.YtklibjdhlmdkpaaGreatDoorQbBMB17
import Derived.Deep.RegionHeld3
namespace Go.Proofs.YtklibjdhlmdkpaaGreatDoor

open Go.RowKit Go.Lb

/-- May it be a fraction? -/
def ratB (s : Bool) (xs ys : List Nat) : Bool := decide (chk xs = 0 ∧ chk ys = 0 ∧ ys.length ≠ 0 ∧ Nat.gcd (val xs) (val ys) = 1 ∧ (s = true → val xs ≠ 0))

theorem len_div (N G : Nat) : (limbs (N / G)).length ≤ (limbs N).length := limbs_length_le (Nat.lt_of_le_of_lt (Nat.div_le_self N G) (lt_of_limbs_length (Nat.le_refl _)))

theorem nz_div (s : Bool) (N D : Nat) : nzB (nzB s N) (N / Nat.gcd N D) = nzB s N := by
  unfold nzB
  by_cases h : N = 0
  · simp [h]
  · have : N / Nat.gcd N D ≠ 0 := Nat.ne_of_gt (Nat.div_pos (Nat.gcd_le_left D (Nat.pos_of_ne_zero h)) (Nat.gcd_pos_of_pos_left _ (Nat.pos_of_ne_zero h)))
    simp [h, this]

theorem look_stood : Tryz.prog.stoodInHeld 318 = false := by kernel_rfl

theorem cmp_div {D G : Nat} (hD : D ≠ 0) (hd : G ∣ D) (h : cmpN (D / G) D = 0) : G = 1 := by
  have e : D / G = D := by
    unfold cmpN at h
    split at h
    · cases h
    · split at h
      · cases h
      · omega
  have h1 := Nat.div_mul_cancel hd
  rw [e] at h1
  exact Nat.eq_of_mul_eq_mul_left (Nat.pos_of_ne_zero hD) (by rw [h1, Nat.mul_one])

/-- What taken answers. -/
def TakenA (s : Bool) (xs ys : List Nat) (w : World) (en : Ending) (w' : World) : Prop :=
  (ratB s xs ys = true ∧ ∃ b, en = .returned (.tuple #[.pointer (some ⟨b, 0, none⟩), .int .i64 0]) ∧ Ra 38 w' w.heap.size b s (val xs) (val ys) ∧ Below w.heap.size w w') ∨
  (ratB s xs ys = false ∧ en = .returned (.tuple #[.pointer none, .int .i64 20]) ∧ Below w.heap.size w w')

theorem taken_no {s : Bool} {xs ys : List Nat} {w w' : World} (h : ratB s xs ys = false) (hb : Below w.heap.size w w') : TakenA s xs ys w (.returned (.tuple #[.pointer none, .int .i64 20])) w' := .inr ⟨h, rfl, hb⟩

set_option maxRecDepth 100000 in
set_option maxHeartbeats 2000000 in
theorem rtTaken_x (s : Bool) (a1 a2 : Option Addr) (n1 n2 c1 c2 : Nat) (xs ys : List Nat) (w : World) (h1 : Sl w a1 n1 c1 xs) (hx : chk xs ≠ 0) :
    Calls Tryz.prog 259 #[.agg #[.bool s, .slice a1 n1 c1, .slice a2 n2 c2]] w (TakenA s xs ys w) := by
  have hcB : (chk xs != 0) = true := by simp [hx]
  have hr : Hid (ratB s xs ys = false) := Lib.hid (decide_eq_false (fun h => hx h.1))
  clear hx
  go_enter Tryz.func259, Tryz.ntmps259
  go_wp2_with fail
  refine (natCheck_any _ n1 c1 xs _ (h1.alloc _)).mono ?_
  rintro e w1 ⟨rfl, hb1⟩
  have hW := next (more (Below.refl _ _) _) hb1
  go_wp2
  go_ret2
  exact taken_no hr.out hW

set_option maxRecDepth 100000 in
set_option maxHeartbeats 2000000 in
theorem rtTaken_y (s : Bool) (a1 a2 : Option Addr) (n1 n2 c1 c2 : Nat) (xs ys : List Nat) (w : World) (h1 : Sl w a1 n1 c1 xs) (h2 : Sl w a2 n2 c2 ys) (hx : chk xs = 0) (hy : chk ys ≠ 0) :
    Calls Tryz.prog 259 #[.agg #[.bool s, .slice a1 n1 c1, .slice a2 n2 c2]] w (TakenA s xs ys w) := by
  have hcB : (chk xs != 0) = false := by simp [hx]
  have hcC : (chk ys != 0) = true := by simp [hy]
  have hr : Hid (ratB s xs ys = false) := Lib.hid (decide_eq_false (fun h => hy h.2.1))
  clear hx hy
  go_enter Tryz.func259, Tryz.ntmps259
  go_wp2_with fail
  refine (natCheck_any _ n1 c1 xs _ (h1.alloc _)).mono ?_
  rintro e w1 ⟨rfl, hb1⟩
  have hW := next (more (Below.refl _ _) _) hb1
  have ⟨d0, d1, d2, _, _, _⟩ := (box3_new w (.bool s) (.slice a1 n1 c1) (.slice a2 n2 c2) 131).stay hb1
  go_wp2_with fail
  refine (natCheck_any _ n2 c2 ys _ (h2.below hW)).mono ?_
  rintro e w2 ⟨rfl, hb2⟩
  replace hW := next hW hb2
  go_wp2
  go_ret2
  exact taken_no hr.out hW

set_option maxRecDepth 100000 in
set_option maxHeartbeats 2000000 in
theorem rtTaken_z (s : Bool) (a1 a2 : Option Addr) (n1 c1 c2 : Nat) (xs ys : List Nat) (w : World) (h1 : Sl w a1 n1 c1 xs) (h2 : Sl w a2 0 c2 ys) (hx : chk xs = 0) (hy : chk ys = 0) :
    Calls Tryz.prog 259 #[.agg #[.bool s, .slice a1 n1 c1, .slice a2 0 c2]] w (TakenA s xs ys w) := by
  have hcB : (chk xs != 0) = false := by simp [hx]
  have hcC : (chk ys != 0) = false := by simp [hy]
  have hr : Hid (ratB s xs ys = false) := Lib.hid (decide_eq_false (fun h => h.2.2.1 h2.len))
  clear hx hy
  go_enter Tryz.func259, Tryz.ntmps259
  go_wp2_with fail
  refine (natCheck_any _ n1 c1 xs _ (h1.alloc _)).mono ?_
  rintro e w1 ⟨rfl, hb1⟩
  have hW := next (more (Below.refl _ _) _) hb1
  have d := (box3_new w (.bool s) (.slice a1 n1 c1) (.slice a2 0 c2) 131).stay hb1
  have ⟨d0, d1, d2, _, _, _⟩ := d
  go_wp2_with fail
  refine (natCheck_any _ 0 c2 ys _ (h2.below hW)).mono ?_
  rintro e w2 ⟨rfl, hb2⟩
  replace hW := next hW hb2
  have ⟨d3, d4, d5, _, _, _⟩ := d.stay hb2
  go_wp2
  go_ret2
  exact taken_no hr.out hW

set_option maxRecDepth 100000 in
set_option maxHeartbeats 4000000 in
theorem rtTaken_ok (s : Bool) (a1 a2 : Option Addr) (n1 n2 c1 c2 : Nat) (xs ys : List Nat) (w : World) (h1 : Sl w a1 n1 c1 xs) (h2 : Sl w a2 n2 c2 ys) (hx : chk xs = 0) (hy : chk ys = 0) (hn2 : n2 ≠ 0) (hT : Tab w) :
    Calls Tryz.prog 259 #[.agg #[.bool s, .slice a1 n1 c1, .slice a2 n2 c2]] w (TakenA s xs ys w) := by
  have hcB : (chk xs != 0) = false := by simp [hx]
  have hcC : (chk ys != 0) = false := by simp [hy]
  have hcD : ((n2 : Int) == 0) = false := by simp [hn2]
  have fx := fine_of_chk h1.ok hx
  have fy := fine_of_chk h2.ok hy
  have lx := chk_zero_len hx
  have ly := chk_zero_len hy
  rw [h1.len] at lx
  rw [h2.len] at ly
  have cA : ∀ W : World, Below w.heap.size w W → Calls Tryz.prog 295 #[.agg #[.slice a1 n1 c1]] W (MkI 38 false (val xs) W) := fun W hW => rtWhole_any a1 n1 c1 xs W (h1.below hW) fx lx
  have cB : ∀ W : World, Below w.heap.size w W → Calls Tryz.prog 295 #[.agg #[.slice a2 n2 c2]] W (MkI 38 false (val ys) W) := fun W hW => rtWhole_any a2 n2 c2 ys W (h2.below hW) fy ly
  have H := Lib.hid (And.intro hx (And.intro hy hn2))
  clear hx hy hn2
  go_enter Tryz.func259, Tryz.ntmps259
  go_wp2_with fail
  refine (natCheck_any _ n1 c1 xs _ (h1.alloc _)).mono ?_
  rintro e w1 ⟨rfl, hb1⟩
  have hW := next (more (Below.refl _ _) _) hb1
  have d := (box3_new w (.bool s) (.slice a1 n1 c1) (.slice a2 n2 c2) 131).stay hb1
  have ⟨d0, d1, d2, _, _, _⟩ := d
  go_wp2_with fail
  refine (natCheck_any _ n2 c2 ys _ (h2.below hW)).mono ?_
  rintro e w2 ⟨rfl, hb2⟩
  replace hW := next hW hb2
  replace d := d.stay hb2
  have ⟨d3, d4, d5, dz3, dz4, dz5⟩ := d
  clear hb1 d0 d1 d2
  go_wp2_with fail
  have kS : ∀ w' : World, Below w2.heap.size w2 w' → (w'.cell? ⟨w.heap.size, 0, none⟩ = some (.bool s) ∧ w'.cell? ⟨w.heap.size, 1, none⟩ = some (.slice a1 n1 c1) ∧ w'.cell? ⟨w.heap.size, 2, none⟩ = some (.slice a2 n2 c2) ∧ Below w2.heap.size w2 w') := fun w' hb => ⟨cellStay d.c0 hb, cellStay d.c1 hb, cellStay d.c2 hb, hb⟩
  go_cut [4, 5] from 26 (fun v4 v5 wx => ∃ (b1 b2 : Nat) (o1 o2 : Option Addr) (k1 k2 e1 e2 : Nat), v4 = .pointer (some ⟨b1, 0, none⟩) ∧ v5 = .pointer (some ⟨b2, 0, none⟩) ∧ In 38 wx w2.heap.size b1 false o1 k1 e1 (val xs) ∧ In 38 wx w2.heap.size b2 false o2 k2 e2 (val ys) ∧ b1 ≠ b2 ∧ blkOf o2 ≠ some b1 ∧ Below w2.heap.size w2 wx)
  case first =>
    go_region_held3 (fun w' => w'.cell? ⟨w.heap.size, 0, none⟩ = some (.bool s) ∧ w'.cell? ⟨w.heap.size, 1, none⟩ = some (.slice a1 n1 c1) ∧ w'.cell? ⟨w.heap.size, 2, none⟩ = some (.slice a2 n2 c2) ∧ Below w2.heap.size w2 w')
      ((refine kS _ ?_; (repeat (with_reducible (first | exact hWB | exact hWA | exact Below.refl _ _ | refine Below.drew ?_))); done))
      (first
        | (go_at_call 295; (with_reducible refine (cA _ ?_).mono ?_); (go_split_ands; exact next hW (by assumption)); rintro en wA ⟨b1, o1, k1, e1, rfl, hI1, hbA⟩; have hWA : Below w2.heap.size w2 wA := (by go_split_ands; exact next (by assumption) hbA))
        | (go_at_call 295; (with_reducible refine (cB _ ?_).mono ?_); (go_split_ands; exact next hW (by assumption)); rintro en wB ⟨b2, o2, k2, e2, rfl, hI2, hbB⟩; have hWB : Below w2.heap.size w2 wB := (by go_split_ands; exact next (by assumption) hbB); have hAB : Below wA.heap.size wA wB := (by first | exact hbB | exact undrew hbB)))
    all_goals go_split_ands
    all_goals go_wp2
    all_goals go_meet
    all_goals
      have l1 := hI1.lt
      have l2 := hI2.hb
      have l3 := hWA.size
      have hne : blkOf o2 ≠ some b1 := fun h => by
        have := (fr_lt hI2.fr h).1
        omega
      exact ⟨b1, b2, o1, o2, k1, k2, e1, e2, rfl, rfl, (hI1.stay hAB).mono (by first | exact Nat.le_refl _ | (simp; done)), hI2.mono (by omega), by omega, hne, hWB⟩
  case rest =>
    obtain ⟨b1, b2, o1, o2, k1, k2, e1, e2, rfl, rfl, I1, I2, hne, hno, hWc⟩ := hcut
    have hk1 : k1 ≤ 16384 := by rw [← I1.fr.sl.len, limbs_val fx, h1.len]; exact lx
    have hk2 : k2 ≤ 16384 := by rw [← I2.fr.sl.len, limbs_val fy, h2.len]; exact ly
    have dc := d.stay hWc
    have ⟨f3, f4, f5, _, _, _⟩ := dc
    go_upto_if 33 with fail
    go_cut [4, 5] from 34 (fun v4 v5 wx => ∃ (o1 : Option Addr) (k1 e1 : Nat), v4 = .pointer (some ⟨b1, 0, none⟩) ∧ v5 = .pointer (some ⟨b2, 0, none⟩) ∧ k1 ≤ 16384 ∧ In 38 wx w2.heap.size b1 (nzB s (val xs)) o1 k1 e1 (val xs) ∧ In 38 wx w2.heap.size b2 false o2 k2 e2 (val ys) ∧ Below w2.heap.size w2 wx)
    case first =>
      cases s
      · go_wp2
        go_meet
        exact ⟨o1, k1, e1, rfl, rfl, hk1, I1, I2, hWc⟩
      · go_wp2_with (go_at_call 296; refine (bgNeg_any b1 w2.heap.size w2.heap.size b1 false o1 k1 e1 (val xs) _ I1.zc hWc.size I1 (by omega)).mono ?_; rintro en w4 hS; obtain ⟨o3, k3, e3, rfl, I3, hg⟩ := hS.in_ I1.zc I1.hb)
        go_meet
        exact ⟨o3, k3, e3, rfl, rfl, by rw [← I3.fr.sl.len, limbs_val fx, h1.len]; exact lx, I3, I2.other hg (fun e => hne e.symm) hno, hWc.grown hg hWc.size (by intro k hk; cases hk; exact I1.hb)⟩
    case rest =>
      clear hno hWc I1 I2 dc f3 f4 f5 hk1 cA cB kS
      obtain ⟨o3, k3, e3, rfl, rfl, hk3, J1, J2, hWd⟩ := hcut
      have dd := d.stay hWd
      have ⟨f3, f4, f5, _, _, _⟩ := dd
      have hT2 := (hT.below hW).below hWd
      obtain ⟨N, hN⟩ : ∃ N, N = val xs := ⟨_, rfl⟩
      obtain ⟨D, hD⟩ : ∃ D, D = val ys := ⟨_, rfl⟩
      rw [← hN] at J1
      rw [← hD] at J2
      have hD0 : D ≠ 0 := fun h => H.out.2.2 (by rw [← h2.len, ← limbs_val fy, ← hD, h, limbs_zero]; rfl)
      have lN : (limbs N).length ≤ 16384 := by rw [hN, limbs_val fx, h1.len]; exact lx
      have lD : (limbs D).length ≤ 16384 := by rw [hD, limbs_val fy, h2.len]; exact ly
      have lN2 := len_div N (Nat.gcd N D)
      have lD2 := len_div D (Nat.gcd N D)
      have hsg : nzB (nzB s N != false) N = nzB s N := by unfold nzB; cases s <;> cases decide (N ≠ 0) <;> rfl
      have hl1 : lngB (N / Nat.gcd N D) = false := decide_eq_false (by omega)
      have hl2 : lngB (D / Nat.gcd N D) = false := decide_eq_false (by omega)
      have HN := Lib.hid (And.intro hN hD)
      clear hN hD
      generalize hG : Nat.gcd N D = G at lN2 lD2 hl1 hl2
      have HG := Lib.hid hG
      clear hG
      have cF := bgSetFrac_any wc.heap.size w.heap.size w2.heap.size w2.heap.size b1 b2 (nzB s N) false o3 o2 k3 k2 e3 e2 N D (wc.alloc (.cells #[.bool false, .slice none 0 0, .slice none 0 0] 314)) (box3_new wc _ _ _ _).res (J1.stay (more (Below.refl _ _) _)) (J2.stay (more (Below.refl _ _) _)) (Nat.ne_of_lt J1.lt) (Nat.ne_of_lt J2.lt) hD0 (Nat.le_trans hW.size hWd.size) (by omega) (by omega) (hT2.alloc _)
      rw [hsg, HG.out] at cF
      have hV := next hW hWd
      go_wp2_with fail
      refine cF.mono ?_
      rintro en w5 ⟨rfl, hR, hg⟩
      have hb5 : Below wc.heap.size wc w5 := (more (Below.refl _ _) _).grown hg (by simp) (by intro k hk; cases hk; exact Nat.le_refl _)
      have J5 := J2.stay hb5
      replace hV := next hV hb5
      replace dd := dd.stay hb5
      have cD : ∀ W : World, Below w5.heap.size w5 W → Calls Tryz.prog 300 #[.pointer (some ⟨wc.heap.size, 0, none⟩)] W (MkI 38 false (D / G) W) := fun W hW => bgRDenom_any wc.heap.size w.heap.size (nzB s N) (N / G) (D / G) W (hR.stay hW) (by omega)
      go_wp2_with fail
      refine (rtTold_yes wc.heap.size w.heap.size (nzB s N) (N / G) (D / G) w5 hR (by omega) (by omega) hl1 hl2).mono ?_
      rintro en w6 ⟨a3, n3, c3, a4, n4, c4, rfl, F3, F4, hap, hb6⟩
      have m3 := F3.sl.len
      have m4 := F4.sl.len
      have J6 := J5.stay hb6
      replace hV := next hV hb6
      replace dd := dd.stay hb6
      have ⟨g3, g4, g5, _, _, _⟩ := dd
      clear cF hg f3 f4 f5
      have hb6' : Below w5.heap.size w5 (w6.alloc (.cells #[.bool (nzB (nzB s N) (N / G)), .slice a3 n3 c3, .slice a4 n4 c4] 131)) := more hb6 _
      have hs : nzB (nzB s N) (N / G) = nzB s N := by rw [← HG.out]; exact nz_div s N D
      rw [hs] at hb6' ⊢
      have e0 := box3_new w6 (.bool (nzB s N)) (.slice a3 n3 c3) (.slice a4 n4 c4) 131
      have dd' := dd.alloc (.cells #[.bool (nzB s N), .slice a3 n3 c3, .slice a4 n4 c4] 131)
      have hV' := more hV (.cells #[.bool (nzB s N), .slice a3 n3 c3, .slice a4 n4 c4] 131)
      have J7 := J6.stay (more (Below.refl _ _) (.cells #[.bool (nzB s N), .slice a3 n3 c3, .slice a4 n4 c4] 131))
      go_upto_region 8 with fail
      generalize w6.alloc (.cells #[.bool (nzB s N), .slice a3 n3 c3, .slice a4 n4 c4] 131) = w7 at e0 dd' hV' J7 hb6' ⊢
      have kS : ∀ w' : World, Below w7.heap.size w7 w' → (w'.cell? ⟨w.heap.size, 0, none⟩ = some (.bool s) ∧ w'.cell? ⟨w.heap.size, 1, none⟩ = some (.slice a1 n1 c1) ∧ w'.cell? ⟨w.heap.size, 2, none⟩ = some (.slice a2 n2 c2) ∧ w'.cell? ⟨w6.heap.size, 0, none⟩ = some (.bool (nzB s N)) ∧ w'.cell? ⟨w6.heap.size, 1, none⟩ = some (.slice a3 n3 c3) ∧ w'.cell? ⟨w6.heap.size, 2, none⟩ = some (.slice a4 n4 c4) ∧ Below w7.heap.size w7 w') := fun w' hb => ⟨cellStay dd'.c0 hb, cellStay dd'.c1 hb, cellStay dd'.c2 hb, cellStay e0.c0 hb, cellStay e0.c1 hb, cellStay e0.c2 hb, hb⟩
      go_cut [61] from 46 (fun v61 wx => v61 = .bool (!ratB s xs ys) ∧ Below w7.heap.size w7 wx)
      case first =>
        have hD0' : 0 < D := Nat.pos_of_ne_zero hD0
        have lk2 := look_stood
        by_cases hA : s = true ∧ N = 0
        · obtain ⟨rfl, rfl⟩ := hA
          have hrb : Hid (ratB true xs ys = false) := Lib.hid (decide_eq_false (fun h => h.2.2.2.2 rfl HN.out.1.symm))
          change Box3 w7 w6.heap.size (.bool false) _ _ at e0
          replace kS : ∀ w' : World, Below w7.heap.size w7 w' → (w'.cell? ⟨w.heap.size, 0, none⟩ = some (.bool true) ∧ w'.cell? ⟨w.heap.size, 1, none⟩ = some (.slice a1 n1 c1) ∧ w'.cell? ⟨w.heap.size, 2, none⟩ = some (.slice a2 n2 c2) ∧ w'.cell? ⟨w6.heap.size, 0, none⟩ = some (.bool false) ∧ w'.cell? ⟨w6.heap.size, 1, none⟩ = some (.slice a3 n3 c3) ∧ w'.cell? ⟨w6.heap.size, 2, none⟩ = some (.slice a4 n4 c4) ∧ Below w7.heap.size w7 w') := kS
          have ⟨v0, v1, v2, v3, v4, v5, _⟩ := kS _ (Below.refl _ _)
          first
          | (go_region_with (first
              | (go_at_call 299; (with_reducible refine (rtSeen_any (false) a3 a4 n3 n4 c3 c4 _).mono ?_); rintro en wA ⟨rfl, hbA⟩; have hWA : Below w7.heap.size w7 wA := (by first | exact hbA | exact undrew hbA); have ⟨x0, x1, x2, x3, x4, x5, _⟩ := kS _ hWA)
              | (go_at_call 299; (with_reducible refine (rtSeen_any true a1 a2 n1 n2 c1 c2 _).mono ?_); rintro en wB ⟨rfl, hbB⟩; have hWB := next hWA hbB; have ⟨y0, y1, y2, y3, y4, y5, _⟩ := kS _ hWB)))
          | fail "no"
          all_goals go_wp2
          all_goals go_meet
          all_goals exact ⟨by rw [hrb.out]; rfl, by assumption⟩
        · have hsz : nzB s N = s := by
            unfold nzB
            cases s
            · rfl
            · have : N ≠ 0 := fun h => hA ⟨rfl, h⟩
              simp [this]
          rw [hsz] at kS e0
          have hA' := Lib.hid hA
          clear hA hsz
          have hss : (s == s) = true := by simp
          by_cases hB : n3 = n1
          · by_cases hC : n4 = n2
            · obtain rfl : n1 = n3 := hB.symm
              obtain rfl : n2 = n4 := hC.symm
              have cD7 : ∀ W : World, Below w7.heap.size w7 W → Calls Tryz.prog 300 #[.pointer (some ⟨wc.heap.size, 0, none⟩)] W (MkI 38 false (D / G) W) := fun W hW => cD W (next hb6' hW)
              have cQ7 : ∀ (W : World) (bC : Nat) (aC : Option Addr) (kC cC B : Nat), In 38 W B bC false aC kC cC (D / G) → Below w7.heap.size w7 W → Calls Tryz.prog 262 #[.pointer (some ⟨bC, 0, none⟩), .pointer (some ⟨b2, 0, none⟩)] W fun e w' => e = .returned (.int .i64 (cmpN (D / G) D)) ∧ Below W.heap.size W w' := fun W bC aC kC cC B hI hW => bgICmp_any _ _ bC b2 aC o2 kC k2 cC e2 (D / G) D W hI (J7.stay hW)
              by_cases hq : cmpN (D / G) D = 0
              · have hq' : (cmpN (D / G) D == 0) = true := by simp [hq]
                have hrb : Hid (ratB s xs ys = true) := Lib.hid (decide_eq_true ⟨H.out.1, H.out.2.1, by rw [h2.len]; exact H.out.2.2, by rw [← HN.out.1, ← HN.out.2, HG.out]; exact cmp_div hD0 (by rw [← HG.out]; exact Nat.gcd_dvd_right _ _) hq, fun hs hv => hA'.out ⟨hs, HN.out.1.trans hv⟩⟩)
                clear hq
                generalize cmpN (D / G) D = cv at hq' cQ7
                have ⟨v0, v1, v2, v3, v4, v5, _⟩ := kS _ (Below.refl _ _)
                first
                | (go_region_with (first
                    | (go_at_call 299; (with_reducible refine (rtSeen_any (s) a3 a4 n1 n2 c3 c4 _).mono ?_); rintro en wA ⟨rfl, hbA⟩; have hWA : Below w7.heap.size w7 wA := (by first | exact hbA | exact undrew hbA); have ⟨x0, x1, x2, x3, x4, x5, _⟩ := kS _ hWA)
                    | (go_at_call 299; (with_reducible refine (rtSeen_any s a1 a2 n1 n2 c1 c2 _).mono ?_); rintro en wB ⟨rfl, hbB⟩; have hWB := next hWA hbB; have ⟨y0, y1, y2, y3, y4, y5, _⟩ := kS _ hWB)
                    | (go_at_call 300; (with_reducible refine (cD7 _ hWB).mono ?_); rintro en wC ⟨bC, aC, kC, cC, rfl, hIC, hbC⟩; have hWC := next hWB hbC)
                    | (go_at_call 262; (with_reducible refine (cQ7 _ bC aC kC cC _ hIC hWC).mono ?_); rintro en wD ⟨rfl, hbD⟩; have hWD := next hWC hbD)))
                | fail "no"
                all_goals go_wp2
                all_goals go_meet
                all_goals exact ⟨by rw [hrb.out]; simp [bne, hq'], by assumption⟩
              · have hq' : (cmpN (D / G) D == 0) = false := by simp [hq]
                have hrb : Hid (ratB s xs ys = false) := Lib.hid (decide_eq_false (fun h => hq (by rw [← HG.out, HN.out.1, HN.out.2, h.2.2.2.1, Nat.div_one]; exact cmpN_eq rfl)))
                clear hq
                generalize cmpN (D / G) D = cv at hq' cQ7
                have ⟨v0, v1, v2, v3, v4, v5, _⟩ := kS _ (Below.refl _ _)
                first
                | (go_region_with (first
                    | (go_at_call 299; (with_reducible refine (rtSeen_any (s) a3 a4 n1 n2 c3 c4 _).mono ?_); rintro en wA ⟨rfl, hbA⟩; have hWA : Below w7.heap.size w7 wA := (by first | exact hbA | exact undrew hbA); have ⟨x0, x1, x2, x3, x4, x5, _⟩ := kS _ hWA)
                    | (go_at_call 299; (with_reducible refine (rtSeen_any s a1 a2 n1 n2 c1 c2 _).mono ?_); rintro en wB ⟨rfl, hbB⟩; have hWB := next hWA hbB; have ⟨y0, y1, y2, y3, y4, y5, _⟩ := kS _ hWB)
                    | (go_at_call 300; (with_reducible refine (cD7 _ hWB).mono ?_); rintro en wC ⟨bC, aC, kC, cC, rfl, hIC, hbC⟩; have hWC := next hWB hbC)
                    | (go_at_call 262; (with_reducible refine (cQ7 _ bC aC kC cC _ hIC hWC).mono ?_); rintro en wD ⟨rfl, hbD⟩; have hWD := next hWC hbD)))
                | fail "no"
                all_goals go_wp2
                all_goals go_meet
                all_goals exact ⟨by rw [hrb.out]; simp [bne, hq'], by assumption⟩
            · obtain rfl : n1 = n3 := hB.symm
              have hC' : ((n4 : Int) == (n2 : Int)) = false := by simp; omega
              have hrb : Hid (ratB s xs ys = false) := Lib.hid (decide_eq_false (fun h => hC (by rw [← m4, ← h2.len, ← limbs_val fy, ← HN.out.2, ← HG.out, HN.out.1, HN.out.2, h.2.2.2.1, Nat.div_one])))
              clear hC
              have ⟨v0, v1, v2, v3, v4, v5, _⟩ := kS _ (Below.refl _ _)
              first
              | (go_region_with (first
                  | (go_at_call 299; (with_reducible refine (rtSeen_any (s) a3 a4 n1 n4 c3 c4 _).mono ?_); rintro en wA ⟨rfl, hbA⟩; have hWA : Below w7.heap.size w7 wA := (by first | exact hbA | exact undrew hbA); have ⟨x0, x1, x2, x3, x4, x5, _⟩ := kS _ hWA)
                  | (go_at_call 299; (with_reducible refine (rtSeen_any s a1 a2 n1 n2 c1 c2 _).mono ?_); rintro en wB ⟨rfl, hbB⟩; have hWB := next hWA hbB; have ⟨y0, y1, y2, y3, y4, y5, _⟩ := kS _ hWB)))
              | fail "no"
              all_goals go_wp2
              all_goals go_meet
              all_goals exact ⟨by rw [hrb.out]; rfl, by assumption⟩
          · have hB' : ((n3 : Int) == (n1 : Int)) = false := by simp; omega
            have hrb : Hid (ratB s xs ys = false) := Lib.hid (decide_eq_false (fun h => hB (by rw [← m3, ← h1.len, ← limbs_val fx, ← HN.out.1, ← HG.out, HN.out.1, HN.out.2, h.2.2.2.1, Nat.div_one])))
            clear hB
            have ⟨v0, v1, v2, v3, v4, v5, _⟩ := kS _ (Below.refl _ _)
            first
            | (go_region_with (first
                | (go_at_call 299; (with_reducible refine (rtSeen_any (s) a3 a4 n3 n4 c3 c4 _).mono ?_); rintro en wA ⟨rfl, hbA⟩; have hWA : Below w7.heap.size w7 wA := (by first | exact hbA | exact undrew hbA); have ⟨x0, x1, x2, x3, x4, x5, _⟩ := kS _ hWA)
                | (go_at_call 299; (with_reducible refine (rtSeen_any s a1 a2 n1 n2 c1 c2 _).mono ?_); rintro en wB ⟨rfl, hbB⟩; have hWB := next hWA hbB; have ⟨y0, y1, y2, y3, y4, y5, _⟩ := kS _ hWB)))
            | fail "no"
            all_goals go_wp2
            all_goals go_meet
            all_goals exact ⟨by rw [hrb.out]; rfl, by assumption⟩
      case rest =>
        obtain ⟨rfl, hWe⟩ := hcut
        have hWf := next hV' hWe
        by_cases hrb : ratB s xs ys = true
        · have HR := Lib.hid hrb
          rw [hrb]
          go_wp2
          go_ret2
          refine .inl ⟨HR.out, _, rfl, ?_, hWf⟩
          have hRf := (hR.stay hb6').stay hWe
          have hg1 : G = 1 := by
            rw [← HG.out, HN.out.1, HN.out.2]
            exact (of_decide_eq_true HR.out).2.2.2.1
          have hsz : nzB s N = s := by
            unfold nzB
            cases s
            · rfl
            · have : N ≠ 0 := fun h => (of_decide_eq_true HR.out).2.2.2.2 rfl (HN.out.1.symm.trans h)
              simp [this]
          rw [hsz, hg1, Nat.div_one, Nat.div_one, HN.out.1, HN.out.2] at hRf
          exact hRf
        · have HR : Hid (ratB s xs ys = false) := Lib.hid (by simpa using hrb)
          rw [HR.out]
          go_wp2
          go_ret2
          exact taken_no HR.out hWf

theorem rtTaken_any (s : Bool) (a1 a2 : Option Addr) (n1 n2 c1 c2 : Nat) (xs ys : List Nat) (w : World) (h1 : Sl w a1 n1 c1 xs) (h2 : Sl w a2 n2 c2 ys) (hT : Tab w) :
    Calls Tryz.prog 259 #[.agg #[.bool s, .slice a1 n1 c1, .slice a2 n2 c2]] w (TakenA s xs ys w) := by
  by_cases hx : chk xs = 0
  · by_cases hy : chk ys = 0
    · by_cases hn : n2 = 0
      · subst hn
        exact rtTaken_z s a1 a2 n1 c1 c2 xs ys w h1 h2 hx hy
      · exact rtTaken_ok s a1 a2 n1 n2 c1 c2 xs ys w h1 h2 hx hy hn hT
    · exact rtTaken_y s a1 a2 n1 n2 c1 c2 xs ys w h1 h2 hx hy
  · exact rtTaken_x s a1 a2 n1 n2 c1 c2 xs ys w h1 hx

/-- The error of Check. -/
def ratE (s : Bool) (xs ys : List Nat) : Int := if ratB s xs ys = true then 0 else 20

set_option maxHeartbeats 1000000 in
theorem rtCheck_any (s : Bool) (a1 a2 : Option Addr) (n1 n2 c1 c2 : Nat) (xs ys : List Nat) (w : World) (h1 : Sl w a1 n1 c1 xs) (h2 : Sl w a2 n2 c2 ys) (hT : Tab w) :
    Calls Tryz.prog 192 #[.agg #[.bool s, .slice a1 n1 c1, .slice a2 n2 c2]] w fun e w' => e = .returned (.int .i64 (ratE s xs ys)) ∧ Below w.heap.size w w' := by
  go_enter Tryz.func192, Tryz.ntmps192
  go_wp2_with fail
  have hM := more (Below.refl w.heap.size w) (.cells #[.bool s, .slice a1 n1 c1, .slice a2 n2 c2] 131)
  refine (rtTaken_any s a1 a2 n1 n2 c1 c2 xs ys _ (h1.below hM) (h2.below hM) (hT.below hM)).mono ?_
  rintro e w1 (⟨hB, b, rfl, -, hb⟩ | ⟨hB, rfl, hb⟩)
  · have hE : Hid (ratE s xs ys = 0) := Lib.hid (by unfold ratE; rw [if_pos hB])
    go_wp2
    go_ret
    exact ⟨by rw [hE.out]; rfl, next hM hb⟩
  · have hE : Hid (ratE s xs ys = 20) := Lib.hid (by unfold ratE; rw [if_neg (by rw [hB]; decide)])
    go_wp2
    go_ret
    exact ⟨by rw [hE.out]; rfl, next hM hb⟩

end Go.Proofs.YtklibjdhlmdkpaaGreatDoor

/-
  Contracts: May, Int, Check of the reference's fractions. Contract: Check of the reference's fractions. (Printed by wip/gen/rf2check.py.)
-/
namespace Go.Proofs.YtklibjdhlmdkpaaGreatDoor

open Go.RowKit Go.Lb

end Go.Proofs.YtklibjdhlmdkpaaGreatDoor

namespace Go.Proofs.YtklibjdhlmdkpaaGreatDoor

open Go.RowKit Go.Lb

theorem cmp_one {N : Nat} (h : N ≠ 1) : (cmpN N 1 == 0) = false := by
  unfold cmpN
  by_cases h1 : N < 1
  · rw [if_pos h1]; rfl
  · rw [if_neg h1, if_pos (by omega)]; rfl

end Go.Proofs.YtklibjdhlmdkpaaGreatDoor

/-
  Contracts of numeral/numeralref05: Two.
-/
namespace Go.Proofs.YtklibjdhlmdkpaaGreatDoor

open Go.RowKit Go.Lb

attribute [local go_sem] Go.World.cell?_alloc_some

/-- May it be a dyadic? -/
def twoB (neg : Bool) (xs : List Nat) (x : Int) : Bool := decide (dchk neg xs x = 0)

theorem two_odd {neg : Bool} {xs : List Nat} {x : Int} (h : chk xs = 0) (hl : xs.length ≠ 0) (h1 : ¬ x > 1073741824) (h2 : ¬ x < -1073741824) : twoB neg xs x = decide (nth xs 0 % 2 = 1) := by
  unfold twoB dchk
  have hf : farB x = false := by unfold farB; simp; omega
  rw [if_neg (by simp [h]), if_neg hl, hf]
  by_cases hx : nth xs 0 % 2 = 0
  · simp [hx]
  · have : nth xs 0 % 2 = 1 := by omega
    simp [this]

end Go.Proofs.YtklibjdhlmdkpaaGreatDoor

/-
  Contract of numeral/round: Dyadic.
-/
namespace Go.Proofs.YtklibjdhlmdkpaaGreatDoor

open Go.RowKit Go.Lb

attribute [local go_sem] Go.World.cell?_alloc_some

attribute [local go_sem ↓] Go.wp_at_zero Go.wp_at_succ

/-- What Dyadic rounds: above the line, below it. -/
def dyN (N : Nat) (x : Int) : Nat := N * 2 ^ (nearZ x (blN N)).toNat

def dyD (N : Nat) (x : Int) : Nat := 1 * 2 ^ (-(nearZ x (blN N))).toNat

/-- Dyadic's answers: the error, the bits, the flags. -/
def dyErr (e f : Int) (s : Bool) (xs : List Nat) (x : Int) (m : Nat) : Int := if formE e f ≠ 0 then 5 else if twoB s xs x = false then 40 else if 4 < m then 7 else 0

def dyBits (e f : Int) (s : Bool) (xs : List Nat) (x : Int) (neg : Bool) (m : Nat) : Nat := if dyErr e f s xs x m = 0 then sgBits e.toNat f.toNat (dyN (val xs) x) (dyD (val xs) x) s neg m else 0

def dyFlags (e f : Int) (s : Bool) (xs : List Nat) (x : Int) (m : Nat) : Nat := if dyErr e f s xs x m = 0 then sgFlags e.toNat f.toNat (dyN (val xs) x) (dyD (val xs) x) s m else 0

theorem iz_set2 {w : World} {base b p : Nat} {z : Int} (h : Iz 38 w base b z) (hne : b ≠ p) (hd : Hd 38 w p) (u v : Value) : Iz 38 ((w.setCell ⟨p, 0, none⟩ u).setCell ⟨p, 1, none⟩ v) base b z := by
  obtain ⟨ao, k, c, i⟩ := h
  exact ⟨ao, k, c, i.other (grown_trans (grown_set w p 0 u) (grown_set _ p 1 v)) hne (fr_hd i.fr hd)⟩

theorem iz_ne {w : World} {base b p : Nat} {z : Int} {q : Option Addr} (h : Iz 38 w base b z) (hc : w.cell? ⟨p, 0, none⟩ = some (.pointer q)) : b ≠ p := by
  rintro rfl
  obtain ⟨ao, k, c, i⟩ := h
  rw [i.c0] at hc
  cases hc

theorem cell_off2 {w : World} {b i p : Nat} {u v x : Value} (h : w.cell? ⟨b, i, none⟩ = some x) (hne : b ≠ p) : ((w.setCell ⟨p, 0, none⟩ u).setCell ⟨p, 1, none⟩ v).cell? ⟨b, i, none⟩ = some x :=
  (World.cell?_setCell_other _ _ _ _ (fun e => hne (congrArg Addr.block e).symm)).trans ((World.cell?_setCell_other _ _ _ _ (fun e => hne (congrArg Addr.block e).symm)).trans h)

set_option maxRecDepth 100000 in
set_option maxHeartbeats 6000000 in
theorem rdDyadic_ok (ao : Option Addr) (n c E F m : Nat) (x : Int) (s neg : Bool) (xs : List Nat) (w : World) (h : Sl w ao n c xs) (hm : m < 5) (l1 : n ≤ 400) (hE2 : 2 ≤ E) (hE11 : E ≤ 11) (hF1 : 1 ≤ F) (hF52 : F ≤ 52) (hf : formE (E : Int) (F : Int) = 0) (hr : twoB s xs x = true) :
    Calls Tryz.prog 88 #[.agg #[.int .i64 (E : Int), .int .i64 (F : Int)], .agg #[.bool s, .slice ao n c, .int .i64 x], .bool neg, .int .u8 (m : Int)] w fun e w' => e = .returned (.tuple #[.int .u64 (sgBits E F (dyN (val xs) x) (dyD (val xs) x) s neg m : Int), .int .u8 (sgFlags E F (dyN (val xs) x) (dyD (val xs) x) s m : Int), .int .i64 0]) ∧ Below w.heap.size w w' := by
  obtain ⟨W2, hW2⟩ : ∃ W2 : World, W2 = (w.alloc (.cells #[.int .i64 (E : Int), .int .i64 (F : Int)] 24)).alloc (.cells #[.bool s, .slice ao n c, .int .i64 x] 113) := ⟨_, rfl⟩
  have hb2 : Below w.heap.size w W2 := hW2 ▸ more (more (Below.refl _ _) _) _
  have c0 : W2.cell? ⟨w.heap.size, 0, none⟩ = some (.int .i64 (E : Int)) := by rw [hW2]; simp [World.cell?_alloc_some]
  have c1 : W2.cell? ⟨w.heap.size, 1, none⟩ = some (.int .i64 (F : Int)) := by rw [hW2]; simp [World.cell?_alloc_some]
  have D2 : Box3 W2 (w.heap.size + 1) (.bool s) (.slice ao n c) (.int .i64 x) := by
    have := box3_new (w.alloc (.cells #[.int .i64 (E : Int), .int .i64 (F : Int)] 24)) (.bool s) (.slice ao n c) (.int .i64 x) 113
    rw [World.size_alloc] at this
    exact hW2 ▸ this
  have hFc := formCheck_any (E : Int) (F : Int) W2
  rw [hf] at hFc
  have hdc : dchk s xs x = 0 := of_decide_eq_true hr
  have hRc : ∀ W, Below w.heap.size w W → Calls Tryz.prog 184 #[.agg #[.bool s, .slice ao n c, .int .i64 x]] W fun e w' => e = .returned (.int .i64 0) ∧ Below W.heap.size W w' := fun W hW => by
    have := dyCheck_any s ao n c x xs W (h.below hW)
    rwa [hdc] at this
  have hL1 : ∀ W, Below w.heap.size w W → Calls Tryz.prog 185 #[.agg #[.slice ao n c]] W (MkZ 38 (val xs : Int) W) := fun W hW => rdLarge_any ao n c xs W (h.below hW) (by omega)
  have hlN : ln (val xs) ≤ 400 := Nat.le_trans (ln_le (val_lt h.ok)) (by rw [h.len]; exact l1)
  have hm4 : ¬ (m : Int) > 4 := by omega
  generalize val xs = N at *
  have m1 := bl_le N
  obtain ⟨nb, hnb⟩ : ∃ nb, nb = blN N := ⟨_, rfl⟩
  obtain ⟨nz, hnz⟩ : ∃ nz, nz = nearZ x (blN N) := ⟨_, rfl⟩
  have hz1 : -14000 ≤ nz ∧ nz ≤ 14000 := by rw [hnz]; unfold nearZ; omega
  have HA : Hid (scN N nz = dyN N x ∧ scD 1 nz = dyD N x) := Lib.hid (by rw [hnz]; exact ⟨rfl, rfl⟩)
  have hNr := fun W => rdNear_any x nb W (by omega)
  rw [hnb, ← hnz, ← hnb] at hNr
  have hB1 : ∀ W BB q, Iz 38 W BB q (N : Int) → Calls Tryz.prog 189 #[.pointer (some ⟨q, 0, none⟩)] W fun e w' => e = .returned (.int .i64 (nb : Int)) ∧ W = w' := fun W BB q hi => by
    have := bgBitLenZ_any q BB (N : Int) W hi (by rw [Int.natAbs_natCast]; omega)
    rw [Int.natAbs_natCast] at this
    rw [hnb]
    exact this
  have hTm : ∀ W b1 b2 B1 B2, Iz 38 W B1 b1 (N : Int) → Iz 38 W B2 b2 1 → Calls Tryz.prog 187 #[.agg #[.pointer (some ⟨b1, 0, none⟩), .pointer (some ⟨b2, 0, none⟩)], .int .i64 nz] W (TmP (scN N nz) (scD 1 nz) W) := fun W b1 b2 B1 B2 i1 i2 => rdTimes_any B1 B2 b1 b2 N 1 nz W i1 i2 (by omega) (by rw [ln_one]; omega) (by omega) (by omega)
  have hNw : ∀ W, Calls Tryz.prog 186 #[.int .i64 1] W (MkZ 38 1 W) := fun W => bgNewZ_any 1 W (by decide)
  have hSg : ∀ W b1 b2 B1 B2, Iz 38 W B1 b1 ((scN N nz : Nat) : Int) → Iz 38 W B2 b2 ((scD 1 nz : Nat) : Int) → Calls Tryz.prog 190 #[.agg #[.int .i64 (E : Int), .int .i64 (F : Int)], .agg #[.pointer (some ⟨b1, 0, none⟩), .pointer (some ⟨b2, 0, none⟩)], .bool s, .bool neg, .int .u8 (m : Int)] W fun e w' => e = .returned (.tuple #[.int .u64 (sgBits E F (dyN N x) (dyD N x) s neg m : Int), .int .u8 (sgFlags E F (dyN N x) (dyD N x) s m : Int), .int .i64 0]) ∧ Below W.heap.size W w' := fun W b1 b2 B1 B2 i1 i2 => by
    have k1 : ln (scN N nz) ≤ 65536 := by
      have := ln_shl N nz.toNat
      unfold scN
      omega
    have k2 : ln (scD 1 nz) ≤ 65536 := by
      have := ln_shl 1 (-nz).toNat
      rw [ln_one] at this
      unfold scD
      omega
    have := rdSigned_any B1 B2 b1 b2 (scN N nz) (scD 1 nz) E F m s neg W i1 i2 (Nat.ne_of_gt (scD_pos (by decide) _)) hm k1 k2 hE2 hE11 hF1 hF52
    rwa [HA.out.1, HA.out.2] at this
  generalize sgBits E F (dyN N x) (dyD N x) s neg m = bb at *
  generalize sgFlags E F (dyN N x) (dyD N x) s m = gg at *
  generalize scN N nz = A at *
  generalize scD 1 nz = B at *
  clear hf hr hdc h l1 HA hnz hnb m1 hz1 hlN
  go_enter Tryz.func88, Tryz.ntmps88
  go_wp2_with fail
  rw [← hW2]
  clear hW2
  refine hFc.mono ?_
  rintro en w3 ⟨rfl, hb3⟩
  have V3 := next hb2 hb3
  have D3 := D2.stay hb3
  have e0 := cellStay c0 hb3
  have e1 := cellStay c1 hb3
  have ⟨d0, d1, d2, _, _, _⟩ := D3
  clear c0 c1 D2 hFc
  go_wp2_with fail
  refine (hRc w3 V3).mono ?_
  rintro en w4 ⟨rfl, hb4⟩
  have V4 := next V3 hb4
  have D4 := D3.stay hb4
  have f0 := cellStay e0 hb4
  have f1 := cellStay e1 hb4
  clear e0 e1 d0 d1 d2 D3 hRc hb3 hb4 hb2
  have ⟨d0, d1, d2, _, _, _⟩ := D4
  go_wp2_with fail
  refine (hL1 w4 V4).mono ?_
  rintro en w5 ⟨q1, rfl, I1, hb5⟩
  clear d0 d1 d2 hL1
  go_wp2_with fail
  refine (hNw w5).mono ?_
  rintro en w6 ⟨q2, rfl, I2, hb6⟩
  have U7 := more (next hb5 hb6) (.cells #[.pointer (some ⟨q1, 0, none⟩), .pointer (some ⟨q2, 0, none⟩)] 236)
  have I1' := (I1.stay hb6).stay (more (Below.refl _ _) (.cells #[.pointer (some ⟨q1, 0, none⟩), .pointer (some ⟨q2, 0, none⟩)] 236))
  have I2' := I2.stay (more (Below.refl _ _) (.cells #[.pointer (some ⟨q1, 0, none⟩), .pointer (some ⟨q2, 0, none⟩)] 236))
  have p0 : (w6.alloc (.cells #[.pointer (some ⟨q1, 0, none⟩), .pointer (some ⟨q2, 0, none⟩)] 236)).cell? ⟨w6.heap.size, 0, none⟩ = some (.pointer (some ⟨q1, 0, none⟩)) := by simp
  have p1 : (w6.alloc (.cells #[.pointer (some ⟨q1, 0, none⟩), .pointer (some ⟨q2, 0, none⟩)] 236)).cell? ⟨w6.heap.size, 1, none⟩ = some (.pointer (some ⟨q2, 0, none⟩)) := by simp
  have z0 : (w6.alloc (.cells #[.pointer (some ⟨q1, 0, none⟩), .pointer (some ⟨q2, 0, none⟩)] 236)).frozen? ⟨w6.heap.size, 0, none⟩ = false := by simp [go_sem]
  have z1 : (w6.alloc (.cells #[.pointer (some ⟨q1, 0, none⟩), .pointer (some ⟨q2, 0, none⟩)] 236)).frozen? ⟨w6.heap.size, 1, none⟩ = false := by simp [go_sem]
  have Hp : Hd 38 (w6.alloc (.cells #[.pointer (some ⟨q1, 0, none⟩), .pointer (some ⟨q2, 0, none⟩)] 236)) w6.heap.size := hd_new w6 _ (by decide)
  have hpl : w6.heap.size < (w6.alloc (.cells #[.pointer (some ⟨q1, 0, none⟩), .pointer (some ⟨q2, 0, none⟩)] 236)).heap.size := by simp
  have hwp : w.heap.size ≤ w6.heap.size := Nat.le_trans V4.size (next hb5 hb6).size
  have hwp2 : w.heap.size + 1 < w6.heap.size := Nat.lt_of_lt_of_le D4.lt (next hb5 hb6).size
  go_upto_region 8 with fail
  obtain ⟨p, hp⟩ : ∃ p, p = w6.heap.size := ⟨_, rfl⟩
  rw [← hp] at p0 p1 z0 z1 Hp hpl hwp hwp2 ⊢
  clear hp I1 I2 hb5 hb6 hNw
  generalize w6.alloc (.cells #[.pointer (some ⟨q1, 0, none⟩), .pointer (some ⟨q2, 0, none⟩)] 236) = w7 at U7 I1' I2' p0 p1 z0 z1 Hp hpl ⊢
  have D7 := D4.stay U7
  have g0 := cellStay f0 U7
  have g1 := cellStay f1 U7
  have V7 := next V4 U7
  clear f0 f1 D4 U7 V4
  have lD := D7.lt
  have lF := World.block_lt_of_cell? w7 ⟨w.heap.size, 0, none⟩ g0
  have x2 := D7.c2
  go_cut [] from 28 (fun wx => ∃ b1 b2, wx.cell? ⟨p, 0, none⟩ = some (.pointer (some ⟨b1, 0, none⟩)) ∧ wx.cell? ⟨p, 1, none⟩ = some (.pointer (some ⟨b2, 0, none⟩)) ∧ Iz 38 wx 0 b1 (A : Int) ∧ Iz 38 wx 0 b2 (B : Int) ∧ Below w.heap.size w wx ∧ wx.cell? ⟨w.heap.size, 0, none⟩ = some (.int .i64 (E : Int)) ∧ wx.cell? ⟨w.heap.size, 1, none⟩ = some (.int .i64 (F : Int)) ∧ wx.cell? ⟨w.heap.size + 1, 0, none⟩ = some (.bool s))
  case first =>
    go_region_with (first
      | (go_at_call 189; (with_reducible refine (hB1 _ _ _ (I1'.stay ?_)).mono ?_); (first | exact Below.refl _ _ | exact (Below.refl _ _).drew | exact (Below.refl _ _).drew.drew); rintro en wB ⟨rfl, rfl⟩)
      | (go_at_call 188; (with_reducible refine (hNr _).mono ?_); rintro en wB ⟨rfl, rfl⟩)
      | (go_at_call 187; (with_reducible refine (hTm _ _ _ _ _ (I1'.stay ?_) (I2'.stay ?_)).mono ?_); (focus (first | exact Below.refl _ _ | exact (Below.refl _ _).drew | exact (Below.refl _ _).drew.drew)); (focus (first | exact Below.refl _ _ | exact (Below.refl _ _).drew | exact (Below.refl _ _).drew.drew)); rintro en wC ⟨b1, b2, rfl, J1, J2, hbC⟩; have hC : Below w7.heap.size w7 wC := (by first | exact hbC | exact undrew hbC | exact undrew (undrew hbC)); have t0 := cellStay p0 hC; have t1 := cellStay p1 hC; have y0 := (hC.frozen (p := ⟨p, 0, none⟩) hpl).trans z0; have y1 := (hC.frozen (p := ⟨p, 1, none⟩) hpl).trans z1; have HC := Hp.stay hpl hC; have s0 := cellStay g0 hC; have s1 := cellStay g1 hC; have s2 := cellStay D7.c0 hC))
    all_goals go_wp2
    all_goals go_meet
    all_goals exact ⟨b1, b2, (World.cell?_setCell_other _ _ _ _ (by simp)).trans (World.cell?_setCell_same _ _ _ t0), World.cell?_setCell_same _ _ _ ((World.cell?_setCell_other _ _ _ _ (by simp)).trans t1), iz_set2 J1 (iz_ne J1 t0) HC _ _, iz_set2 J2 (iz_ne J2 t0) HC _ _, ((next V7 hC).setCell hwp _).setCell hwp _, (cell_off2 s0 (by omega)), (cell_off2 s1 (by omega)), (cell_off2 s2 (by omega))⟩
  case rest =>
    obtain ⟨b1, b2, t0, t1, J1, J2, Vx, s0, s1, s2⟩ := hcut
    go_wp2_with fail
    refine (hSg _ _ _ _ _ J1 J2).mono ?_
    rintro en w9 ⟨rfl, hb9⟩
    go_wp2
    go_ret3
    exact ⟨rfl, next Vx hb9⟩

end Go.Proofs.YtklibjdhlmdkpaaGreatDoor

