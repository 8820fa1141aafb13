/-
  Contracts of numeral/numeralref05: Near, Tens, Scaled. (Its second half printed by wip/gen/scaled5.py out of Ratio's.)
-/

import Derived.Test.YtgdhleiokfaeoaaGreatDoorQRvI
namespace Go.Proofs.YtgdhleiokfaeoaaGreatDoor

open Go.RowKit Go.Lb

attribute [local go_sem] Go.World.cell?_alloc_some

/-- The reference's power that is brought near. -/
def nearY (n : Int) (b : Nat) : Int := max (-((b : Int) + 1500)) (min n ((b : Int) + 1500))

theorem nbNear_any (n z : Int) (b : Nat) (w : World) (hz : z = (b : Int)) (hb : b ≤ 1048576) :
    Calls Tryz.prog 71 #[.int .i64 n, .int .i64 z] w fun e w' => e = .returned (.int .i64 (nearY n b)) ∧ w = w' := by
  subst hz
  have hz : Hid (nearY n b = max (-((b : Int) + 1500)) (min n ((b : Int) + 1500))) := Lib.hid rfl
  go_enter Tryz.func71, Tryz.ntmps71
  go_wp2
  go_ret
  exact ⟨by rw [hz.out]; rfl, rfl⟩

theorem max_abs (z : Int) : max z (-z) = (z.natAbs : Int) := by omega

set_option maxRecDepth 100000 in
set_option maxHeartbeats 2000000 in
theorem nbTens_any (B b : Nat) (x : Rat) (n : Int) (w : World) (h : Rq 43 w B b x) (l1 : ln x.num.natAbs ≤ 400) (l2 : ln x.den ≤ 400) (hT : Tab w) :
    Calls Tryz.prog 54 #[.pointer (some ⟨b, 0, none⟩), .int .i64 n] w (MkQ 43 (tnQ x (nearY n (blN x.num.natAbs + blN x.den))) w) := by
  have m1 := bl_le x.num.natAbs
  have m2 := bl_le x.den
  have u1 : blN x.num.natAbs ≤ 12800 := by omega
  have u2 : blN x.den ≤ 12800 := by omega
  have hNm := nbRNumZ_any b B x w h (by omega)
  have hDn : ∀ W, Below w.heap.size w W → Calls Tryz.prog 122 #[.pointer (some ⟨b, 0, none⟩)] W (MkZ 43 (x.den : Int) W) := fun W hW => nbRDenomZ_any b B x W (h.stay hW) (by omega)
  have hB1 : ∀ W c BB, Iz 43 W BB c x.num → Calls Tryz.prog 72 #[.pointer (some ⟨c, 0, none⟩)] W fun e w' => e = .returned (.int .i64 (blN x.num.natAbs : Int)) ∧ W = w' := fun W c BB hi => nbBitLenZ_any c BB x.num W hi (by omega)
  have hB2 : ∀ W c BB, Iz 43 W BB c (x.den : Int) → Calls Tryz.prog 72 #[.pointer (some ⟨c, 0, none⟩)] W fun e w' => e = .returned (.int .i64 (blN x.den : Int)) ∧ W = w' := fun W c BB hi => nbBitLenZ_any c BB (x.den : Int) W hi (by rw [Int.natAbs_natCast]; omega)
  obtain ⟨nb, hnb⟩ : ∃ nb, nb = blN x.num.natAbs := ⟨_, rfl⟩
  obtain ⟨db, hdb⟩ : ∃ db, db = blN x.den := ⟨_, rfl⟩
  rw [← hnb] at hB1 u1 ⊢
  rw [← hdb] at hB2 u2 ⊢
  clear m1 m2 hnb hdb
  obtain ⟨nz, hnz⟩ : ∃ nz, nz = nearY n (nb + db) := ⟨_, rfl⟩
  have hNr := fun W => nbNear_any n ((nb : Int) + (db : Int)) (nb + db) W (by omega) (by omega)
  rw [← hnz] at hNr ⊢
  have z1 : -27100 ≤ nz ∧ nz ≤ 27100 := by rw [hnz]; unfold nearY; omega
  clear hnz
  have z2 := z1.1
  have z3 := z1.2
  have HTN : Hid (nz < 0 → tnQ x nz = x / tenQ nz.natAbs) := Lib.hid (fun hh => by unfold tnQ; rw [if_pos hh])
  have HTP : Hid (¬ nz < 0 → tnQ x nz = x * tenQ nz.natAbs) := Lib.hid (fun hh => by unfold tnQ; rw [if_neg hh])
  have HT := Lib.hid hT
  have HL := Lib.hid (And.intro l1 l2)
  have lT : ln (10 ^ nz.natAbs) ≤ 27101 := by
    have := ln_pow 10 nz.natAbs
    have h10 : ln 10 ≤ 1 := ln_small (by decide)
    have := Nat.mul_le_mul_left nz.natAbs h10
    omega
  have LT := Lib.hid lT
  have hN10 : ∀ W, Calls Tryz.prog 97 #[.int .i64 10] W (MkZ 43 10 W) := fun W => nbNewZ_any 10 W (by decide)
  have hNk : ∀ W, Calls Tryz.prog 97 #[.int .i64 (max nz (-nz))] W (MkZ 43 (nz.natAbs : Int) W) := fun W => by
    rw [← max_abs]
    exact nbNewZ_any _ W (by omega)
  have hwn : IntKind.i64.wrap (-nz) = -nz := IntWalk.i64_in _ (by omega)
  obtain ⟨mx, hmx⟩ : ∃ mx, mx = max nz (-nz) := ⟨_, rfl⟩
  rw [← hmx] at hNk
  have hmx' := hmx.symm
  have hk27 : nz.natAbs ≤ 27100 := by omega
  have K27 := Lib.hid hk27
  have hq := h.lt
  clear l1 l2 hT lT z1 hmx hk27
  go_enter Tryz.func54, Tryz.ntmps54
  go_wp2_with fail
  refine hNm.mono ?_
  rintro en w1 ⟨c1, rfl, I1, hb1⟩
  go_wp2_with fail
  refine (hB1 w1 c1 _ I1).mono ?_
  rintro en w1' ⟨rfl, rfl⟩
  go_wp2_with fail
  refine (hDn w1 hb1).mono ?_
  rintro en w2 ⟨c2, rfl, I2, hb2⟩
  have V2 := next hb1 hb2
  go_wp2_with fail
  refine (hB2 w2 c2 _ I2).mono ?_
  rintro en w2' ⟨rfl, rfl⟩
  go_wp2_with fail
  refine (hNr w2).mono ?_
  rintro en w2' ⟨rfl, rfl⟩
  clear hNm hB1 hDn hB2 hNr I1 I2 hb1 hb2
  have U4 := more (more (Below.refl w2.heap.size w2) (.cells #[.bool false, .slice none 0 0, .slice none 0 0] 103)) (.cells #[.bool false, .slice none 0 0] 101)
  have R4 := (res_new w2 103 (.bool false) (.slice none 0 0) (.slice none 0 0)).stay (more (Below.refl _ _) (.cells #[.bool false, .slice none 0 0] 101))
  have Z4 := zc_new (w2.alloc (.cells #[.bool false, .slice none 0 0, .slice none 0 0] 103)) 101 (.bool false) (.slice none 0 0)
  rw [World.size_alloc] at Z4
  go_wp2_with fail
  refine (hN10 _).mono ?_
  rintro en w5 ⟨c5, rfl, I5, hb5⟩
  have U5 := next U4 hb5
  have R5 := R4.stay hb5
  have Z5 := Z4.stay hb5
  have s5 : w2.heap.size + 2 ≤ c5 := by have := I5.le; simpa using this
  go_wp2_with fail
  refine (hNk w5).mono ?_
  rintro en w6 ⟨c6, rfl, I6, hb6⟩
  have U6 := next U5 hb6
  have R6 := R5.stay hb6
  have Z6 := Z5.stay hb6
  have I5' := I5.stay hb6
  clear hN10 hNk R4 Z4 R5 Z5 U5 I5
  have s6 := U6.size
  have hE := nbExp_any (w2.heap.size + 1) w2.heap.size _ _ c5 c6 10 nz.natAbs w6 Z6 (by omega) I5' I6 (by have := ln_small (A := 10) (by decide); have := Nat.mul_le_mul_left nz.natAbs this; have := K27.out; omega) (by have := ln_small (A := 10) (by decide); omega) (by have := ln_small (A := nz.natAbs) (by have := K27.out; omega); omega)
  go_wp2_with fail
  refine hE.mono ?_
  rintro en w7 hS7
  obtain ⟨rfl, I7, hg7⟩ := hS7.in_ Z6 (Nat.le_succ _)
  have U7 := U6.grown hg7 U6.size (by intro k hk; cases hk; omega)
  have R7 : Res3 w7 w2.heap.size := res_other R6 hg7 (by omega)
  clear hS7 hE R6 Z6 I5' I6
  have hSI := nbRSetInt_any w2.heap.size w2.heap.size w2.heap.size (w2.heap.size + 1) _ w7 R7 (Nat.le_refl _) I7 (by rw [Int.natAbs_natCast]; have := LT.out; omega)
  go_wp2_with fail
  refine hSI.mono ?_
  rintro en w8 ⟨rfl, Q8, hg8⟩
  have U8 := U7.grown hg8 U7.size (by intro k hk; cases hk; omega)
  change Rq 43 w8 w2.heap.size w2.heap.size (tenQ nz.natAbs) at Q8
  have V8 := next V2 U8
  have h8 := h.stay V8
  have V9 := more V8 (.cells #[.bool false, .slice none 0 0, .slice none 0 0] 103)
  have R9 := res_new w8 103 (.bool false) (.slice none 0 0) (.slice none 0 0)
  have h9 := h8.stay (more (Below.refl _ _) (.cells #[.bool false, .slice none 0 0, .slice none 0 0] 103))
  have Q9 := Q8.stay (more (Below.refl _ _) (.cells #[.bool false, .slice none 0 0, .slice none 0 0] 103))
  obtain ⟨p1, p2⟩ := tenQ_parts nz.natAbs
  have n1 := h8.lt
  have n2 := Q8.lt
  have g1 : ln (tenQ nz.natAbs).num.natAbs ≤ 67108864 := by rw [p1, Int.natAbs_natCast]; have := LT.out; omega
  have g2 : ln (tenQ nz.natAbs).den ≤ 67108864 := by rw [p2, ln_one]; omega
  have g3 : ln x.num.natAbs ≤ 67108864 := by have := HL.out.1; omega
  have g4 : ln x.den ≤ 67108864 := by have := HL.out.2; omega
  by_cases hneg : nz < 0
  · have hM := nbRQuo_any w8.heap.size w8.heap.size _ _ b w2.heap.size x (tenQ nz.natAbs) _ R9 (Nat.le_refl _) h9 Q9 (by omega) (by omega) (tenQ_ne _) g3 g4 g1 g2 (HT.out.below V9)
    clear hSI R7 I7 g1 g2 g3 g4 p1 p2 h8 h9 Q9 Q8
    go_wp2_with fail
    refine hM.mono ?_
    rintro en w10 hS
    obtain ⟨t, rfl, Q10, hb10⟩ := hS.mk
    go_wp2
    go_ret
    have s8 := V8.size
    exact ⟨_, rfl, by rw [HTN.out hneg]; exact Q10.mono s8, next V8 hb10⟩
  · have hM := nbRMul_any w8.heap.size w8.heap.size _ _ b w2.heap.size x (tenQ nz.natAbs) _ R9 (Nat.le_refl _) h9 Q9 (by omega) (by omega) g3 g4 g1 g2 (HT.out.below V9)
    clear hSI R7 I7 g1 g2 g3 g4 p1 p2 h8 h9 Q9 Q8
    go_wp2_with fail
    refine hM.mono ?_
    rintro en w10 hS
    obtain ⟨t, rfl, Q10, hb10⟩ := hS.mk
    go_wp2
    go_ret
    have s8 := V8.size
    exact ⟨_, rfl, by rw [HTP.out (by omega)]; exact Q10.mono s8, next V8 hb10⟩

theorem near_same (n : Int) (b : Nat) : nearY n b = nearZ n b ∨ ((b : Int) + 1200 ≤ nearY n b ∧ (b : Int) + 1200 ≤ nearZ n b) ∨ (nearY n b ≤ -(b : Int) - 1200 ∧ nearZ n b ≤ -(b : Int) - 1200) := by
  unfold nearY nearZ
  omega

/-- The reference's number, rounded, is what Scaled rounds. -/
theorem tens_same {E F N D : Nat} {s : Bool} (h2 : 2 ≤ E) (h11 : E ≤ 11) (h1 : 1 ≤ F) (h52 : F ≤ 52) (hD : D ≠ 0) (hG : Nat.gcd N D = 1) (hs : s = true → N ≠ 0) (n : Int) (neg : Bool) (m : Nat) :
    sgBits E F (tnQ (sgQ' s N D) (nearY n (blN N + blN D))).num.natAbs (tnQ (sgQ' s N D) (nearY n (blN N + blN D))).den s neg m = sgBits E F (scnN N D n) (scnD N D n) s neg m ∧ sgFlags E F (tnQ (sgQ' s N D) (nearY n (blN N + blN D))).num.natAbs (tnQ (sgQ' s N D) (nearY n (blN N + blN D))).den s m = sgFlags E F (scnN N D n) (scnD N D n) s m := by
  obtain ⟨q1, q2, q3⟩ := mk_low hD hG hs
  obtain ⟨t1, _⟩ := tn_cross (sgQ' s N D) (nearY n (blN N + blN D))
  rw [q1, q2] at t1
  have hp : ∀ k, (10 : Nat) ^ k ≠ 0 := fun k => Nat.ne_of_gt (Nat.pow_pos (by decide))
  obtain ⟨a1, a2⟩ := sgs_same (E := E) (F := F) (Rat.den_nz _) (Nat.mul_ne_zero hD (hp _)) t1 s neg m
  obtain ⟨b1, b2⟩ := sg_near (t := 10) (N := N) (b := blN N + blN D) (by decide) h2 h11 h1 h52 hD (by omega) (near_same n _) s neg m
  exact ⟨a1.trans b1, a2.trans b2⟩

set_option maxHeartbeats 2000000 in
theorem nbScaled5_form (a1 a2 : Option Addr) (n1 n2 c1 c2 m : Nat) (e f n : Int) (s neg : Bool) (w : World) (hf : formE e f = 5) :
    Calls Tryz.prog 18 #[.agg #[.int .i64 e, .int .i64 f], .agg #[.bool s, .slice a1 n1 c1, .slice a2 n2 c2], .int .i64 n, .bool neg, .int .u8 (m : Int)] w fun en w' => en = .returned (.tuple #[.int .u64 0, .int .u8 0, .int .i64 5]) ∧ Below w.heap.size w w' := by
  obtain ⟨W2, hW2⟩ : ∃ W2 : World, W2 = (w.alloc (.cells #[.int .i64 e, .int .i64 f] 23)).alloc (.cells #[.bool s, .slice a1 n1 c1, .slice a2 n2 c2] 28) := ⟨_, rfl⟩
  have hb2 : Below w.heap.size w W2 := hW2 ▸ more (more (Below.refl _ _) _) _
  have c0 : W2.cell? ⟨w.heap.size, 0, none⟩ = some (.int .i64 e) := by rw [hW2]; simp [World.cell?_alloc_some]
  have c1' : W2.cell? ⟨w.heap.size, 1, none⟩ = some (.int .i64 f) := by rw [hW2]; simp [World.cell?_alloc_some]
  have hFm := nbForm_any e f W2
  have hfb : formB e f = false := by
    unfold formE at hf
    cases hh : formB e f
    · rfl
    · rw [if_pos hh] at hf; exact absurd hf (by decide)
  rw [hfb] at hFm
  clear hf hfb
  go_enter Tryz.func18, Tryz.ntmps18
  go_wp2_with fail
  rw [← hW2]
  clear hW2
  refine hFm.mono ?_
  rintro en w3 ⟨rfl, hb3⟩
  go_wp2
  go_ret3
  exact ⟨rfl, next hb2 hb3⟩

set_option maxHeartbeats 2000000 in
theorem nbScaled5_rat (a1 a2 : Option Addr) (n1 n2 c1 c2 m : Nat) (e f n : Int) (s neg : Bool) (xs ys : List Nat) (w : World) (h1 : Sl w a1 n1 c1 xs) (h2 : Sl w a2 n2 c2 ys) (hT : Tab w) (hf : formE e f = 0) (hr : ratB s xs ys = false) :
    Calls Tryz.prog 18 #[.agg #[.int .i64 e, .int .i64 f], .agg #[.bool s, .slice a1 n1 c1, .slice a2 n2 c2], .int .i64 n, .bool neg, .int .u8 (m : Int)] w fun en w' => en = .returned (.tuple #[.int .u64 0, .int .u8 0, .int .i64 20]) ∧ Below w.heap.size w w' := by
  obtain ⟨W2, hW2⟩ : ∃ W2 : World, W2 = (w.alloc (.cells #[.int .i64 e, .int .i64 f] 23)).alloc (.cells #[.bool s, .slice a1 n1 c1, .slice a2 n2 c2] 28) := ⟨_, rfl⟩
  have hb2 : Below w.heap.size w W2 := hW2 ▸ more (more (Below.refl _ _) _) _
  have c0 : W2.cell? ⟨w.heap.size, 0, none⟩ = some (.int .i64 e) := by rw [hW2]; simp [World.cell?_alloc_some]
  have c1' : W2.cell? ⟨w.heap.size, 1, none⟩ = some (.int .i64 f) := by rw [hW2]; simp [World.cell?_alloc_some]
  have hFm := nbForm_any e f W2
  have hfb : formB e f = true := by
    unfold formE at hf
    cases hh : formB e f
    · rw [if_neg (by rw [hh]; decide)] at hf; exact absurd hf (by decide)
    · rfl
  have hRc : ∀ W, Below w.heap.size w W → Calls Tryz.prog 42 #[.agg #[.bool s, .slice a1 n1 c1, .slice a2 n2 c2]] W fun e w' => e = .returned (.int .i64 20) ∧ Below W.heap.size W w' := fun W hW => by
    have := rf2Check_any s a1 a2 n1 n2 c1 c2 xs ys W (h1.below hW) (h2.below hW) (hT.below hW)
    unfold ratE at this
    rwa [hr, if_neg (by decide)] at this
  have d0 : W2.cell? ⟨w.heap.size + 1, 0, none⟩ = some (.bool s) := by rw [hW2]; simp
  have d1 : W2.cell? ⟨w.heap.size + 1, 1, none⟩ = some (.slice a1 n1 c1) := by rw [hW2]; simp
  have d2 : W2.cell? ⟨w.heap.size + 1, 2, none⟩ = some (.slice a2 n2 c2) := by rw [hW2]; simp
  rw [hfb] at hFm
  clear hf hfb h1 h2 hT hr
  go_enter Tryz.func18, Tryz.ntmps18
  go_wp2_with fail
  rw [← hW2]
  clear hW2
  refine hFm.mono ?_
  rintro en w3 ⟨rfl, hb3⟩
  have W3 := next hb2 hb3
  have e0 := cellStay d0 hb3
  have e1 := cellStay d1 hb3
  have e2 := cellStay d2 hb3
  go_wp2_with fail
  refine (hRc w3 W3).mono ?_
  rintro en w4 ⟨rfl, hb4⟩
  go_wp2
  go_ret3
  exact ⟨rfl, next W3 hb4⟩

set_option maxHeartbeats 2000000 in
theorem nbScaled5_mode (a1 a2 : Option Addr) (n1 n2 c1 c2 m : Nat) (e f n : Int) (s neg : Bool) (xs ys : List Nat) (w : World) (h1 : Sl w a1 n1 c1 xs) (h2 : Sl w a2 n2 c2 ys) (hT : Tab w) (hf : formE e f = 0) (hr : ratB s xs ys = true) (hm : 4 < m) :
    Calls Tryz.prog 18 #[.agg #[.int .i64 e, .int .i64 f], .agg #[.bool s, .slice a1 n1 c1, .slice a2 n2 c2], .int .i64 n, .bool neg, .int .u8 (m : Int)] w fun en w' => en = .returned (.tuple #[.int .u64 0, .int .u8 0, .int .i64 7]) ∧ Below w.heap.size w w' := by
  obtain ⟨W2, hW2⟩ : ∃ W2 : World, W2 = (w.alloc (.cells #[.int .i64 e, .int .i64 f] 23)).alloc (.cells #[.bool s, .slice a1 n1 c1, .slice a2 n2 c2] 28) := ⟨_, rfl⟩
  have hb2 : Below w.heap.size w W2 := hW2 ▸ more (more (Below.refl _ _) _) _
  have c0 : W2.cell? ⟨w.heap.size, 0, none⟩ = some (.int .i64 e) := by rw [hW2]; simp [World.cell?_alloc_some]
  have c1' : W2.cell? ⟨w.heap.size, 1, none⟩ = some (.int .i64 f) := by rw [hW2]; simp [World.cell?_alloc_some]
  have hFm := nbForm_any e f W2
  have hfb : formB e f = true := by
    unfold formE at hf
    cases hh : formB e f
    · rw [if_neg (by rw [hh]; decide)] at hf; exact absurd hf (by decide)
    · rfl
  have hRc : ∀ W, Below w.heap.size w W → Calls Tryz.prog 42 #[.agg #[.bool s, .slice a1 n1 c1, .slice a2 n2 c2]] W fun e w' => e = .returned (.int .i64 0) ∧ Below W.heap.size W w' := fun W hW => by
    have := rf2Check_any s a1 a2 n1 n2 c1 c2 xs ys W (h1.below hW) (h2.below hW) (hT.below hW)
    unfold ratE at this
    rwa [if_pos hr] at this
  have d0 : W2.cell? ⟨w.heap.size + 1, 0, none⟩ = some (.bool s) := by rw [hW2]; simp
  have d1 : W2.cell? ⟨w.heap.size + 1, 1, none⟩ = some (.slice a1 n1 c1) := by rw [hW2]; simp
  have d2 : W2.cell? ⟨w.heap.size + 1, 2, none⟩ = some (.slice a2 n2 c2) := by rw [hW2]; simp
  have hm4 : (m : Int) > 4 := by omega
  rw [hfb] at hFm
  clear hf hfb h1 h2 hT hr
  go_enter Tryz.func18, Tryz.ntmps18
  go_wp2_with fail
  rw [← hW2]
  clear hW2
  refine hFm.mono ?_
  rintro en w3 ⟨rfl, hb3⟩
  have W3 := next hb2 hb3
  have e0 := cellStay d0 hb3
  have e1 := cellStay d1 hb3
  have e2 := cellStay d2 hb3
  go_wp2_with fail
  refine (hRc w3 W3).mono ?_
  rintro en w4 ⟨rfl, hb4⟩
  go_wp2
  go_ret3
  exact ⟨rfl, next W3 hb4⟩

set_option maxHeartbeats 2000000 in
theorem nbScaled5_ok (a1 a2 : Option Addr) (n1 n2 c1 c2 E F m : Nat) (n : Int) (s neg : Bool) (xs ys : List Nat) (w : World) (h1 : Sl w a1 n1 c1 xs) (h2 : Sl w a2 n2 c2 ys) (hT : Tab w) (hm : m < 5) (k1 : n1 ≤ 200) (k2 : n2 ≤ 200) (hE2 : 2 ≤ E) (hE11 : E ≤ 11) (hF1 : 1 ≤ F) (hF52 : F ≤ 52) (hf : formE (E : Int) (F : Int) = 0) (hr : ratB s xs ys = true) :
    Calls Tryz.prog 18 #[.agg #[.int .i64 (E : Int), .int .i64 (F : Int)], .agg #[.bool s, .slice a1 n1 c1, .slice a2 n2 c2], .int .i64 n, .bool neg, .int .u8 (m : Int)] w fun en w' => en = .returned (.tuple #[.int .u64 (sgBits E F (scnN (val xs) (val ys) n) (scnD (val xs) (val ys) n) s neg m : Int), .int .u8 (sgFlags E F (scnN (val xs) (val ys) n) (scnD (val xs) (val ys) n) s m : Int), .int .i64 0]) ∧ Below w.heap.size w w' := by
  obtain ⟨fx, fy, hD, hG, hs, l1, l2⟩ := rat_facts h1 h2 hr
  obtain ⟨W2, hW2⟩ : ∃ W2 : World, W2 = (w.alloc (.cells #[.int .i64 (E : Int), .int .i64 (F : Int)] 23)).alloc (.cells #[.bool s, .slice a1 n1 c1, .slice a2 n2 c2] 28) := ⟨_, rfl⟩
  have hb2 : Below w.heap.size w W2 := hW2 ▸ more (more (Below.refl _ _) _) _
  have c0 : W2.cell? ⟨w.heap.size, 0, none⟩ = some (.int .i64 (E : Int)) := by rw [hW2]; simp [World.cell?_alloc_some]
  have c1' : W2.cell? ⟨w.heap.size, 1, none⟩ = some (.int .i64 (F : Int)) := by rw [hW2]; simp [World.cell?_alloc_some]
  have hFm := nbForm_any (E : Int) (F : Int) W2
  have hfb : formB (E : Int) (F : Int) = true := by
    unfold formE at hf
    cases hh : formB (E : Int) (F : Int)
    · rw [if_neg (by rw [hh]; decide)] at hf; exact absurd hf (by decide)
    · rfl
  have hRc : ∀ W, Below w.heap.size w W → Calls Tryz.prog 42 #[.agg #[.bool s, .slice a1 n1 c1, .slice a2 n2 c2]] W fun e w' => e = .returned (.int .i64 0) ∧ Below W.heap.size W w' := fun W hW => by
    have := rf2Check_any s a1 a2 n1 n2 c1 c2 xs ys W (h1.below hW) (h2.below hW) (hT.below hW)
    unfold ratE at this
    rwa [if_pos hr] at this
  have hQ : ∀ W, Below w.heap.size w W → Calls Tryz.prog 44 #[.agg #[.bool s, .slice a1 n1 c1, .slice a2 n2 c2]] W (MkQ 43 (sgQ' s (val xs) (val ys)) W) := fun W hW => rf2Rat_any a1 a2 n1 n2 c1 c2 s xs ys W (h1.below hW) (h2.below hW) fx fy hD l1 l2 (hT.below hW)
  obtain ⟨q1, q2, q3⟩ := mk_low hD hG hs
  have lN : ln (val xs) ≤ 200 := Nat.le_trans (ln_le (val_lt h1.ok)) (by rw [h1.len]; exact k1)
  have lD : ln (val ys) ≤ 200 := Nat.le_trans (ln_le (val_lt h2.ok)) (by rw [h2.len]; exact k2)
  have hTn : ∀ W B b, Below w.heap.size w W → Rq 43 W B b (sgQ' s (val xs) (val ys)) → Calls Tryz.prog 54 #[.pointer (some ⟨b, 0, none⟩), .int .i64 n] W (MkQ 43 (tnQ (sgQ' s (val xs) (val ys)) (nearY n (blN (val xs) + blN (val ys)))) W) := fun W B b hW h => by
    have := nbTens_any B b _ n W h (by rw [q1]; omega) (by rw [q2]; omega) (hT.below hW)
    rwa [q1, q2] at this
  obtain ⟨ts1, ts2⟩ := tens_same hE2 hE11 hF1 hF52 hD hG hs n neg m
  have tsg := (tn_cross (sgQ' s (val xs) (val ys)) (nearY n (blN (val xs) + blN (val ys)))).2
  rw [q3] at tsg
  obtain ⟨tl1, tl2⟩ := tn_len (sgQ' s (val xs) (val ys)) (nearY n (blN (val xs) + blN (val ys)))
  have tlz : (nearY n (blN (val xs) + blN (val ys))).natAbs ≤ 14300 := by
    have m1 := bl_le (val xs)
    have m2 := bl_le (val ys)
    unfold nearY
    omega
  rw [q1] at tl1
  rw [q2] at tl2
  have hB : ∀ W B b, Below w.heap.size w W → Rq 43 W B b (tnQ (sgQ' s (val xs) (val ys)) (nearY n (blN (val xs) + blN (val ys)))) → Calls Tryz.prog 43 #[.agg #[.int .i64 (E : Int), .int .i64 (F : Int)], .pointer (some ⟨b, 0, none⟩), .bool neg, .int .u8 (m : Int)] W fun en w' => en = .returned (.tuple #[.int .u64 (sgBits E F (scnN (val xs) (val ys) n) (scnD (val xs) (val ys) n) s neg m : Int), .int .u8 (sgFlags E F (scnN (val xs) (val ys) n) (scnD (val xs) (val ys) n) s m : Int)]) ∧ Below W.heap.size W w' := fun W B b hW h => by
    have := nbRat_any B b E F m _ neg W h hE2 hE11 hF1 hF52 hm (by omega) (by omega) (hT.below hW)
    rwa [tsg, ts1, ts2] at this
  have d0 : W2.cell? ⟨w.heap.size + 1, 0, none⟩ = some (.bool s) := by rw [hW2]; simp
  have d1 : W2.cell? ⟨w.heap.size + 1, 1, none⟩ = some (.slice a1 n1 c1) := by rw [hW2]; simp
  have d2 : W2.cell? ⟨w.heap.size + 1, 2, none⟩ = some (.slice a2 n2 c2) := by rw [hW2]; simp
  have hm4 : ¬ (m : Int) > 4 := by omega
  rw [hfb] at hFm
  generalize sgBits E F (scnN (val xs) (val ys) n) (scnD (val xs) (val ys) n) s neg m = bb at *
  generalize sgFlags E F (scnN (val xs) (val ys) n) (scnD (val xs) (val ys) n) s m = gg at *
  generalize tnQ (sgQ' s (val xs) (val ys)) (nearY n (blN (val xs) + blN (val ys))) = qt at *
  generalize sgQ' s (val xs) (val ys) = q at *
  clear hf hfb h1 h2 hT hr fx fy hD hG hs l1 l2 q1 q2 q3 lN lD ts1 ts2 tsg tl1 tl2 tlz k1 k2
  go_enter Tryz.func18, Tryz.ntmps18
  go_wp2_with fail
  rw [← hW2]
  clear hW2
  refine hFm.mono ?_
  rintro en w3 ⟨rfl, hb3⟩
  have W3 := next hb2 hb3
  have e0 := cellStay d0 hb3
  have e1 := cellStay d1 hb3
  have e2 := cellStay d2 hb3
  have g0 := cellStay c0 hb3
  have g1 := cellStay c1' hb3
  go_wp2_with fail
  refine (hRc w3 W3).mono ?_
  rintro en w4 ⟨rfl, hb4⟩
  have W4 := next W3 hb4
  have d0 := cellStay e0 hb4
  have d1 := cellStay e1 hb4
  have d2 := cellStay e2 hb4
  have c0 := cellStay g0 hb4
  have c1' := cellStay g1 hb4
  clear e0 e1 e2 g0 g1 hFm hRc
  have kS : ∀ w' : World, Below w4.heap.size w4 w' → (w'.cell? ⟨w.heap.size, 0, none⟩ = some (.int .i64 (E : Int)) ∧ w'.cell? ⟨w.heap.size, 1, none⟩ = some (.int .i64 (F : Int)) ∧ w'.cell? ⟨w.heap.size + 1, 0, none⟩ = some (.bool s) ∧ w'.cell? ⟨w.heap.size + 1, 1, none⟩ = some (.slice a1 n1 c1) ∧ w'.cell? ⟨w.heap.size + 1, 2, none⟩ = some (.slice a2 n2 c2) ∧ Below w4.heap.size w4 w') := fun w' hb => ⟨cellStay c0 hb, cellStay c1' hb, cellStay d0 hb, cellStay d1 hb, cellStay d2 hb, hb⟩
  go_upto_region 8 with fail
  go_region_held3 (fun w' => w'.cell? ⟨w.heap.size, 0, none⟩ = some (.int .i64 (E : Int)) ∧ w'.cell? ⟨w.heap.size, 1, none⟩ = some (.int .i64 (F : Int)) ∧ w'.cell? ⟨w.heap.size + 1, 0, none⟩ = some (.bool s) ∧ w'.cell? ⟨w.heap.size + 1, 1, none⟩ = some (.slice a1 n1 c1) ∧ w'.cell? ⟨w.heap.size + 1, 2, none⟩ = some (.slice a2 n2 c2) ∧ Below w4.heap.size w4 w')
    ((refine kS _ ?_; (repeat (with_reducible (first | exact VB | exact VC | exact VA | exact Below.refl _ _ | refine Below.drew ?_))); done))
    (first
      | (go_at_call 44; (with_reducible refine (hQ _ W4.drew).mono ?_); rintro en wA ⟨t1, rfl, QA, hbA⟩; have VA : Below w4.heap.size w4 wA := (by first | exact hbA | exact undrew hbA))
      | (go_at_call 54; (with_reducible refine (hTn _ _ _ (next W4 VA) QA).mono ?_); rintro en wC ⟨t2, rfl, QC, hbC⟩; have VC := next VA hbC)
      | (go_at_call 43; (with_reducible refine (hB _ _ _ (next W4 VC) QC).mono ?_); rintro en wB ⟨rfl, hbB⟩; have VB := next VC hbB))
  all_goals go_wp2
  all_goals go_ret3
  all_goals exact ⟨rfl, next W4 VB⟩

theorem nbScaled5_any (a1 a2 : Option Addr) (n1 n2 c1 c2 m : Nat) (e f n : Int) (s neg : Bool) (xs ys : List Nat) (w : World) (h1 : Sl w a1 n1 c1 xs) (h2 : Sl w a2 n2 c2 ys) (hT : Tab w) (k1 : n1 ≤ 200) (k2 : n2 ≤ 200) :
    Calls Tryz.prog 18 #[.agg #[.int .i64 e, .int .i64 f], .agg #[.bool s, .slice a1 n1 c1, .slice a2 n2 c2], .int .i64 n, .bool neg, .int .u8 (m : Int)] w fun en w' => en = .returned (.tuple #[.int .u64 (scBits e f s xs ys n neg m : Int), .int .u8 (scFlags e f s xs ys n m : Int), .int .i64 (scErr e f s xs ys m)]) ∧ Below w.heap.size w w' := by
  unfold scBits scFlags
  by_cases hf : formE e f = 0
  · cases hr : ratB s xs ys
    · have hE : scErr e f s xs ys m = 20 := by unfold scErr; rw [if_neg (by simp [hf]), if_pos hr]
      rw [hE]
      exact nbScaled5_rat a1 a2 n1 n2 c1 c2 m e f n s neg xs ys w h1 h2 hT hf hr
    · by_cases hm : 4 < m
      · have hE : scErr e f s xs ys m = 7 := by unfold scErr; rw [if_neg (by simp [hf]), if_neg (by simp [hr]), if_pos hm]
        rw [hE]
        exact nbScaled5_mode a1 a2 n1 n2 c1 c2 m e f n s neg xs ys w h1 h2 hT hf hr hm
      · have hE : scErr e f s xs ys m = 0 := by unfold scErr; rw [if_neg (by simp [hf]), if_neg (by simp [hr]), if_neg hm]
        obtain ⟨e1, e2, f1, f2⟩ := formE_ok hf
        rw [hE, if_pos rfl, if_pos rfl]
        obtain ⟨E, rfl⟩ : ∃ E : Nat, e = (E : Int) := ⟨e.toNat, by omega⟩
        obtain ⟨F, rfl⟩ : ∃ F : Nat, f = (F : Int) := ⟨f.toNat, by omega⟩
        simp only [Int.toNat_natCast]
        exact nbScaled5_ok a1 a2 n1 n2 c1 c2 E F m n s neg xs ys w h1 h2 hT (by omega) k1 k2 (by omega) (by omega) (by omega) (by omega) hf hr
  · have h5 : formE e f = 5 := by unfold formE at hf ⊢; split at hf <;> simp_all
    have hE : scErr e f s xs ys m = 5 := by unfold scErr; rw [if_pos hf]
    rw [hE]
    exact nbScaled5_form a1 a2 n1 n2 c1 c2 m e f n s neg w h5

end Go.Proofs.YtgdhleiokfaeoaaGreatDoor

