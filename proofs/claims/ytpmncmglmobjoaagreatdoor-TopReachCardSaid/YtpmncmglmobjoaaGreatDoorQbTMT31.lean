/-
  Contract of numeral/round: Scaled, Ratio.
-/
import Derived.Test.YtpmncmglmobjoaaGreatDoorQbTMT30
import Derived.Test.YtpmncmglmobjoaaGreatDoorQbTMT18
import Derived.Test.YtpmncmglmobjoaaGreatDoorQbTRtI
set_option maxHeartbeats 6000000
set_option maxRecDepth 100000
namespace Go.Proofs.YtpmncmglmobjoaaGreatDoor
open Go.RowKit Go.Lb
section
attribute [local go_sem ↓] Go.wp_at_zero Go.wp_at_succ
structure PZ (w : World) (b : Nat) : Prop where
 c0 : w.cell? ⟨b, 0, none⟩ = some (.pointer none)
 c1 : w.cell? ⟨b, 1, none⟩ = some (.pointer none)
 z0 : w.frozen? ⟨b, 0, none⟩ = false
 z1 : w.frozen? ⟨b, 1, none⟩ = false
theorem pz_new (w : World) (t : TypeId) : PZ (w.alloc (.cells #[.pointer none, .pointer none] t)) w.heap.size := ⟨by simp, by simp, by simp [go_sem], by simp [go_sem]⟩
theorem PZ.stay {wp w' : World} {b : Nat} (h : PZ wp b) (k : Below wp.heap.size wp w') : PZ w' b := by
 have l := World.block_lt_of_cell? wp ⟨b, 0, none⟩ h.c0
 exact ⟨cellStay h.c0 k, cellStay h.c1 k, (k.frozen (p := ⟨b, 0, none⟩) l).trans h.z0, (k.frozen (p := ⟨b, 1, none⟩) l).trans h.z1⟩
structure NumV (w0 wc : World) (p q1 q2 N D : Nat) : Prop where
 c0 : wc.cell? ⟨p, 0, none⟩ = some (.pointer (some ⟨q1, 0, none⟩))
 c1 : wc.cell? ⟨p, 1, none⟩ = some (.pointer (some ⟨q2, 0, none⟩))
 i1 : ∃ ao k c, In 40 wc w0.heap.size q1 false ao k c N ∧ blkOf ao ≠ some q2
 i2 : ∃ ao k c, In 40 wc w0.heap.size q2 false ao k c D ∧ blkOf ao ≠ some q1
 n12 : q1 ≠ q2
 np1 : p ≠ q1
 np2 : p ≠ q2
 hp : w0.heap.size ≤ p
 below : Below w0.heap.size w0 wc
theorem num_core {w0 wA wB : World} {bA bB q1 q2 N D : Nat} (hA : Iz 40 wA bA q1 (N : Int)) (hB : Iz 40 wB bB q2 (D : Int)) (hAB : Below wA.heap.size wA wB) (h1 : w0.heap.size ≤ bA) (h2 : wA.heap.size ≤ bB) :
 ∃ a1 k1 c1 a2 k2 c2, In 40 wB w0.heap.size q1 false a1 k1 c1 N ∧ In 40 wB w0.heap.size q2 false a2 k2 c2 D ∧ blkOf a1 ≠ some q2 ∧ blkOf a2 ≠ some q1 ∧ q1 ≠ q2 ∧ ∀ p, (p < bA ∨ wA.heap.size ≤ p ∧ p < bB) → blkOf a1 ≠ some p ∧ blkOf a2 ≠ some p ∧ p ≠ q1 ∧ p ≠ q2 := by
 obtain ⟨a1, k1, c1, i1⟩ := iz_nat hA
 obtain ⟨a2, k2, c2, i2⟩ := iz_nat hB
 have l1 := i1.lt
 have g1 := i1.hb
 have g2 := i2.hb
 have f1 : ∀ g, blkOf a1 = some g → bA ≤ g ∧ g < wA.heap.size := fun g hg => fr_lt i1.fr hg
 have f2 : ∀ g, blkOf a2 = some g → bB ≤ g := fun g hg => (fr_lt i2.fr hg).1
 refine ⟨a1, k1, c1, a2, k2, c2, (i1.stay hAB).mono h1, i2.mono (by have := hA.lt; omega), fun h => ?_, fun h => ?_, by omega, fun p hp => ⟨fun h => ?_, fun h => ?_, by omega, by omega⟩⟩
 · have := f1 _ h; omega
 · have := f2 _ h; omega
 · have := f1 _ h; omega
 · have := f2 _ h; omega
theorem numv_set {w0 wA wB : World} {bA bB q1 q2 N D : Nat} (hA : Iz 40 wA bA q1 (N : Int)) (hB : Iz 40 wB bB q2 (D : Int)) (hAB : Below wA.heap.size wA wB) (h1 : w0.heap.size ≤ bA) (h2 : wA.heap.size ≤ bB) (hb : Below w0.heap.size w0 wB) {p : Nat} (hx : PZ wB p) (hp : w0.heap.size ≤ p) (hpl : p < bA ∨ wA.heap.size ≤ p ∧ p < bB) :
 NumV w0 ((wB.setCell ⟨p, 0, none⟩ (.pointer (some ⟨q1, 0, none⟩))).setCell ⟨p, 1, none⟩ (.pointer (some ⟨q2, 0, none⟩))) p q1 q2 N D := by
 obtain ⟨a1, k1, c1, a2, k2, c2, i1, i2, n1, n2, n12, hn⟩ := num_core hA hB hAB h1 h2
 obtain ⟨m1, m2, m3, m4⟩ := hn p hpl
 have hg := grown_trans (grown_set wB p 0 (.pointer (some ⟨q1, 0, none⟩))) (grown_set _ p 1 (.pointer (some ⟨q2, 0, none⟩)))
 refine ⟨?_, ?_, ⟨a1, k1, c1, i1.other hg (Ne.symm m3) m1, n1⟩, ⟨a2, k2, c2, i2.other hg (Ne.symm m4) m2, n2⟩, n12, m3, m4, hp, hb.grown hg hb.size (fun k hk => by cases hk; exact hp)⟩
 · rw [World.cell?_setCell_other _ _ _ _ (by simp)]
   exact World.cell?_setCell_same _ _ _ hx.c0
 · exact World.cell?_setCell_same _ _ _ ((World.cell?_setCell_other _ _ _ _ (by simp)).trans hx.c1)
theorem numv_new {w0 wA wB : World} {bA bB q1 q2 N D : Nat} (hA : Iz 40 wA bA q1 (N : Int)) (hB : Iz 40 wB bB q2 (D : Int)) (hAB : Below wA.heap.size wA wB) (h1 : w0.heap.size ≤ bA) (h2 : wA.heap.size ≤ bB) (hb : Below w0.heap.size w0 wB) (t : TypeId) :
 NumV w0 (wB.alloc (.cells #[.pointer (some ⟨q1, 0, none⟩), .pointer (some ⟨q2, 0, none⟩)] t)) wB.heap.size q1 q2 N D := by
 obtain ⟨a1, k1, c1, a2, k2, c2, i1, i2, n1, n2, n12, _⟩ := num_core hA hB hAB h1 h2
 have l1 := i1.lt
 have l2 := i2.lt
 exact ⟨by simp, by simp, ⟨a1, k1, c1, i1.stay (more (Below.refl _ _) _), n1⟩, ⟨a2, k2, c2, i2.stay (more (Below.refl _ _) _), n2⟩, n12, by omega, by omega, hb.size, more hb _⟩
def scnN (N D : Nat) (n : Int) : Nat := N * 10 ^ (nearZ n (blN N + blN D)).toNat
def scnD (N D : Nat) (n : Int) : Nat := D * 10 ^ (-(nearZ n (blN N + blN D))).toNat
theorem rdScaled_ok (a1 a2 : Option Addr) (n1 n2 c1 c2 E F m : Nat) (n : Int) (s neg : Bool) (xs ys : List Nat) (w : World) (h1 : Sl w a1 n1 c1 xs) (h2 : Sl w a2 n2 c2 ys) (hT : Tab w) (hm : m < 5) (l1 : n1 ≤ 400) (l2 : n2 ≤ 400) (hE2 : 2 ≤ E) (hE11 : E ≤ 11) (hF1 : 1 ≤ F) (hF52 : F ≤ 52) (hf : formE (E : Int) (F : Int) = 0) (hr : ratB s xs ys = true) :
 Calls Tryz.prog 21 #[.agg #[.int .i64 (E : Int), .int .i64 (F : Int)], .agg #[.bool s, .slice a1 n1 c1, .slice a2 n2 c2], .int .i64 n, .bool neg, .int .u8 (m : Int)] w fun e w' => e = .returned (.tuple #[.int .u64 (sgBits E F (scnN (val xs) (val ys) n) (scnD (val xs) (val ys) n) s neg m : Int), .int .u8 (sgFlags E F (scnN (val xs) (val ys) n) (scnD (val xs) (val ys) n) s m : Int), .int .i64 0]) ∧ Below w.heap.size w w' := by
 obtain ⟨W2, hW2⟩ : ∃ W2 : World, W2 = (w.alloc (.cells #[.int .i64 (E : Int), .int .i64 (F : Int)] 23)).alloc (.cells #[.bool s, .slice a1 n1 c1, .slice a2 n2 c2] 29) := ⟨_, rfl⟩
 have hb2 : Below w.heap.size w W2 := hW2 ▸ more (more (Below.refl _ _) _) _
 have c0 : W2.cell? ⟨w.heap.size, 0, none⟩ = some (.int .i64 (E : Int)) := by rw [hW2]; simp [World.cell?_alloc_some]
 have c1' : W2.cell? ⟨w.heap.size, 1, none⟩ = some (.int .i64 (F : Int)) := by rw [hW2]; simp [World.cell?_alloc_some]
 have d0 : W2.cell? ⟨w.heap.size + 1, 0, none⟩ = some (.bool s) := by rw [hW2]; simp
 have d0' := d0
 have d1 : W2.cell? ⟨w.heap.size + 1, 1, none⟩ = some (.slice a1 n1 c1) := by rw [hW2]; simp
 have d2 : W2.cell? ⟨w.heap.size + 1, 2, none⟩ = some (.slice a2 n2 c2) := by rw [hW2]; simp
 have hs2 : Hid (W2.heap.size = w.heap.size + 2) := Lib.hid (by rw [hW2]; simp)
 have hFc := formCheck_any (E : Int) (F : Int) W2
 rw [hf] at hFc
 have hRc : ∀ W, Below w.heap.size w W → Calls Tryz.prog 46 #[.agg #[.bool s, .slice a1 n1 c1, .slice a2 n2 c2]] W fun e w' => e = .returned (.int .i64 0) ∧ Below W.heap.size W w' := fun W hW => by
  have := rtCheck_any s a1 a2 n1 n2 c1 c2 xs ys W (h1.below hW) (h2.below hW) (hT.below hW)
  unfold ratE at this
  rwa [if_pos hr] at this
 have hL1 : ∀ W, Below w.heap.size w W → Calls Tryz.prog 47 #[.agg #[.slice a1 n1 c1]] W (MkZ 40 (val xs : Int) W) := fun W hW => rdLarge_any a1 n1 c1 xs W (h1.below hW) (by omega)
 have hL2 : ∀ W, Below w.heap.size w W → Calls Tryz.prog 47 #[.agg #[.slice a2 n2 c2]] W (MkZ 40 (val ys : Int) W) := fun W hW => rdLarge_any a2 n2 c2 ys W (h2.below hW) (by omega)
 have hlN : ln (val xs) ≤ 400 := Nat.le_trans (ln_le (val_lt h1.ok)) (by rw [h1.len]; exact l1)
 have hlD : ln (val ys) ≤ 400 := Nat.le_trans (ln_le (val_lt h2.ok)) (by rw [h2.len]; exact l2)
 have hD0 : val ys ≠ 0 := by
  unfold ratB at hr
  have := (of_decide_eq_true hr)
  obtain ⟨_, hy, hl, _, _⟩ := this
  exact fun h => hl ((val_zero_iff h2.ok hy).1 h)
 have hm4 : ¬ (m : Int) > 4 := by omega
 generalize val xs = N at *
 generalize val ys = D at *
 clear hf hr hT h1 h2 l1 l2
 go_enter Tryz.func21, Tryz.ntmps21
 go_wp2_with fail
 rw [← hW2]
 clear hW2
 refine hFc.mono ?_
 rintro en w3 ⟨rfl, hb3⟩
 have W3 := next hb2 hb3
 have e0 := cellStay d0 hb3
 have e1 := cellStay d1 hb3
 have e2 := cellStay d2 hb3
 go_wp2_with fail
 refine (hRc w3 W3).mono ?_
 rintro en w4 ⟨rfl, hb4⟩
 have W4 := next W3 hb4
 have V4 := next hb3 hb4
 have d4 := cellStay d0' V4
 clear d0'
 have g0 := cellStay e0 hb4
 have g1 := cellStay e1 hb4
 have g2 := cellStay e2 hb4
 have f0 := cellStay c0 V4
 have f1 := cellStay c1' V4
 clear hFc hRc e0 e1 e2 d0 d1 d2 c0 c1' hb3 hb4 W3
 go_upto_region 7 with fail
 have hp4 : w.heap.size + 1 < w4.heap.size := by have := V4.size; have := hs2.out; omega
 have hP4 := Lib.hid hp4
 clear hp4
 go_cut [13] from 26 to 32 (fun v wc => ∃ p q1 q2, v = .pointer (some ⟨p, 0, none⟩) ∧ NumV w4 wc p q1 q2 N D)
 case first =>
  have kS : ∀ w' : World, Below w4.heap.size w4 w' → (w'.cell? ⟨w.heap.size + 1, 1, none⟩ = some (.slice a1 n1 c1) ∧ w'.cell? ⟨w.heap.size + 1, 2, none⟩ = some (.slice a2 n2 c2) ∧ Below w4.heap.size w4 w') := fun w' hb => ⟨cellStay g1 hb, cellStay g2 hb, hb⟩
  go_region_held3 (fun w' => w'.cell? ⟨w.heap.size + 1, 1, none⟩ = some (.slice a1 n1 c1) ∧ w'.cell? ⟨w.heap.size + 1, 2, none⟩ = some (.slice a2 n2 c2) ∧ Below w4.heap.size w4 w')
   ((refine kS _ ?_; (repeat (with_reducible (first | exact VB | exact VA | exact Below.refl _ _ | refine Below.drew ?_ | refine more ?_ _ | refine Below.setCell ?_ ?_ _ | exact Nat.le_refl _ | exact hsA | exact Nat.le_trans hsA hsB))); done))
   (first
     | (go_at_call 47; (with_reducible refine (hL1 _ ?_).mono ?_); (first | exact W4.drew | exact (more W4 _).drew | exact W4 | exact more W4 _); rintro en wA ⟨q1, rfl, IA, hbA⟩; have VA : Below w4.heap.size w4 wA := (by first | exact hbA | exact undrew hbA | exact next (more (Below.refl _ _) _) hbA | exact next (more (Below.refl _ _) _).drew hbA); (try have Z := (pz_new w4 92).stay (by first | exact hbA | exact undrew hbA)); (try have ⟨z0, z1, z2, z3⟩ := Z); have hsA := VA.size)
     | (go_at_call 47; (with_reducible refine (hL2 _ ?_).mono ?_); (first | exact next W4 VA | exact more (next W4 VA) _); rintro en wB ⟨q2, rfl, IB, hbB⟩; have hAB : Below wA.heap.size wA wB := (by first | exact hbB | exact next (more (Below.refl _ _) _) hbB); have VB := next VA hAB; have hsB := hAB.size; (try have ZZ := Z.stay hAB); (try have ⟨y0, y1, y2, y3⟩ := ZZ); (try have YY := (pz_new wA 92).stay hbB); (try have ⟨y4, y5, y6, y7⟩ := YY)))
  all_goals go_split_ands
  all_goals go_wp2
  all_goals go_meet
  all_goals (first
   | exact ⟨_, _, _, rfl, numv_new IA IB hAB (by simp) (by simp) VB _⟩
   | exact ⟨_, _, _, rfl, numv_set IA IB hAB (by simp) (by simp) VB YY hsA (.inr ⟨Nat.le_refl _, by simp⟩)⟩
   | exact ⟨_, _, _, rfl, numv_set IA IB hAB (by simp) (by simp) VB ZZ (Nat.le_refl _) (.inl (by simp))⟩)
 case rest =>
  obtain ⟨p, q1, q2, rfl, hV⟩ := hcut
  obtain ⟨v0, v1, ⟨ao1, k1, e1, i1, j1⟩, ⟨ao2, k2, e2, i2, j2⟩, n12, np1, np2, hp, hVb⟩ := hV
  have Wx := next W4 hVb
  have x0 := cellStay f0 hVb
  have x1 := cellStay f1 hVb
  have y0 := cellStay d4 hVb
  clear f0 f1 g0 g1 g2 d4 hL1 hL2
  have m1 := bl_le N
  have m2 := bl_le D
  have hB1 : ∀ W, Below wc.heap.size wc W → Calls Tryz.prog 49 #[.pointer (some ⟨q1, 0, none⟩)] W fun e w' => e = .returned (.int .i64 (blN N : Int)) ∧ W = w' := fun W hW => by
   have := bgBitLenZ_any q1 w4.heap.size (N : Int) W (Iz.stay ⟨ao1, k1, e1, by rw [nonneg_dec (by omega), Int.natAbs_natCast]; exact i1⟩ hW) (by rw [Int.natAbs_natCast]; omega)
   rwa [Int.natAbs_natCast] at this
  have hB2 : ∀ W, Below wc.heap.size wc W → Calls Tryz.prog 49 #[.pointer (some ⟨q2, 0, none⟩)] W fun e w' => e = .returned (.int .i64 (blN D : Int)) ∧ W = w' := fun W hW => by
   have := bgBitLenZ_any q2 w4.heap.size (D : Int) W (Iz.stay ⟨ao2, k2, e2, by rw [nonneg_dec (by omega), Int.natAbs_natCast]; exact i2⟩ hW) (by rw [Int.natAbs_natCast]; omega)
   rwa [Int.natAbs_natCast] at this
  obtain ⟨b, hb⟩ : ∃ b, b = blN N + blN D := ⟨_, rfl⟩
  obtain ⟨nz, hnz⟩ : ∃ nz, nz = nearZ n b := ⟨_, rfl⟩
  have hNr := fun W => rdNear_any n b W (by omega)
  rw [← hnz] at hNr
  have hbw : (blN N : Int) + (blN D : Int) = (b : Int) := by omega
  have hbb : IntKind.i64.wrap (b : Int) = (b : Int) := IntWalk.i64_in _ (by omega)
  have hbl : b ≤ 25600 := by omega
  have hz1 : -26800 ≤ nz ∧ nz ≤ 26800 := by rw [hnz]; unfold nearZ; omega
  obtain ⟨T, hT⟩ : ∃ T, T = 10 ^ nz.natAbs := ⟨_, rfl⟩
  have hSN0 : scnN N D n = N * 10 ^ nz.toNat := by rw [hnz, hb]; rfl
  have hSD0 : scnD N D n = D * 10 ^ (-nz).toNat := by rw [hnz, hb]; rfl
  obtain ⟨SN, hQN⟩ : ∃ SN, Hid (scnN N D n = SN) := ⟨_, Lib.hid rfl⟩
  obtain ⟨SD, hQD⟩ : ∃ SD, Hid (scnD N D n = SD) := ⟨_, Lib.hid rfl⟩
  rw [hQN.out] at hSN0
  rw [hQD.out] at hSD0
  have lT : ln T ≤ 26801 := by
   have := ln_pow 10 nz.natAbs
   have h10 : ln 10 ≤ 1 := ln_small (by decide)
   rw [hT]
   refine Nat.le_trans this ?_
   have := Nat.mul_le_mul_left nz.natAbs h10
   omega
  have hT0 : T ≠ 0 := by rw [hT]; exact Nat.ne_of_gt (Nat.pos_of_ne_zero (by simp))
  have u1 : blN N ≤ 12800 := by omega
  have u2 : blN D ≤ 12800 := by omega
  have hql : w4.heap.size ≤ q1 ∧ w4.heap.size ≤ q2 := ⟨i1.hb, i2.hb⟩
  clear hb m1 m2 hnz
  generalize blN N = nb at *
  generalize blN D = db at *
  obtain ⟨wp, hwp⟩ : ∃ wp, wp = wc := ⟨_, rfl⟩
  subst hwp
  go_upto_region 8 with fail
  go_cut [2] from 33 to 41 (fun v wx => v = .int .i64 nz ∧ Below wp.heap.size wp wx)
  case first =>
   go_region_held3 (fun w' => w'.cell? ⟨p, 0, none⟩ = some (.pointer (some ⟨q1, 0, none⟩)) ∧ w'.cell? ⟨p, 1, none⟩ = some (.pointer (some ⟨q2, 0, none⟩)))
    ((go_keep; done))
    (first
      | (go_at_call 49; (with_reducible refine (hB1 _ ?_).mono ?_); (exact (Below.refl _ _).drew); rintro en wB ⟨rfl, rfl⟩)
      | (go_at_call 49; (with_reducible refine (hB2 _ ?_).mono ?_); (exact (Below.refl _ _).drew); rintro en wB ⟨rfl, rfl⟩)
      | (go_at_call 48; (with_reducible refine (hNr _).mono ?_); rintro en wB ⟨rfl, rfl⟩))
   all_goals go_wp2
   all_goals go_meet
   all_goals exact ⟨rfl, (Below.refl _ _).drew⟩
  case rest =>
   obtain ⟨rfl, hbd⟩ := hcut
   clear hB1 hB2 hNr
   have hk : ((nz.natAbs : Nat) : Int) = max nz (-nz) := by omega
   have hwn : IntKind.i64.wrap (-nz) = -nz := IntWalk.i64_in _ (by omega)
   have HN : ∀ W, Calls Tryz.prog 51 #[.int .i64 10] W (MkZ 40 10 W) := fun W => bgNewZ_any 10 W (by decide)
   have HM : ∀ W, Calls Tryz.prog 51 #[.int .i64 (max nz (-nz))] W (MkZ 40 (nz.natAbs : Int) W) := fun W => by
    rw [← hk]
    exact bgNewZ_any _ W (by omega)
   generalize hmx : max nz (-nz) = mx at *
   obtain ⟨w5, hw5⟩ : ∃ w5 : World, w5 = wc.alloc (.cells #[.bool false, .slice none 0 0] 86) := ⟨_, rfl⟩
   have hz5 : Zc w5 wc.heap.size := hw5 ▸ zc_new _ _ _ _
   have hb5 : Below wp.heap.size wp w5 := hw5 ▸ more hbd _
   have hb5' : Below wc.heap.size wc w5 := hw5 ▸ more (Below.refl _ _) _
   have hs5 : wc.heap.size < w5.heap.size := by rw [hw5]; simp
   go_wp2_with fail
   rw [← hw5]
   clear hw5
   refine (HN w5).mono ?_
   rintro en w6 ⟨bt, rfl, IT, hb6⟩
   go_wp2_with fail
   refine (HM w6).mono ?_
   rintro en w7 ⟨bm, rfl, IK, hb7⟩
   rw [show (10 : Int) = ((10 : Nat) : Int) from rfl] at IT
   have h10 : ln 10 ≤ 1 := ln_small (by decide)
   have hE := bgExp_any wc.heap.size wc.heap.size w5.heap.size w6.heap.size bt bm 10 nz.natAbs w7 ((hz5.stay hb6).stay hb7) (by have := hb6.size; have := hb7.size; omega) (IT.stay hb7) IK (by have := Nat.mul_le_mul_left nz.natAbs h10; omega) (by omega) (Nat.le_trans (ln_small (by omega)) (by omega))
   rw [← hT] at hE
   go_wp2_with fail
   refine hE.mono ?_
   rintro en w8 hS8
   have hb7' : Below wc.heap.size wc w7 := next (next hb5' hb6) hb7
   have hb8 : Below wc.heap.size wc w8 := hS8.below hb7' hb7'.size (Nat.le_refl _)
   obtain ⟨rfl, IT8, _⟩ := hS8.in_ ((hz5.stay hb6).stay hb7) (Nat.le_refl _)
   have hpx : Below wp.heap.size wp w8 := next hbd hb8
   clear hE hS8 IK IT HN HM hz5 hb5 hb5' hb6 hb7 hb7'
   generalize wc.heap.size = zb at *
   have hvs := hVb.size
   have r0 := cellStay v0 hpx
   have r1 := cellStay v1 hpx
   have hpl : p < w8.heap.size := World.block_lt_of_cell? w8 ⟨p, 0, none⟩ r0
   have hP4' := hP4.out
   by_cases hneg : nz < 0
   · have hSN : SN = N := by rw [hSN0, show nz.toNat = 0 by omega]; simp
     have hSD : SD = D * T := by rw [hSD0, hT, show (-nz).toNat = nz.natAbs by omega]
     clear hSN0 hSD0 hT
     have lSD : ln SD ≤ 27201 := by rw [hSD]; exact Nat.le_trans (ln_mul _ _) (by omega)
     have hSD00 : SD ≠ 0 := by rw [hSD]; exact Nat.mul_ne_zero hD0 hT0
     have IX : Iz 40 w8 w4.heap.size q2 (D : Int) := by
      refine ⟨ao2, k2, e2, ?_⟩
      rw [nonneg_dec (by omega), Int.natAbs_natCast]
      exact i2.stay hpx
     have hM := bgIMul_any q2 w4.heap.size w4.heap.size zb q2 zb (D : Int) (T : Int) w8 (IX.zc) (by have := hpx.size; omega) IX IT8 (by rw [Int.natAbs_natCast]; omega) (by rw [Int.natAbs_natCast]; omega)
     go_wp2_with fail
     refine hM.mono ?_
     rintro en w9 hS9
     obtain ⟨rfl, IM, hg9⟩ := hS9.in_ IX.zc IX.le
     have hk9 : ∀ r o, r < w8.heap.size → r ≠ q2 → w9.cell? ⟨r, o, none⟩ = w8.cell? ⟨r, o, none⟩ := fun r o hl hne => World.cell?_of_block (hg9.block r hl (fun e => hne (by cases e; rfl)))
     have KO : Iz 40 w9 w4.heap.size q1 (N : Int) := by
      refine ⟨ao1, k1, e1, ?_⟩
      rw [nonneg_dec (by omega), Int.natAbs_natCast]
      exact (i1.stay hpx).other hg9 n12 j1
     have KM : Iz 40 w9 w4.heap.size q2 ((SD : Nat) : Int) := by
      rw [show ((SD : Nat) : Int) = (D : Int) * (T : Int) by rw [hSD]; simp]
      exact IM
     have hz8 := hpx.size
     have e0 := (hk9 w.heap.size 0 (by omega) (by have := hql; omega)).trans (cellStay x0 hpx)
     have e1' := (hk9 w.heap.size 1 (by omega) (by have := hql; omega)).trans (cellStay x1 hpx)
     have e2' := (hk9 (w.heap.size + 1) 0 (by omega) (by have := hql; omega)).trans (cellStay y0 hpx)
     have e3 := (hk9 p 0 (by omega) np2).trans r0
     have e4 := (hk9 p 1 (by omega) np2).trans r1
     have W9 : Below w.heap.size w w9 := (next Wx hpx).grown hg9 (by omega) (fun k hk => by cases hk; omega)
     have hSg := rdSigned_any w4.heap.size w4.heap.size q1 q2 N SD E F m s neg w9 KO KM (by omega) hm (by omega) (by omega) hE2 hE11 hF1 hF52
     clear hM IX IT8 hk9 IM KO KM x0 x1 y0 v0 v1 r0 r1 hg9 hS9
     go_wp2_with fail
     refine hSg.mono ?_
     rintro en w10 ⟨rfl, hb10⟩
     go_wp2
     go_ret3
     exact ⟨by rw [hQN.out, hQD.out, hSN, hSD]; rfl, next W9 hb10⟩
   · have hSN : SN = N * T := by rw [hSN0, hT, show nz.toNat = nz.natAbs by omega]
     have hSD : SD = D := by rw [hSD0, show (-nz).toNat = 0 by omega]; simp
     clear hSN0 hSD0 hT
     have lSN : ln SN ≤ 27201 := by rw [hSN]; exact Nat.le_trans (ln_mul _ _) (by omega)
     have IX : Iz 40 w8 w4.heap.size q1 (N : Int) := by
      refine ⟨ao1, k1, e1, ?_⟩
      rw [nonneg_dec (by omega), Int.natAbs_natCast]
      exact i1.stay hpx
     have hM := bgIMul_any q1 w4.heap.size w4.heap.size zb q1 zb (N : Int) (T : Int) w8 (IX.zc) (by have := hpx.size; omega) IX IT8 (by rw [Int.natAbs_natCast]; omega) (by rw [Int.natAbs_natCast]; omega)
     go_wp2_with fail
     refine hM.mono ?_
     rintro en w9 hS9
     obtain ⟨rfl, IM, hg9⟩ := hS9.in_ IX.zc IX.le
     have hk9 : ∀ r o, r < w8.heap.size → r ≠ q1 → w9.cell? ⟨r, o, none⟩ = w8.cell? ⟨r, o, none⟩ := fun r o hl hne => World.cell?_of_block (hg9.block r hl (fun e => hne (by cases e; rfl)))
     have KO : Iz 40 w9 w4.heap.size q2 (D : Int) := by
      refine ⟨ao2, k2, e2, ?_⟩
      rw [nonneg_dec (by omega), Int.natAbs_natCast]
      exact (i2.stay hpx).other hg9 (Ne.symm n12) j2
     have KM : Iz 40 w9 w4.heap.size q1 ((SN : Nat) : Int) := by
      rw [show ((SN : Nat) : Int) = (N : Int) * (T : Int) by rw [hSN]; simp]
      exact IM
     have hz8 := hpx.size
     have e0 := (hk9 w.heap.size 0 (by omega) (by have := hql; omega)).trans (cellStay x0 hpx)
     have e1' := (hk9 w.heap.size 1 (by omega) (by have := hql; omega)).trans (cellStay x1 hpx)
     have e2' := (hk9 (w.heap.size + 1) 0 (by omega) (by have := hql; omega)).trans (cellStay y0 hpx)
     have e3 := (hk9 p 0 (by omega) np1).trans r0
     have e4 := (hk9 p 1 (by omega) np1).trans r1
     have W9 : Below w.heap.size w w9 := (next Wx hpx).grown hg9 (by omega) (fun k hk => by cases hk; omega)
     have hSg := rdSigned_any w4.heap.size w4.heap.size q1 q2 SN D E F m s neg w9 KM KO hD0 hm (by omega) (by omega) hE2 hE11 hF1 hF52
     clear hM IX IT8 hk9 IM KO KM x0 x1 y0 v0 v1 r0 r1 hg9 hS9
     go_wp2_with fail
     refine hSg.mono ?_
     rintro en w10 ⟨rfl, hb10⟩
     go_wp2
     go_ret3
     exact ⟨by rw [hQN.out, hQD.out, hSN, hSD]; rfl, next W9 hb10⟩
theorem rdScaled_form (a1 a2 : Option Addr) (n1 n2 c1 c2 m : Nat) (e f n : Int) (s neg : Bool) (w : World) (hf : formE e f = 5) :
 Calls Tryz.prog 21 #[.agg #[.int .i64 e, .int .i64 f], .agg #[.bool s, .slice a1 n1 c1, .slice a2 n2 c2], .int .i64 n, .bool neg, .int .u8 (m : Int)] w fun en w' => en = .returned (.tuple #[.int .u64 0, .int .u8 0, .int .i64 5]) ∧ Below w.heap.size w w' := by
 obtain ⟨W2, hW2⟩ : ∃ W2 : World, W2 = (w.alloc (.cells #[.int .i64 e, .int .i64 f] 23)).alloc (.cells #[.bool s, .slice a1 n1 c1, .slice a2 n2 c2] 29) := ⟨_, rfl⟩
 have hb2 : Below w.heap.size w W2 := hW2 ▸ more (more (Below.refl _ _) _) _
 have c0 : W2.cell? ⟨w.heap.size, 0, none⟩ = some (.int .i64 e) := by rw [hW2]; simp [World.cell?_alloc_some]
 have c1' : W2.cell? ⟨w.heap.size, 1, none⟩ = some (.int .i64 f) := by rw [hW2]; simp [World.cell?_alloc_some]
 have d0 : W2.cell? ⟨w.heap.size + 1, 0, none⟩ = some (.bool s) := by rw [hW2]; simp
 have d1 : W2.cell? ⟨w.heap.size + 1, 1, none⟩ = some (.slice a1 n1 c1) := by rw [hW2]; simp
 have d2 : W2.cell? ⟨w.heap.size + 1, 2, none⟩ = some (.slice a2 n2 c2) := by rw [hW2]; simp
 have hFc := formCheck_any e f W2
 rw [hf] at hFc
 clear hf
 go_enter Tryz.func21, Tryz.ntmps21
 go_wp2_with fail
 rw [← hW2]
 clear hW2
 refine hFc.mono ?_
 rintro en w3 ⟨rfl, hb3⟩
 go_wp2_with fail
 go_ret3
 exact ⟨rfl, next hb2 hb3⟩
theorem rdScaled_rat (a1 a2 : Option Addr) (n1 n2 c1 c2 m : Nat) (e f n : Int) (s neg : Bool) (xs ys : List Nat) (w : World) (h1 : Sl w a1 n1 c1 xs) (h2 : Sl w a2 n2 c2 ys) (hT : Tab w) (hf : formE e f = 0) (hr : ratB s xs ys = false) :
 Calls Tryz.prog 21 #[.agg #[.int .i64 e, .int .i64 f], .agg #[.bool s, .slice a1 n1 c1, .slice a2 n2 c2], .int .i64 n, .bool neg, .int .u8 (m : Int)] w fun en w' => en = .returned (.tuple #[.int .u64 0, .int .u8 0, .int .i64 20]) ∧ Below w.heap.size w w' := by
 obtain ⟨W2, hW2⟩ : ∃ W2 : World, W2 = (w.alloc (.cells #[.int .i64 e, .int .i64 f] 23)).alloc (.cells #[.bool s, .slice a1 n1 c1, .slice a2 n2 c2] 29) := ⟨_, rfl⟩
 have hb2 : Below w.heap.size w W2 := hW2 ▸ more (more (Below.refl _ _) _) _
 have c0 : W2.cell? ⟨w.heap.size, 0, none⟩ = some (.int .i64 e) := by rw [hW2]; simp [World.cell?_alloc_some]
 have c1' : W2.cell? ⟨w.heap.size, 1, none⟩ = some (.int .i64 f) := by rw [hW2]; simp [World.cell?_alloc_some]
 have d0 : W2.cell? ⟨w.heap.size + 1, 0, none⟩ = some (.bool s) := by rw [hW2]; simp
 have d1 : W2.cell? ⟨w.heap.size + 1, 1, none⟩ = some (.slice a1 n1 c1) := by rw [hW2]; simp
 have d2 : W2.cell? ⟨w.heap.size + 1, 2, none⟩ = some (.slice a2 n2 c2) := by rw [hW2]; simp
 have hFc := formCheck_any e f W2
 rw [hf] at hFc
 have hRc : ∀ W, Below w.heap.size w W → Calls Tryz.prog 46 #[.agg #[.bool s, .slice a1 n1 c1, .slice a2 n2 c2]] W fun e w' => e = .returned (.int .i64 20) ∧ Below W.heap.size W w' := fun W hW => by
  have := rtCheck_any s a1 a2 n1 n2 c1 c2 xs ys W (h1.below hW) (h2.below hW) (hT.below hW)
  unfold ratE at this
  rwa [hr, if_neg (by decide)] at this
 clear hf hr h1 h2 hT
 go_enter Tryz.func21, Tryz.ntmps21
 go_wp2_with fail
 rw [← hW2]
 clear hW2
 refine hFc.mono ?_
 rintro en w3 ⟨rfl, hb3⟩
 have W3 := next hb2 hb3
 have e0 := cellStay d0 hb3
 have e1 := cellStay d1 hb3
 have e2 := cellStay d2 hb3
 go_wp2_with fail
 refine (hRc w3 W3).mono ?_
 rintro en w4 ⟨rfl, hb4⟩
 go_wp2_with fail
 go_ret3
 exact ⟨rfl, next W3 hb4⟩
theorem rdScaled_mode (a1 a2 : Option Addr) (n1 n2 c1 c2 m : Nat) (e f n : Int) (s neg : Bool) (xs ys : List Nat) (w : World) (h1 : Sl w a1 n1 c1 xs) (h2 : Sl w a2 n2 c2 ys) (hT : Tab w) (hf : formE e f = 0) (hr : ratB s xs ys = true) (hm : 4 < m) :
 Calls Tryz.prog 21 #[.agg #[.int .i64 e, .int .i64 f], .agg #[.bool s, .slice a1 n1 c1, .slice a2 n2 c2], .int .i64 n, .bool neg, .int .u8 (m : Int)] w fun en w' => en = .returned (.tuple #[.int .u64 0, .int .u8 0, .int .i64 7]) ∧ Below w.heap.size w w' := by
 obtain ⟨W2, hW2⟩ : ∃ W2 : World, W2 = (w.alloc (.cells #[.int .i64 e, .int .i64 f] 23)).alloc (.cells #[.bool s, .slice a1 n1 c1, .slice a2 n2 c2] 29) := ⟨_, rfl⟩
 have hb2 : Below w.heap.size w W2 := hW2 ▸ more (more (Below.refl _ _) _) _
 have c0 : W2.cell? ⟨w.heap.size, 0, none⟩ = some (.int .i64 e) := by rw [hW2]; simp [World.cell?_alloc_some]
 have c1' : W2.cell? ⟨w.heap.size, 1, none⟩ = some (.int .i64 f) := by rw [hW2]; simp [World.cell?_alloc_some]
 have d0 : W2.cell? ⟨w.heap.size + 1, 0, none⟩ = some (.bool s) := by rw [hW2]; simp
 have d1 : W2.cell? ⟨w.heap.size + 1, 1, none⟩ = some (.slice a1 n1 c1) := by rw [hW2]; simp
 have d2 : W2.cell? ⟨w.heap.size + 1, 2, none⟩ = some (.slice a2 n2 c2) := by rw [hW2]; simp
 have hFc := formCheck_any e f W2
 rw [hf] at hFc
 have hRc : ∀ W, Below w.heap.size w W → Calls Tryz.prog 46 #[.agg #[.bool s, .slice a1 n1 c1, .slice a2 n2 c2]] W fun e w' => e = .returned (.int .i64 0) ∧ Below W.heap.size W w' := fun W hW => by
  have := rtCheck_any s a1 a2 n1 n2 c1 c2 xs ys W (h1.below hW) (h2.below hW) (hT.below hW)
  unfold ratE at this
  rwa [if_pos hr] at this
 have hm4 : (m : Int) > 4 := by omega
 clear hf hr h1 h2 hT
 go_enter Tryz.func21, Tryz.ntmps21
 go_wp2_with fail
 rw [← hW2]
 clear hW2
 refine hFc.mono ?_
 rintro en w3 ⟨rfl, hb3⟩
 have W3 := next hb2 hb3
 have e0 := cellStay d0 hb3
 have e1 := cellStay d1 hb3
 have e2 := cellStay d2 hb3
 go_wp2_with fail
 refine (hRc w3 W3).mono ?_
 rintro en w4 ⟨rfl, hb4⟩
 go_wp2_with fail
 go_ret3
 exact ⟨rfl, next W3 hb4⟩
def scErr (e f : Int) (s : Bool) (xs ys : List Nat) (m : Nat) : Int := if formE e f ≠ 0 then 5 else if ratB s xs ys = false then 20 else if 4 < m then 7 else 0
def scBits (e f : Int) (s : Bool) (xs ys : List Nat) (n : Int) (neg : Bool) (m : Nat) : Nat := if scErr e f s xs ys m = 0 then sgBits e.toNat f.toNat (scnN (val xs) (val ys) n) (scnD (val xs) (val ys) n) s neg m else 0
def scFlags (e f : Int) (s : Bool) (xs ys : List Nat) (n : Int) (m : Nat) : Nat := if scErr e f s xs ys m = 0 then sgFlags e.toNat f.toNat (scnN (val xs) (val ys) n) (scnD (val xs) (val ys) n) s m else 0
theorem rdScaled_any (a1 a2 : Option Addr) (n1 n2 c1 c2 m : Nat) (e f n : Int) (s neg : Bool) (xs ys : List Nat) (w : World) (h1 : Sl w a1 n1 c1 xs) (h2 : Sl w a2 n2 c2 ys) (hT : Tab w) (l1 : n1 ≤ 400) (l2 : n2 ≤ 400) :
 Calls Tryz.prog 21 #[.agg #[.int .i64 e, .int .i64 f], .agg #[.bool s, .slice a1 n1 c1, .slice a2 n2 c2], .int .i64 n, .bool neg, .int .u8 (m : Int)] w fun en w' => en = .returned (.tuple #[.int .u64 (scBits e f s xs ys n neg m : Int), .int .u8 (scFlags e f s xs ys n m : Int), .int .i64 (scErr e f s xs ys m)]) ∧ Below w.heap.size w w' := by
 unfold scBits scFlags
 by_cases hf : formE e f = 0
 · cases hr : ratB s xs ys
   · have hE : scErr e f s xs ys m = 20 := by unfold scErr; rw [if_neg (by simp [hf]), if_pos hr]
     rw [hE]
     exact rdScaled_rat a1 a2 n1 n2 c1 c2 m e f n s neg xs ys w h1 h2 hT hf hr
   · by_cases hm : 4 < m
     · have hE : scErr e f s xs ys m = 7 := by unfold scErr; rw [if_neg (by simp [hf]), if_neg (by simp [hr]), if_pos hm]
       rw [hE]
       exact rdScaled_mode a1 a2 n1 n2 c1 c2 m e f n s neg xs ys w h1 h2 hT hf hr hm
     · have hE : scErr e f s xs ys m = 0 := by unfold scErr; rw [if_neg (by simp [hf]), if_neg (by simp [hr]), if_neg hm]
       obtain ⟨e1, e2, f1, f2⟩ := formE_ok hf
       rw [hE, if_pos rfl, if_pos rfl]
       obtain ⟨E, rfl⟩ : ∃ E : Nat, e = (E : Int) := ⟨e.toNat, by omega⟩
       obtain ⟨F, rfl⟩ : ∃ F : Nat, f = (F : Int) := ⟨f.toNat, by omega⟩
       simp only [Int.toNat_natCast]
       exact rdScaled_ok a1 a2 n1 n2 c1 c2 E F m n s neg xs ys w h1 h2 hT (by omega) l1 l2 (by omega) (by omega) (by omega) (by omega) hf hr
 · have h5 : formE e f = 5 := by unfold formE at hf ⊢; split at hf <;> simp_all
   have hE : scErr e f s xs ys m = 5 := by unfold scErr; rw [if_pos hf]
   rw [hE]
   exact rdScaled_form a1 a2 n1 n2 c1 c2 m e f n s neg w h5
theorem rdRatio_any (a1 a2 : Option Addr) (n1 n2 c1 c2 m : Nat) (e f : Int) (s neg : Bool) (xs ys : List Nat) (w : World) (h1 : Sl w a1 n1 c1 xs) (h2 : Sl w a2 n2 c2 ys) (hT : Tab w) (l1 : n1 ≤ 400) (l2 : n2 ≤ 400) :
 Calls Tryz.prog 8 #[.agg #[.int .i64 e, .int .i64 f], .agg #[.bool s, .slice a1 n1 c1, .slice a2 n2 c2], .bool neg, .int .u8 (m : Int)] w fun en w' => en = .returned (.tuple #[.int .u64 (scBits e f s xs ys 0 neg m : Int), .int .u8 (scFlags e f s xs ys 0 m : Int), .int .i64 (scErr e f s xs ys m)]) ∧ Below w.heap.size w w' := by
 obtain ⟨W2, hW2⟩ : ∃ W2 : World, W2 = (w.alloc (.cells #[.int .i64 e, .int .i64 f] 23)).alloc (.cells #[.bool s, .slice a1 n1 c1, .slice a2 n2 c2] 29) := ⟨_, rfl⟩
 have hb2 : Below w.heap.size w W2 := hW2 ▸ more (more (Below.refl _ _) _) _
 have c0 : W2.cell? ⟨w.heap.size, 0, none⟩ = some (.int .i64 e) := by rw [hW2]; simp [World.cell?_alloc_some]
 have c1' : W2.cell? ⟨w.heap.size, 1, none⟩ = some (.int .i64 f) := by rw [hW2]; simp [World.cell?_alloc_some]
 have d0 : W2.cell? ⟨w.heap.size + 1, 0, none⟩ = some (.bool s) := by rw [hW2]; simp
 have d1 : W2.cell? ⟨w.heap.size + 1, 1, none⟩ = some (.slice a1 n1 c1) := by rw [hW2]; simp
 have d2 : W2.cell? ⟨w.heap.size + 1, 2, none⟩ = some (.slice a2 n2 c2) := by rw [hW2]; simp
 have hS := rdScaled_any a1 a2 n1 n2 c1 c2 m e f 0 s neg xs ys W2 (h1.below hb2) (h2.below hb2) (hT.below hb2) l1 l2
 generalize scBits e f s xs ys 0 neg m = B at *
 generalize scFlags e f s xs ys 0 m = G at *
 generalize scErr e f s xs ys m = X at *
 clear h1 h2 hT l1 l2
 go_enter Tryz.func8, Tryz.ntmps8
 go_wp2_with fail
 rw [← hW2]
 clear hW2
 refine hS.mono ?_
 rintro en w3 ⟨rfl, hb3⟩
 go_wp2
 go_ret3
 exact ⟨rfl, next hb2 hb3⟩
end
section
attribute [local go_sem] Go.World.cell?_alloc_some
theorem rf2Rat_any (a1 a2 : Option Addr) (n1 n2 c1 c2 : Nat) (s : Bool) (xs ys : List Nat) (w : World) (h1 : Sl w a1 n1 c1 xs) (h2 : Sl w a2 n2 c2 ys) (hx : Fine xs) (hy : Fine ys) (hD : val ys ≠ 0) (l1 : n1 ≤ 16384) (l2 : n2 ≤ 16384) (hT : Tab w) :
 Calls Tryz.prog 97 #[.agg #[.bool s, .slice a1 n1 c1, .slice a2 n2 c2]] w (MkQ 40 (mkRat (if s = true then -(val xs : Int) else (val xs : Int)) (val ys)) w) := by
 obtain ⟨W1, hW1⟩ : ∃ W1 : World, W1 = w.alloc (.cells #[.bool s, .slice a1 n1 c1, .slice a2 n2 c2] 29) := ⟨_, rfl⟩
 have hb1 : Below w.heap.size w W1 := hW1 ▸ more (Below.refl _ _) _
 have d0 : W1.cell? ⟨w.heap.size, 0, none⟩ = some (.bool s) := by rw [hW1]; simp
 have d1 : W1.cell? ⟨w.heap.size, 1, none⟩ = some (.slice a1 n1 c1) := by rw [hW1]; simp
 have d2 : W1.cell? ⟨w.heap.size, 2, none⟩ = some (.slice a2 n2 c2) := by rw [hW1]; simp
 have lN : ln (val xs) ≤ 16384 := Nat.le_trans (ln_le (val_lt h1.ok)) (by rw [h1.len]; exact l1)
 have lD : ln (val ys) ≤ 16384 := Nat.le_trans (ln_le (val_lt h2.ok)) (by rw [h2.len]; exact l2)
 have hI1 : Calls Tryz.prog 27 #[.agg #[.slice a1 n1 c1]] W1 (MkZ 40 (val xs : Int) W1) := (rf2Int_any a1 n1 c1 xs W1 (h1.below hb1) hx (by omega)).mono fun _ _ h => h.z (nonneg_dec (by omega)).symm (by omega)
 have hI2 : ∀ W, Below w.heap.size w W → Calls Tryz.prog 27 #[.agg #[.slice a2 n2 c2]] W (MkZ 40 (val ys : Int) W) := fun W hW => (rf2Int_any a2 n2 c2 ys W (h2.below hW) hy (by omega)).mono fun _ _ h => h.z (nonneg_dec (by omega)).symm (by omega)
 generalize val xs = N at *
 generalize val ys = D at *
 clear h1 h2 hx hy l1 l2
 cases s
 all_goals
  go_enter Tryz.func97, Tryz.ntmps97
  go_wp2_with fail
  rw [← hW1]
  clear hW1
  refine hI1.mono ?_
  rintro en w2 ⟨t1, rfl, I1, hb2⟩
  have V2 := next hb1 hb2
  have e2 := cellStay d2 hb2
  have e0 := cellStay d0 hb2
  go_wp2_with fail
 · have hb3' := more V2 (.cells #[.bool false, .slice none 0 0, .slice none 0 0] 143)
   refine (hI2 _ hb3').mono ?_
   rintro en w4 ⟨t2, rfl, I4, hb4⟩
   have hl4 := I4.le
   have hlt := I1.lt
   simp at hl4
   have B4 : Below w2.heap.size w2 w4 := next (more (Below.refl _ _) _) hb4
   have V4 := next V2 B4
   have hS := nbSetFracZ_any w2.heap.size w.heap.size _ _ t1 t2 (N : Int) D w4 ((res_new w2 _ _ _ _).stay hb4) (I1.stay B4) I4 (by omega) (by omega) hD V2.size (by first | (rw [Int.natAbs_natCast]; omega) | (rw [Int.natAbs_neg, Int.natAbs_natCast]; omega)) (by omega) (hT.below V4)
   go_wp2_with fail
   refine hS.mono ?_
   rintro en w5 ⟨rfl, Q5, hg5⟩
   go_wp2
   go_ret
   refine ⟨_, rfl, Q5, V4.grown hg5 V4.size (fun _ hj => ?_)⟩
   rw [← Option.some.inj hj]
   exact V2.size
 · have hNg := nbNegZ_any t1 W1.heap.size W1.heap.size t1 (N : Int) w2 I1.zc (hb2.size) I1 (by rw [Int.natAbs_natCast]; omega)
   refine hNg.mono ?_
   rintro en w3 hS3
   have hb3 : Below W1.heap.size W1 w3 := hS3.below hb2 hb2.size I1.le
   obtain ⟨rfl, I3, _⟩ := hS3.in_ I1.zc I1.le
   have V3 := next hb1 hb3
   have e2' := cellStay d2 hb3
   clear hS3 hNg e2 e0 I1
   go_wp2_with fail
   have hb3' := more V3 (.cells #[.bool false, .slice none 0 0, .slice none 0 0] 143)
   refine (hI2 _ hb3').mono ?_
   rintro en w4 ⟨t2, rfl, I4, hb4⟩
   have hl4 := I4.le
   have hlt := I3.lt
   simp at hl4
   have B4 : Below w3.heap.size w3 w4 := next (more (Below.refl _ _) _) hb4
   have V4 := next V3 B4
   have hS := nbSetFracZ_any w3.heap.size w.heap.size _ _ t1 t2 (-(N : Int)) D w4 ((res_new w3 _ _ _ _).stay hb4) (I3.stay B4) I4 (by omega) (by omega) hD V3.size (by first | (rw [Int.natAbs_natCast]; omega) | (rw [Int.natAbs_neg, Int.natAbs_natCast]; omega)) (by omega) (hT.below V4)
   go_wp2_with fail
   refine hS.mono ?_
   rintro en w5 ⟨rfl, Q5, hg5⟩
   go_wp2
   go_ret
   refine ⟨_, rfl, Q5, V4.grown hg5 V4.size (fun _ hj => ?_)⟩
   rw [← Option.some.inj hj]
   exact V3.size
end
section
attribute [local go_sem] Go.World.cell?_alloc_some
end
theorem pw_is (k : Nat) : pw k = 2 ^ k := by unfold pw; rfl
theorem bias_is (E : Nat) : biasN E = bsN E := by unfold biasN bsN; rfl
theorem fl_lt {E F : Nat} (N D : Nat) (neg : Bool) (m : Nat) : flB E F N D neg m < 2 ^ (E + F) := by
 have h1 := flB_le E F N D neg m
 have h2 : 0 < 2 ^ F := Nat.two_pow_pos F
 have h3 : 2 ^ F ≤ 2 ^ (E + F) := Nat.pow_le_pow_right (by decide) (by omega)
 unfold infN at h1
 omega
end Go.Proofs.YtpmncmglmobjoaaGreatDoor
namespace Go.Lb
open Go.RowKit Go.Proofs.YtpmncmglmobjoaaGreatDoor
def dlN (N D : Nat) : Nat := if N % D = 0 then 0 else 1
theorem sides_rd (N D : Nat) (s : Bool) : rdN N D s 2 = N / D ∧ rdN N D s 3 = N / D + (if s = true then 0 else dlN N D) ∧ rdN N D s 4 = N / D + (if s = true then dlN N D else 0) := by
 unfold rdN dlN mdB
 by_cases h : N % D = 0 <;> cases s <;> simp [h]
theorem limbs_odd (R : Nat) : ((limbs R).length = 0 ∧ R = 0) ∨ (0 < (limbs R).length ∧ nth (limbs R) 0 % 2 = R % 2) := by
 by_cases h : R = 0
 · subst h
   exact .inl ⟨by rw [limbs_zero]; rfl, rfl⟩
 · right
   rw [limbs_pos h]
   refine ⟨by simp, ?_⟩
   show R % 4294967296 % 2 = R % 2
   omega
end Go.Lb
