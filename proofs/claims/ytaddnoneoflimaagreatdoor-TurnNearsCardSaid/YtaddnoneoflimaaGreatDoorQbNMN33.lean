/-
  Contracts of numeral/numeralref05: Two.
-/
import Derived.Test.YtaddnoneoflimaaGreatDoorQbNRvG
import Derived.Test.YtaddnoneoflimaaGreatDoorQbNMN27
import Derived.Test.YtaddnoneoflimaaGreatDoorQbNMN15
import Derived.Test.YtaddnoneoflimaaGreatDoorQbNRdD
import Derived.Test.YtaddnoneoflimaaGreatDoorQbNMN18
import Derived.Test.YtaddnoneoflimaaGreatDoorQbNMN19
import Derived.Deep.RegionHeld3
import Derived.Test.YtaddnoneoflimaaGreatDoorQbNRtI
import Derived.Test.YtaddnoneoflimaaGreatDoorQbNSplits
import Derived.Test.YtaddnoneoflimaaGreatDoorQbNMN1
namespace Go.Proofs.YtaddnoneoflimaaGreatDoor

open Go.RowKit Go.Lb

attribute [local go_sem] Go.World.cell?_alloc_some

/-- May it be a dyadic? -/
def twoB (neg : Bool) (xs : List Nat) (x : Int) : Bool := decide (dchk neg xs x = 0)

theorem two_odd {neg : Bool} {xs : List Nat} {x : Int} (h : chk xs = 0) (hl : xs.length ≠ 0) (h1 : ¬ x > 1073741824) (h2 : ¬ x < -1073741824) : twoB neg xs x = decide (nth xs 0 % 2 = 1) := by
  unfold twoB dchk
  have hf : farB x = false := by unfold farB; simp; omega
  rw [if_neg (by simp [h]), if_neg hl, hf]
  by_cases hx : nth xs 0 % 2 = 0
  · simp [hx]
  · have : nth xs 0 % 2 = 1 := by omega
    simp [this]

end Go.Proofs.YtaddnoneoflimaaGreatDoor

/-
  Contract of numeral/round: Dyadic.
-/
namespace Go.Proofs.YtaddnoneoflimaaGreatDoor

open Go.RowKit Go.Lb

attribute [local go_sem] Go.World.cell?_alloc_some

attribute [local go_sem ↓] Go.wp_at_zero Go.wp_at_succ

/-- What Dyadic rounds: above the line, below it. -/
def dyN (N : Nat) (x : Int) : Nat := N * 2 ^ (nearZ x (blN N)).toNat

def dyD (N : Nat) (x : Int) : Nat := 1 * 2 ^ (-(nearZ x (blN N))).toNat

/-- Dyadic's answers: the error, the bits, the flags. -/
def dyErr (e f : Int) (s : Bool) (xs : List Nat) (x : Int) (m : Nat) : Int := if formE e f ≠ 0 then 5 else if twoB s xs x = false then 40 else if 4 < m then 7 else 0

def dyBits (e f : Int) (s : Bool) (xs : List Nat) (x : Int) (neg : Bool) (m : Nat) : Nat := if dyErr e f s xs x m = 0 then sgBits e.toNat f.toNat (dyN (val xs) x) (dyD (val xs) x) s neg m else 0

def dyFlags (e f : Int) (s : Bool) (xs : List Nat) (x : Int) (m : Nat) : Nat := if dyErr e f s xs x m = 0 then sgFlags e.toNat f.toNat (dyN (val xs) x) (dyD (val xs) x) s m else 0

theorem iz_set2 {w : World} {base b p : Nat} {z : Int} (h : Iz 23 w base b z) (hne : b ≠ p) (hd : Hd 23 w p) (u v : Value) : Iz 23 ((w.setCell ⟨p, 0, none⟩ u).setCell ⟨p, 1, none⟩ v) base b z := by
  obtain ⟨ao, k, c, i⟩ := h
  exact ⟨ao, k, c, i.other (grown_trans (grown_set w p 0 u) (grown_set _ p 1 v)) hne (fr_hd i.fr hd)⟩

theorem iz_ne {w : World} {base b p : Nat} {z : Int} {q : Option Addr} (h : Iz 23 w base b z) (hc : w.cell? ⟨p, 0, none⟩ = some (.pointer q)) : b ≠ p := by
  rintro rfl
  obtain ⟨ao, k, c, i⟩ := h
  rw [i.c0] at hc
  cases hc

theorem cell_off2 {w : World} {b i p : Nat} {u v x : Value} (h : w.cell? ⟨b, i, none⟩ = some x) (hne : b ≠ p) : ((w.setCell ⟨p, 0, none⟩ u).setCell ⟨p, 1, none⟩ v).cell? ⟨b, i, none⟩ = some x :=
  (World.cell?_setCell_other _ _ _ _ (fun e => hne (congrArg Addr.block e).symm)).trans ((World.cell?_setCell_other _ _ _ _ (fun e => hne (congrArg Addr.block e).symm)).trans h)

set_option maxRecDepth 100000 in
set_option maxHeartbeats 6000000 in
theorem rdDyadic_ok (ao : Option Addr) (n c E F m : Nat) (x : Int) (s neg : Bool) (xs : List Nat) (w : World) (h : Sl w ao n c xs) (hm : m < 5) (l1 : n ≤ 400) (hE2 : 2 ≤ E) (hE11 : E ≤ 11) (hF1 : 1 ≤ F) (hF52 : F ≤ 52) (hf : formE (E : Int) (F : Int) = 0) (hr : twoB s xs x = true) :
    Calls Tryz.prog 170 #[.agg #[.int .i64 (E : Int), .int .i64 (F : Int)], .agg #[.bool s, .slice ao n c, .int .i64 x], .bool neg, .int .u8 (m : Int)] w fun e w' => e = .returned (.tuple #[.int .u64 (sgBits E F (dyN (val xs) x) (dyD (val xs) x) s neg m : Int), .int .u8 (sgFlags E F (dyN (val xs) x) (dyD (val xs) x) s m : Int), .int .i64 0]) ∧ Below w.heap.size w w' := by
  obtain ⟨W2, hW2⟩ : ∃ W2 : World, W2 = (w.alloc (.cells #[.int .i64 (E : Int), .int .i64 (F : Int)] 31)).alloc (.cells #[.bool s, .slice ao n c, .int .i64 x] 90) := ⟨_, rfl⟩
  have hb2 : Below w.heap.size w W2 := hW2 ▸ more (more (Below.refl _ _) _) _
  have c0 : W2.cell? ⟨w.heap.size, 0, none⟩ = some (.int .i64 (E : Int)) := by rw [hW2]; simp [World.cell?_alloc_some]
  have c1 : W2.cell? ⟨w.heap.size, 1, none⟩ = some (.int .i64 (F : Int)) := by rw [hW2]; simp [World.cell?_alloc_some]
  have D2 : Box3 W2 (w.heap.size + 1) (.bool s) (.slice ao n c) (.int .i64 x) := by
    have := box3_new (w.alloc (.cells #[.int .i64 (E : Int), .int .i64 (F : Int)] 31)) (.bool s) (.slice ao n c) (.int .i64 x) 90
    rw [World.size_alloc] at this
    exact hW2 ▸ this
  have hFc := formCheck_any (E : Int) (F : Int) W2
  rw [hf] at hFc
  have hdc : dchk s xs x = 0 := of_decide_eq_true hr
  have hRc : ∀ W, Below w.heap.size w W → Calls Tryz.prog 215 #[.agg #[.bool s, .slice ao n c, .int .i64 x]] W fun e w' => e = .returned (.int .i64 0) ∧ Below W.heap.size W w' := fun W hW => by
    have := dyCheck_any s ao n c x xs W (h.below hW)
    rwa [hdc] at this
  have hL1 : ∀ W, Below w.heap.size w W → Calls Tryz.prog 219 #[.agg #[.slice ao n c]] W (MkZ 23 (val xs : Int) W) := fun W hW => rdLarge_any ao n c xs W (h.below hW) (by omega)
  have hlN : ln (val xs) ≤ 400 := Nat.le_trans (ln_le (val_lt h.ok)) (by rw [h.len]; exact l1)
  have hm4 : ¬ (m : Int) > 4 := by omega
  generalize val xs = N at *
  have m1 := bl_le N
  obtain ⟨nb, hnb⟩ : ∃ nb, nb = blN N := ⟨_, rfl⟩
  obtain ⟨nz, hnz⟩ : ∃ nz, nz = nearZ x (blN N) := ⟨_, rfl⟩
  have hz1 : -14000 ≤ nz ∧ nz ≤ 14000 := by rw [hnz]; unfold nearZ; omega
  have HA : Hid (scN N nz = dyN N x ∧ scD 1 nz = dyD N x) := Lib.hid (by rw [hnz]; exact ⟨rfl, rfl⟩)
  have hNr := fun W => rdNear_any x nb W (by omega)
  rw [hnb, ← hnz, ← hnb] at hNr
  have hB1 : ∀ W BB q, Iz 23 W BB q (N : Int) → Calls Tryz.prog 266 #[.pointer (some ⟨q, 0, none⟩)] W fun e w' => e = .returned (.int .i64 (nb : Int)) ∧ W = w' := fun W BB q hi => by
    have := bgBitLenZ_any q BB (N : Int) W hi (by rw [Int.natAbs_natCast]; omega)
    rw [Int.natAbs_natCast] at this
    rw [hnb]
    exact this
  have hTm : ∀ W b1 b2 B1 B2, Iz 23 W B1 b1 (N : Int) → Iz 23 W B2 b2 1 → Calls Tryz.prog 264 #[.agg #[.pointer (some ⟨b1, 0, none⟩), .pointer (some ⟨b2, 0, none⟩)], .int .i64 nz] W (TmP (scN N nz) (scD 1 nz) W) := fun W b1 b2 B1 B2 i1 i2 => rdTimes_any B1 B2 b1 b2 N 1 nz W i1 i2 (by omega) (by rw [ln_one]; omega) (by omega) (by omega)
  have hNw : ∀ W, Calls Tryz.prog 263 #[.int .i64 1] W (MkZ 23 1 W) := fun W => bgNewZ_any 1 W (by decide)
  have hSg : ∀ W b1 b2 B1 B2, Iz 23 W B1 b1 ((scN N nz : Nat) : Int) → Iz 23 W B2 b2 ((scD 1 nz : Nat) : Int) → Calls Tryz.prog 267 #[.agg #[.int .i64 (E : Int), .int .i64 (F : Int)], .agg #[.pointer (some ⟨b1, 0, none⟩), .pointer (some ⟨b2, 0, none⟩)], .bool s, .bool neg, .int .u8 (m : Int)] W fun e w' => e = .returned (.tuple #[.int .u64 (sgBits E F (dyN N x) (dyD N x) s neg m : Int), .int .u8 (sgFlags E F (dyN N x) (dyD N x) s m : Int), .int .i64 0]) ∧ Below W.heap.size W w' := fun W b1 b2 B1 B2 i1 i2 => by
    have k1 : ln (scN N nz) ≤ 65536 := by
      have := ln_shl N nz.toNat
      unfold scN
      omega
    have k2 : ln (scD 1 nz) ≤ 65536 := by
      have := ln_shl 1 (-nz).toNat
      rw [ln_one] at this
      unfold scD
      omega
    have := rdSigned_any B1 B2 b1 b2 (scN N nz) (scD 1 nz) E F m s neg W i1 i2 (Nat.ne_of_gt (scD_pos (by decide) _)) hm k1 k2 hE2 hE11 hF1 hF52
    rwa [HA.out.1, HA.out.2] at this
  generalize sgBits E F (dyN N x) (dyD N x) s neg m = bb at *
  generalize sgFlags E F (dyN N x) (dyD N x) s m = gg at *
  generalize scN N nz = A at *
  generalize scD 1 nz = B at *
  clear hf hr hdc h l1 HA hnz hnb m1 hz1 hlN
  go_enter Tryz.func170, Tryz.ntmps170
  go_wp2_with fail
  rw [← hW2]
  clear hW2
  refine hFc.mono ?_
  rintro en w3 ⟨rfl, hb3⟩
  have V3 := next hb2 hb3
  have D3 := D2.stay hb3
  have e0 := cellStay c0 hb3
  have e1 := cellStay c1 hb3
  have ⟨d0, d1, d2, _, _, _⟩ := D3
  clear c0 c1 D2 hFc
  go_wp2_with fail
  refine (hRc w3 V3).mono ?_
  rintro en w4 ⟨rfl, hb4⟩
  have V4 := next V3 hb4
  have D4 := D3.stay hb4
  have f0 := cellStay e0 hb4
  have f1 := cellStay e1 hb4
  clear e0 e1 d0 d1 d2 D3 hRc hb3 hb4 hb2
  have ⟨d0, d1, d2, _, _, _⟩ := D4
  go_wp2_with fail
  refine (hL1 w4 V4).mono ?_
  rintro en w5 ⟨q1, rfl, I1, hb5⟩
  clear d0 d1 d2 hL1
  go_wp2_with fail
  refine (hNw w5).mono ?_
  rintro en w6 ⟨q2, rfl, I2, hb6⟩
  have U7 := more (next hb5 hb6) (.cells #[.pointer (some ⟨q1, 0, none⟩), .pointer (some ⟨q2, 0, none⟩)] 312)
  have I1' := (I1.stay hb6).stay (more (Below.refl _ _) (.cells #[.pointer (some ⟨q1, 0, none⟩), .pointer (some ⟨q2, 0, none⟩)] 312))
  have I2' := I2.stay (more (Below.refl _ _) (.cells #[.pointer (some ⟨q1, 0, none⟩), .pointer (some ⟨q2, 0, none⟩)] 312))
  have p0 : (w6.alloc (.cells #[.pointer (some ⟨q1, 0, none⟩), .pointer (some ⟨q2, 0, none⟩)] 312)).cell? ⟨w6.heap.size, 0, none⟩ = some (.pointer (some ⟨q1, 0, none⟩)) := by simp
  have p1 : (w6.alloc (.cells #[.pointer (some ⟨q1, 0, none⟩), .pointer (some ⟨q2, 0, none⟩)] 312)).cell? ⟨w6.heap.size, 1, none⟩ = some (.pointer (some ⟨q2, 0, none⟩)) := by simp
  have z0 : (w6.alloc (.cells #[.pointer (some ⟨q1, 0, none⟩), .pointer (some ⟨q2, 0, none⟩)] 312)).frozen? ⟨w6.heap.size, 0, none⟩ = false := by simp [go_sem]
  have z1 : (w6.alloc (.cells #[.pointer (some ⟨q1, 0, none⟩), .pointer (some ⟨q2, 0, none⟩)] 312)).frozen? ⟨w6.heap.size, 1, none⟩ = false := by simp [go_sem]
  have Hp : Hd 23 (w6.alloc (.cells #[.pointer (some ⟨q1, 0, none⟩), .pointer (some ⟨q2, 0, none⟩)] 312)) w6.heap.size := hd_new w6 _ (by decide)
  have hpl : w6.heap.size < (w6.alloc (.cells #[.pointer (some ⟨q1, 0, none⟩), .pointer (some ⟨q2, 0, none⟩)] 312)).heap.size := by simp
  have hwp : w.heap.size ≤ w6.heap.size := Nat.le_trans V4.size (next hb5 hb6).size
  have hwp2 : w.heap.size + 1 < w6.heap.size := Nat.lt_of_lt_of_le D4.lt (next hb5 hb6).size
  go_upto_region 8 with fail
  obtain ⟨p, hp⟩ : ∃ p, p = w6.heap.size := ⟨_, rfl⟩
  rw [← hp] at p0 p1 z0 z1 Hp hpl hwp hwp2 ⊢
  clear hp I1 I2 hb5 hb6 hNw
  generalize w6.alloc (.cells #[.pointer (some ⟨q1, 0, none⟩), .pointer (some ⟨q2, 0, none⟩)] 312) = w7 at U7 I1' I2' p0 p1 z0 z1 Hp hpl ⊢
  have D7 := D4.stay U7
  have g0 := cellStay f0 U7
  have g1 := cellStay f1 U7
  have V7 := next V4 U7
  clear f0 f1 D4 U7 V4
  have lD := D7.lt
  have lF := World.block_lt_of_cell? w7 ⟨w.heap.size, 0, none⟩ g0
  have x2 := D7.c2
  go_cut [] from 28 (fun wx => ∃ b1 b2, wx.cell? ⟨p, 0, none⟩ = some (.pointer (some ⟨b1, 0, none⟩)) ∧ wx.cell? ⟨p, 1, none⟩ = some (.pointer (some ⟨b2, 0, none⟩)) ∧ Iz 23 wx 0 b1 (A : Int) ∧ Iz 23 wx 0 b2 (B : Int) ∧ Below w.heap.size w wx ∧ wx.cell? ⟨w.heap.size, 0, none⟩ = some (.int .i64 (E : Int)) ∧ wx.cell? ⟨w.heap.size, 1, none⟩ = some (.int .i64 (F : Int)) ∧ wx.cell? ⟨w.heap.size + 1, 0, none⟩ = some (.bool s))
  case first =>
    go_region_with (first
      | (go_at_call 266; (with_reducible refine (hB1 _ _ _ (I1'.stay ?_)).mono ?_); (first | exact Below.refl _ _ | exact (Below.refl _ _).drew | exact (Below.refl _ _).drew.drew); rintro en wB ⟨rfl, rfl⟩)
      | (go_at_call 265; (with_reducible refine (hNr _).mono ?_); rintro en wB ⟨rfl, rfl⟩)
      | (go_at_call 264; (with_reducible refine (hTm _ _ _ _ _ (I1'.stay ?_) (I2'.stay ?_)).mono ?_); (focus (first | exact Below.refl _ _ | exact (Below.refl _ _).drew | exact (Below.refl _ _).drew.drew)); (focus (first | exact Below.refl _ _ | exact (Below.refl _ _).drew | exact (Below.refl _ _).drew.drew)); rintro en wC ⟨b1, b2, rfl, J1, J2, hbC⟩; have hC : Below w7.heap.size w7 wC := (by first | exact hbC | exact undrew hbC | exact undrew (undrew hbC)); have t0 := cellStay p0 hC; have t1 := cellStay p1 hC; have y0 := (hC.frozen (p := ⟨p, 0, none⟩) hpl).trans z0; have y1 := (hC.frozen (p := ⟨p, 1, none⟩) hpl).trans z1; have HC := Hp.stay hpl hC; have s0 := cellStay g0 hC; have s1 := cellStay g1 hC; have s2 := cellStay D7.c0 hC))
    all_goals go_wp2
    all_goals go_meet
    all_goals exact ⟨b1, b2, (World.cell?_setCell_other _ _ _ _ (by simp)).trans (World.cell?_setCell_same _ _ _ t0), World.cell?_setCell_same _ _ _ ((World.cell?_setCell_other _ _ _ _ (by simp)).trans t1), iz_set2 J1 (iz_ne J1 t0) HC _ _, iz_set2 J2 (iz_ne J2 t0) HC _ _, ((next V7 hC).setCell hwp _).setCell hwp _, (cell_off2 s0 (by omega)), (cell_off2 s1 (by omega)), (cell_off2 s2 (by omega))⟩
  case rest =>
    obtain ⟨b1, b2, t0, t1, J1, J2, Vx, s0, s1, s2⟩ := hcut
    go_wp2_with fail
    refine (hSg _ _ _ _ _ J1 J2).mono ?_
    rintro en w9 ⟨rfl, hb9⟩
    go_wp2
    go_ret3
    exact ⟨rfl, next Vx hb9⟩

end Go.Proofs.YtaddnoneoflimaaGreatDoor

/-
  Plain: what Value answers of a float, as a fraction, rounds to that float. No program in sight.
-/
namespace Go.Proofs.YtaddnoneoflimaaGreatDoor

open Go.RowKit Go.Lb

theorem pw_is (k : Nat) : pw k = 2 ^ k := by unfold pw; rfl

theorem bias_is (E : Nat) : biasN E = bsN E := by unfold biasN bsN; rfl

theorem flt_of {E F b : Nat} (hE : 2 ≤ E) (hx : exN E F b ≠ maskN E) : Flt E F (exN E F b) (frN F b) (vN E F b) (vX E F b) := by
  have h1 : exN E F b < 2 ^ E := by rw [← pw_is]; exact exN_lt E F b
  have h2 : frN F b < 2 ^ F := by rw [← pw_is]; unfold frN; exact takeN_lt b 0 F
  have h3 : 2 ^ E = 2 * 2 ^ (E - 1) := by
    rw [show 2 * 2 ^ (E - 1) = 2 ^ (E - 1) * 2 by omega, ← Nat.pow_succ]
    congr 1
    omega
  have h4 := Nat.two_pow_pos (E - 1)
  refine ⟨h2, ?_, by unfold vN; rw [pw_is], by unfold vX; rw [bias_is]⟩
  unfold maskN at hx
  unfold bsN
  omega

theorem bits_parts {E F b : Nat} (hb : b < pw (1 + E + F)) : exN E F b * 2 ^ F + frN F b + (if sgB E F b = true then 2 ^ (E + F) else 0) = b ∧ sgB E F b = decide (2 ^ (E + F) ≤ b) := by
  have hP : 0 < 2 ^ F := Nat.two_pow_pos F
  have hQ : 0 < 2 ^ E := Nat.two_pow_pos E
  have e1 : frN F b = b % 2 ^ F := by unfold frN takeN; rw [pw_zero, Nat.div_one, pw_is]
  have e2 : exN E F b = b / 2 ^ F % 2 ^ E := by unfold exN takeN; rw [pw_is, pw_is]
  have e3 : takeN b (F + E) 1 = b / 2 ^ F / 2 ^ E % 2 := by
    unfold takeN
    rw [pw_add, Nat.div_div_eq_div_mul, pw_is, pw_is, pw_is, Nat.pow_one]
  have hs : sgB E F b = decide (b / 2 ^ F / 2 ^ E % 2 ≠ 0) := by unfold sgB; rw [e3]
  have hPQ : 2 ^ (E + F) = 2 ^ F * 2 ^ E := by rw [Nat.add_comm, Nat.pow_add]
  have hb2 : b < 2 ^ F * 2 ^ E * 2 := by
    rw [pw_is] at hb
    rw [show 1 + E + F = F + E + 1 by omega, Nat.pow_succ, Nat.pow_add] at hb
    exact hb
  have hq : b / 2 ^ F / 2 ^ E < 2 := by
    rw [Nat.div_div_eq_div_mul]
    exact Nat.div_lt_of_lt_mul hb2
  have hge : 2 ^ F * 2 ^ E ≤ b ↔ 1 ≤ b / 2 ^ F / 2 ^ E := by
    rw [Nat.div_div_eq_div_mul, Nat.le_div_iff_mul_le (Nat.mul_pos hP hQ), Nat.one_mul]
  have d1 := Nat.div_add_mod b (2 ^ F)
  have d2 := Nat.div_add_mod (b / 2 ^ F) (2 ^ E)
  rw [e1, e2, hs, hPQ]
  have hm : b / 2 ^ F % 2 ^ E * 2 ^ F + 2 ^ F * 2 ^ E * (b / 2 ^ F / 2 ^ E) = 2 ^ F * (b / 2 ^ F) := by
    conv => rhs; rw [← d2]
    rw [Nat.mul_add, Nat.mul_comm (b / 2 ^ F % 2 ^ E), Nat.mul_assoc, Nat.add_comm]
  generalize b / 2 ^ F / 2 ^ E = q at *
  have hq2 : q = 0 ∨ q = 1 := by omega
  rcases hq2 with rfl | rfl
  · have h5 : ¬ 2 ^ F * 2 ^ E ≤ b := fun h => by have := hge.1 h; omega
    constructor
    · simp
      omega
    · rw [decide_eq_false h5]
      rfl
  · have h5 : 2 ^ F * 2 ^ E ≤ b := hge.2 (Nat.le_refl _)
    constructor
    · simp
      omega
    · rw [decide_eq_true h5]
      rfl

theorem chk_small {N : Nat} (h : N < 4294967296 ^ 400) : chk (limbs N) = 0 := by
  have hl : (limbs N).length ≤ 400 := ln_le h
  unfold chk
  rw [if_neg (by omega), if_neg]
  rintro ⟨h1, h2⟩
  exact fine_top (fine_limbs N) (by omega) h2

theorem val_facts {E F b : Nat} (hE : 2 ≤ E) (h11 : E ≤ 11) (hF : F ≤ 52) (h : fitsE (E : Int) (F : Int) b = 0) (hx : exN E F b ≠ maskN E) :
    valE (E : Int) (F : Int) b = 0 ∧ ((vN E F b = 0 ∧ valN (E : Int) (F : Int) b = 0 ∧ valX (E : Int) (F : Int) b = 0 ∧ valS (E : Int) (F : Int) b = false) ∨
      (vN E F b ≠ 0 ∧ ∃ t n : Nat, vN E F b = 2 ^ t * n ∧ n % 2 = 1 ∧ valN (E : Int) (F : Int) b = n ∧ valX (E : Int) (F : Int) b = vX E F b + (t : Int) ∧ valS (E : Int) (F : Int) b = sgB E F b ∧ t ≤ F ∧ n < 2 ^ 53 ∧ -1074 ≤ vX E F b ∧ vX E F b + F ≤ 1023)) := by
  obtain ⟨v1, v2, v3, v4⟩ := val_yes h hx
  have hf := flt_of hE hx
  have f1 := hf.hr
  have f2 := hf.he
  have f3 := hf.hm
  have f4 := hf.hx
  have hbs : bsN E ≤ 1023 := by
    unfold bsN
    have : 2 ^ (E - 1) ≤ 2 ^ 10 := Nat.pow_le_pow_right (by decide) (by omega)
    omega
  have hM : vN E F b < 2 ^ (F + 1) := by rw [Nat.pow_succ]; split at f3 <;> omega
  have hM53 : 2 ^ (F + 1) ≤ 2 ^ 53 := Nat.pow_le_pow_right (by decide) (by omega)
  have hX1 : -1074 ≤ vX E F b := by split at f4 <;> omega
  have hX2 : vX E F b + F ≤ 1023 := by split at f4 <;> omega
  have hc : chk (limbs (vN E F b)) = 0 := chk_small (Nat.lt_of_lt_of_le hM (Nat.le_trans hM53 (by decide +kernel)))
  rw [v1, v2, v3, v4]
  by_cases h0 : vN E F b = 0
  · obtain ⟨m1, m2⟩ := mk_zero (x := vX E F b) hc (by rw [val_limbs']; exact h0)
    obtain ⟨m3, m4, m5⟩ := mk_no (sgB E F b) m1
    exact ⟨m2, .inl ⟨h0, m3, m4, m5⟩⟩
  · obtain ⟨k, hk⟩ := tz_spec h0
    have ht : tz (vN E F b) ≤ F := by
      have h5 := two_pow_tz_le h0
      have h6 : 2 ^ tz (vN E F b) < 2 ^ (F + 1) := Nat.lt_of_le_of_lt h5 hM
      have := (Nat.pow_lt_pow_iff_right (by decide : 1 < 2)).1 h6
      omega
    have hB : mkB (limbs (vN E F b)) (vX E F b) = true := by
      unfold mkB
      rw [val_limbs']
      exact decide_eq_true ⟨hc, h0, by omega, by omega, by omega, by omega⟩
    obtain ⟨m1, m2, m3, m4⟩ := mk_yes (sgB E F b) hB
    rw [val_limbs'] at m1 m2
    have hd : vN E F b / 2 ^ tz (vN E F b) = 2 * k + 1 := by
      conv => lhs; arg 1; rw [hk]
      exact Nat.mul_div_cancel_left _ (Nat.two_pow_pos _)
    have hn : 2 * k + 1 < 2 ^ 53 := by
      rw [← hd]
      exact Nat.lt_of_le_of_lt (Nat.div_le_self _ _) (Nat.lt_of_lt_of_le hM hM53)
    exact ⟨m4, .inr ⟨h0, tz (vN E F b), 2 * k + 1, hk, by omega, by rw [m1, hd], m2, m3, ht, hn, hX1, hX2⟩⟩

theorem up_shift (n t : Nat) (X : Int) : upN n (X + t) * upD X = upN (2 ^ t * n) X * upD (X + t) := by
  unfold upN upD
  rw [Nat.mul_assoc, ← Nat.pow_add, Nat.mul_comm (2 ^ t) n, Nat.mul_assoc, Nat.mul_assoc, ← Nat.pow_add, ← Nat.pow_add]
  congr 2
  omega

theorem near_in {X : Int} {b : Nat} (h1 : -1074 ≤ X) (h2 : X ≤ 1023) : nearZ X b = X := by unfold nearZ; omega

theorem odd_low {n : Nat} (h : n % 2 = 1) : nth (limbs n) 0 % 2 = 1 ∧ (limbs n).length ≠ 0 := by
  rw [limbs_pos (by omega)]
  refine ⟨?_, by simp⟩
  show n % 4294967296 % 2 = 1
  omega

theorem up_small {n : Nat} {X : Int} (hn : n < 2 ^ 53) (h1 : -1074 ≤ X) (h2 : X ≤ 1023) : ln (upN n X) ≤ 34 ∧ ln (upD X) ≤ 34 := by
  obtain ⟨k, hk⟩ : ∃ k, k = 1035 := ⟨_, rfl⟩
  obtain ⟨j, hj⟩ : ∃ j, j = 34 := ⟨_, rfl⟩
  have e : (4294967296 : Nat) ^ j = 2 ^ (53 + k) := (pow32 j).trans (congrArg (fun q => 2 ^ q) (by omega))
  rw [← hj]
  constructor
  · refine ln_le ?_
    rw [e, Nat.pow_add]
    unfold upN
    exact Nat.mul_lt_mul_of_lt_of_le hn (Nat.pow_le_pow_right (by decide) (by omega)) (Nat.two_pow_pos _)
  · refine ln_le ?_
    rw [e]
    unfold upD
    exact Nat.pow_lt_pow_right (by decide) (by omega)

/-- All that the law RoundWorth needs of a finite float. -/
theorem worth_facts {E F b m : Nat} (hE : 2 ≤ E) (h11 : E ≤ 11) (hF : F ≤ 52) (h : fitsE (E : Int) (F : Int) b = 0) (hb : b < pw (1 + E + F)) (hx : exN E F b ≠ maskN E) :
    valE (E : Int) (F : Int) b = 0 ∧ ∃ (n : Nat) (X : Int) (s : Bool), valN (E : Int) (F : Int) b = n ∧ valX (E : Int) (F : Int) b = X ∧ valS (E : Int) (F : Int) b = s ∧
      dchk s (limbs n) X = 0 ∧ n < 2 ^ 53 ∧ -1074 ≤ X ∧ X ≤ 1023 ∧ Nat.gcd (upN n X) (upD X) = 1 ∧ (s = true → upN n X ≠ 0) ∧
      ∀ N D, D ≠ 0 → N * upD X = upN n X * D → sgBits E F N D s (decide (2 ^ (E + F) ≤ b)) m = b ∧ sgFlags E F N D s m = 0 := by
  have hf := flt_of hE hx
  obtain ⟨p1, p2⟩ := bits_parts hb
  obtain ⟨v0, hv⟩ := val_facts hE h11 hF h hx
  refine ⟨v0, ?_⟩
  rcases hv with ⟨h0, v1, v2, v3⟩ | ⟨h0, t, n, ht, hn, v1, v2, v3, htF, hn53, hX1, hX2⟩
  · refine ⟨0, 0, false, v1, v2, v3, by decide, by decide, by decide, by decide, by decide, (fun h => by cases h), fun N D hD hc => ?_⟩
    have hN : N = 0 := by
      have : upN 0 0 = 0 := rfl
      rw [this, Nat.zero_mul] at hc
      rcases Nat.mul_eq_zero.1 hc with h | h
      · exact h
      · exact absurd h (upD_pos 0)
    have := hf.round hE (N := N) hD (by rw [hN]; unfold upN; rw [h0]; omega) (sgB E F b) (decide (2 ^ (E + F) ≤ b)) m (fun _ => p2.symm)
    rw [if_pos h0, p1] at this
    exact this
  · have hne : n ≠ 0 := by omega
    obtain ⟨o1, o2⟩ := odd_low hn
    refine ⟨n, vX E F b + t, sgB E F b, v1, v2, v3, ?_, hn53, by omega, by omega, ?_, fun _ => upN_ne hne _, fun N D hD hc => ?_⟩
    · unfold dchk
      rw [if_neg (by rw [chk_small (Nat.lt_of_lt_of_le hn53 (by decide +kernel))]; simp), if_neg o2, if_neg]
      rintro (h | h)
      · omega
      · have := of_decide_eq_true h
        omega
    · by_cases hp : 0 ≤ vX E F b + t
      · have : upD (vX E F b + t) = 1 := by unfold upD; rw [show (-(vX E F b + (t : Int))).toNat = 0 by omega, Nat.pow_zero]
        rw [this, Nat.gcd_one_right]
      · have e1 : upN n (vX E F b + t) = n := by unfold upN; rw [show (vX E F b + (t : Int)).toNat = 0 by omega, Nat.pow_zero, Nat.mul_one]
        have e2 : tz n = 0 := tz_unique (m := n / 2) (by rw [Nat.pow_zero]; omega)
        rw [e1]
        unfold upD
        rw [gcd_pow hne, e2, Nat.zero_min, Nat.pow_zero]
    · have hs := up_shift n t (vX E F b)
      rw [← ht] at hs
      have hcr : N * upD (vX E F b) = upN (vN E F b) (vX E F b) * D := by
        refine Nat.eq_of_mul_eq_mul_right (Nat.pos_of_ne_zero (upD_pos (vX E F b + t))) ?_
        calc N * upD (vX E F b) * upD (vX E F b + t) = N * upD (vX E F b + t) * upD (vX E F b) := Nat.mul_right_comm _ _ _
          _ = upN n (vX E F b + t) * D * upD (vX E F b) := by rw [hc]
          _ = upN n (vX E F b + t) * upD (vX E F b) * D := Nat.mul_right_comm _ _ _
          _ = upN (vN E F b) (vX E F b) * upD (vX E F b + t) * D := by rw [hs]
          _ = upN (vN E F b) (vX E F b) * D * upD (vX E F b + t) := Nat.mul_right_comm _ _ _
      have := hf.round hE hD hcr (sgB E F b) (decide (2 ^ (E + F) ≤ b)) m (fun h => absurd h h0)
      rw [if_neg h0, p1] at this
      exact this

end Go.Proofs.YtaddnoneoflimaaGreatDoor

/-
  Plain: the floats by Down and Up lie one on each side of a fraction, with none between; which of the two the others take. No program in sight.
-/
namespace Go.Proofs.YtaddnoneoflimaaGreatDoor

open Go.RowKit Go.Lb

/-- What a float is worth. -/
def wrQ (E F b : Nat) : Rat := sgQ' (valS (E : Int) (F : Int) b) (upN (valN (E : Int) (F : Int) b) (valX (E : Int) (F : Int) b)) (upD (valX (E : Int) (F : Int) b))

theorem fits_bits {E F b : Nat} (hf : formE (E : Int) (F : Int) = 0) (hb : b < pw (1 + E + F)) : fitsE (E : Int) (F : Int) b = 0 := by
  unfold fitsE
  rw [if_neg (by simp [hf]), if_pos (by simpa using hb)]

end Go.Proofs.YtaddnoneoflimaaGreatDoor

/-
  The walks of soft's top, Neg, Abs and of the reference's sign, Neg, Abs. Where a float stands (rank), by numbers and by bits; the walk of soft.rank. The walks of forms.Class of bits that don't fit, forms.NaN, forms.Payload, kit.nan, and of the reference's Inf, NaN.
-/
namespace Go.Proofs.YtaddnoneoflimaaGreatDoor

open Go.RowKit Go.Lb

theorem fitsE_parts {e f : Int} {b : Nat} (h : fitsE e f b = 0) : formE e f = 0 ∧ b < pw (1 + e.toNat + f.toNat) := by
  unfold fitsE at h
  by_cases h0 : formE e f = 0
  · rw [if_neg (by simp [h0])] at h
    split at h
    · exact ⟨h0, by assumption⟩
    · cases h
  · rw [if_pos h0] at h
    exact absurd h h0

theorem pw_top {k : Nat} (h : k ≤ 63) : IntKind.u64.wrap (2 ^ k) = ((pw k : Nat) : Int) := by
  have hp : pw k ≤ 9223372036854775808 := by have := pw_le h; rw [show pw 63 = 9223372036854775808 by unfold pw; rfl] at this; exact this
  rw [show (2 : Int) ^ k = ((pw k : Nat) : Int) by unfold pw; rw [Int.natCast_pow]; rfl]
  exact IntWalk.u64_in _ (by omega)

end Go.Proofs.YtaddnoneoflimaaGreatDoor

namespace Go.Proofs.YtaddnoneoflimaaGreatDoor

open Go.RowKit Go.Lb

end Go.Proofs.YtaddnoneoflimaaGreatDoor

namespace Go.Proofs.YtaddnoneoflimaaGreatDoor

open Go.RowKit Go.Lb

/-- The NaN. -/
def nanN (e f : Nat) : Nat := joinN e f false (maskN e) (pw (f - 1))

theorem nanN_eq (e f : Nat) : nanN e f = maskN e * pw f + pw (f - 1) := by
  unfold nanN joinN
  rw [if_neg (by decide)]
  unfold putN
  omega

theorem or_zero (a : Nat) (ha : a < 18446744073709551616) : bits .or .u64 (a : Int) 0 = (a : Int) := by
  have h1 : (BitVec.ofInt 64 (a : Int)).toNat = a := by
    rw [BitVec.ofInt_natCast, BitVec.toNat_ofNat]; exact Nat.mod_eq_of_lt (by omega)
  show IntKind.u64.wrap ((BitVec.ofInt 64 (a : Int) ||| BitVec.ofInt 64 0).toNat : Int) = _
  rw [BitVec.toNat_or, h1, show (BitVec.ofInt 64 0).toNat = 0 from rfl, Nat.or_zero, IntKind.wrap_u64]
  omega

set_option maxRecDepth 100000 in
theorem formsNaN_zero (e f : Nat) (w : World) (h : formE (e : Int) (f : Int) = 0) :
    Calls Tryz.prog 167 #[.agg #[.int .i64 e, .int .i64 f], .bool false, .int .u64 0] w fun en w' => en = .returned (.tuple #[.int .u64 (nanN e f), .int .i64 0]) ∧ Below w.heap.size w w' := by
  obtain ⟨q1, q2, q3, q4⟩ := formE_ok h
  have hw := pw_top (k := f - 1) (by omega)
  have ht : ((f : Int) - 1).toNat = f - 1 := by omega
  have hn : ¬ ((f : Int) - 1 < 0) := by omega
  have hp := pw_lt (show f - 1 < 64 by omega)
  rw [show pw 64 = 18446744073709551616 by unfold pw; rfl] at hp
  have ho := or_zero (pw (f - 1)) hp
  have hlt : pw (f - 1) < pw f := pw_lt (by omega)
  have hp0 := pw_pos (f - 1)
  have hge : ¬ ((pw (f - 1) : Nat) : Int) ≤ 0 := by omega
  have hm : maskN e < pw e := by rw [maskN_eq]; have := pw_pos e; omega
  have hj := fun W => join_any e f false (maskN e) (pw (f - 1)) W (by omega) (by omega) (by omega) hm hlt
  change ∀ W, Calls Tryz.prog 260 #[.agg #[.int .i64 e, .int .i64 f], .bool false, .int .u64 (maskN e), .int .u64 (pw (f - 1))] W fun en w' => en = .returned (.int .u64 (nanN e f : Int)) ∧ Below W.heap.size W w' at hj
  generalize nanN e f = NN at hj ⊢
  generalize hP : pw (f - 1) = P at hw hp ho hp0 hge hj
  go_enter Tryz.func167, Tryz.ntmps167
  go_wp2_with (first
    | (go_at_call 59; refine (formCheck_any e f _).mono ?_; rintro en w1 ⟨rfl, hb1⟩; rw [h]; have A := (box2_new w _ _ _).stay hb1; have ⟨a0, a1⟩ := A; have hW := next (more (Below.refl _ _) _) hb1)
    )
  go_region_held3 (fun w' => w'.cell? ⟨w.heap.size, 0, none⟩ = some (.int .i64 e) ∧ w'.cell? ⟨w.heap.size, 1, none⟩ = some (.int .i64 f) ∧ Below w.heap.size w w')
    ((go_split_ands; refine ⟨?_, ?_, ?_⟩ <;> (first | assumption | exact Below.drew (by assumption) | exact cellStay (by assumption) hbB | exact next (by assumption) hbB | (go_keep; done))))
    (first | (go_at_call 166; (with_reducible refine (mask_any e _ (by omega)).mono ?_); rintro en wB ⟨rfl, rfl⟩) | (go_at_call 260; (with_reducible refine (hj _).mono ?_); rintro en wB ⟨rfl, hbB⟩))
  go_split_ands
  go_wp2
  go_ret2
  exact ⟨rfl, by assumption⟩

end Go.Proofs.YtaddnoneoflimaaGreatDoor

/-
  Contract of numeral/round: Dyadic, whatever it is asked. (Printed by wip/gen/dyadic5.py.)
-/
namespace Go.Proofs.YtaddnoneoflimaaGreatDoor

open Go.RowKit Go.Lb

attribute [local go_sem] Go.World.cell?_alloc_some

set_option maxRecDepth 100000 in
set_option maxHeartbeats 2000000 in
theorem rdDyadic_form (ao : Option Addr) (n c m : Nat) (e f x : Int) (s neg : Bool) (w : World) (hf : formE e f = 5) :
    Calls Tryz.prog 170 #[.agg #[.int .i64 e, .int .i64 f], .agg #[.bool s, .slice ao n c, .int .i64 x], .bool neg, .int .u8 (m : Int)] w fun en w' => en = .returned (.tuple #[.int .u64 0, .int .u8 0, .int .i64 5]) ∧ Below w.heap.size w w' := by
  obtain ⟨W2, hW2⟩ : ∃ W2 : World, W2 = (w.alloc (.cells #[.int .i64 e, .int .i64 f] 31)).alloc (.cells #[.bool s, .slice ao n c, .int .i64 x] 90) := ⟨_, rfl⟩
  have hb2 : Below w.heap.size w W2 := hW2 ▸ more (more (Below.refl _ _) _) _
  have c0 : W2.cell? ⟨w.heap.size, 0, none⟩ = some (.int .i64 e) := by rw [hW2]; simp [World.cell?_alloc_some]
  have c1 : W2.cell? ⟨w.heap.size, 1, none⟩ = some (.int .i64 f) := by rw [hW2]; simp [World.cell?_alloc_some]
  have D2 : Box3 W2 (w.heap.size + 1) (.bool s) (.slice ao n c) (.int .i64 x) := by
    have := box3_new (w.alloc (.cells #[.int .i64 e, .int .i64 f] 31)) (.bool s) (.slice ao n c) (.int .i64 x) 90
    rw [World.size_alloc] at this
    exact hW2 ▸ this
  have hFc := formCheck_any e f W2
  rw [hf] at hFc
  clear hf
  go_enter Tryz.func170, Tryz.ntmps170
  go_wp2_with fail
  rw [← hW2]
  clear hW2
  refine hFc.mono ?_
  rintro en w3 ⟨rfl, hb3⟩
  go_wp2
  go_ret3
  exact ⟨rfl, next hb2 hb3⟩

set_option maxRecDepth 100000 in
set_option maxHeartbeats 2000000 in
theorem rdDyadic_two (ao : Option Addr) (n c m : Nat) (e f x : Int) (s neg : Bool) (xs : List Nat) (w : World) (h : Sl w ao n c xs) (hf : formE e f = 0) (hr : twoB s xs x = false) :
    Calls Tryz.prog 170 #[.agg #[.int .i64 e, .int .i64 f], .agg #[.bool s, .slice ao n c, .int .i64 x], .bool neg, .int .u8 (m : Int)] w fun en w' => en = .returned (.tuple #[.int .u64 0, .int .u8 0, .int .i64 40]) ∧ Below w.heap.size w w' := by
  obtain ⟨W2, hW2⟩ : ∃ W2 : World, W2 = (w.alloc (.cells #[.int .i64 e, .int .i64 f] 31)).alloc (.cells #[.bool s, .slice ao n c, .int .i64 x] 90) := ⟨_, rfl⟩
  have hb2 : Below w.heap.size w W2 := hW2 ▸ more (more (Below.refl _ _) _) _
  have c0 : W2.cell? ⟨w.heap.size, 0, none⟩ = some (.int .i64 e) := by rw [hW2]; simp [World.cell?_alloc_some]
  have c1 : W2.cell? ⟨w.heap.size, 1, none⟩ = some (.int .i64 f) := by rw [hW2]; simp [World.cell?_alloc_some]
  have D2 : Box3 W2 (w.heap.size + 1) (.bool s) (.slice ao n c) (.int .i64 x) := by
    have := box3_new (w.alloc (.cells #[.int .i64 e, .int .i64 f] 31)) (.bool s) (.slice ao n c) (.int .i64 x) 90
    rw [World.size_alloc] at this
    exact hW2 ▸ this
  have hFc := formCheck_any e f W2
  rw [hf] at hFc
  have hd : (dchk s xs x == 0) = false := by have := of_decide_eq_false hr; simpa using this
  have hRc : ∀ W, Below w.heap.size w W → Calls Tryz.prog 215 #[.agg #[.bool s, .slice ao n c, .int .i64 x]] W fun e w' => e = .returned (.int .i64 (dchk s xs x)) ∧ Below W.heap.size W w' := fun W hW => dyCheck_any s ao n c x xs W (h.below hW)
  generalize dchk s xs x = dk at *
  have hd' : (dk != 0) = true := by simpa using hd
  have ⟨d0, d1, d2, _, _, _⟩ := D2
  clear hf hr h
  go_enter Tryz.func170, Tryz.ntmps170
  go_wp2_with fail
  rw [← hW2]
  clear hW2
  refine hFc.mono ?_
  rintro en w3 ⟨rfl, hb3⟩
  have V3 := next hb2 hb3
  have ⟨e0, e1, e2, _, _, _⟩ := D2.stay hb3
  clear d0 d1 d2
  go_wp2_with fail
  refine (hRc w3 V3).mono ?_
  rintro en w4 ⟨rfl, hb4⟩
  go_wp2
  go_ret3
  exact ⟨rfl, next V3 hb4⟩

set_option maxRecDepth 100000 in
set_option maxHeartbeats 2000000 in
theorem rdDyadic_mode (ao : Option Addr) (n c m : Nat) (e f x : Int) (s neg : Bool) (xs : List Nat) (w : World) (h : Sl w ao n c xs) (hf : formE e f = 0) (hr : twoB s xs x = true) (hm : 4 < m) :
    Calls Tryz.prog 170 #[.agg #[.int .i64 e, .int .i64 f], .agg #[.bool s, .slice ao n c, .int .i64 x], .bool neg, .int .u8 (m : Int)] w fun en w' => en = .returned (.tuple #[.int .u64 0, .int .u8 0, .int .i64 7]) ∧ Below w.heap.size w w' := by
  obtain ⟨W2, hW2⟩ : ∃ W2 : World, W2 = (w.alloc (.cells #[.int .i64 e, .int .i64 f] 31)).alloc (.cells #[.bool s, .slice ao n c, .int .i64 x] 90) := ⟨_, rfl⟩
  have hb2 : Below w.heap.size w W2 := hW2 ▸ more (more (Below.refl _ _) _) _
  have c0 : W2.cell? ⟨w.heap.size, 0, none⟩ = some (.int .i64 e) := by rw [hW2]; simp [World.cell?_alloc_some]
  have c1 : W2.cell? ⟨w.heap.size, 1, none⟩ = some (.int .i64 f) := by rw [hW2]; simp [World.cell?_alloc_some]
  have D2 : Box3 W2 (w.heap.size + 1) (.bool s) (.slice ao n c) (.int .i64 x) := by
    have := box3_new (w.alloc (.cells #[.int .i64 e, .int .i64 f] 31)) (.bool s) (.slice ao n c) (.int .i64 x) 90
    rw [World.size_alloc] at this
    exact hW2 ▸ this
  have hFc := formCheck_any e f W2
  rw [hf] at hFc
  have hd : dchk s xs x = 0 := of_decide_eq_true hr
  have hRc : ∀ W, Below w.heap.size w W → Calls Tryz.prog 215 #[.agg #[.bool s, .slice ao n c, .int .i64 x]] W fun e w' => e = .returned (.int .i64 0) ∧ Below W.heap.size W w' := fun W hW => by
    have := dyCheck_any s ao n c x xs W (h.below hW)
    rwa [hd] at this
  have hm4 : (m : Int) > 4 := by omega
  have ⟨d0, d1, d2, _, _, _⟩ := D2
  clear hf hr h hd
  go_enter Tryz.func170, Tryz.ntmps170
  go_wp2_with fail
  rw [← hW2]
  clear hW2
  refine hFc.mono ?_
  rintro en w3 ⟨rfl, hb3⟩
  have V3 := next hb2 hb3
  have ⟨e0, e1, e2, _, _, _⟩ := D2.stay hb3
  clear d0 d1 d2
  go_wp2_with fail
  refine (hRc w3 V3).mono ?_
  rintro en w4 ⟨rfl, hb4⟩
  go_wp2
  go_ret3
  exact ⟨rfl, next V3 hb4⟩

theorem rdDyadic_any (ao : Option Addr) (n c m : Nat) (e f x : Int) (s neg : Bool) (xs : List Nat) (w : World) (h : Sl w ao n c xs) (l1 : n ≤ 400) :
    Calls Tryz.prog 170 #[.agg #[.int .i64 e, .int .i64 f], .agg #[.bool s, .slice ao n c, .int .i64 x], .bool neg, .int .u8 (m : Int)] w fun en w' => en = .returned (.tuple #[.int .u64 (dyBits e f s xs x neg m : Int), .int .u8 (dyFlags e f s xs x m : Int), .int .i64 (dyErr e f s xs x m)]) ∧ Below w.heap.size w w' := by
  unfold dyBits dyFlags
  by_cases hf : formE e f = 0
  · cases hr : twoB s xs x
    · have hE : dyErr e f s xs x m = 40 := by unfold dyErr; rw [if_neg (by simp [hf]), if_pos hr]
      rw [hE]
      exact rdDyadic_two ao n c m e f x s neg xs w h hf hr
    · by_cases hm : 4 < m
      · have hE : dyErr e f s xs x m = 7 := by unfold dyErr; rw [if_neg (by simp [hf]), if_neg (by simp [hr]), if_pos hm]
        rw [hE]
        exact rdDyadic_mode ao n c m e f x s neg xs w h hf hr hm
      · have hE : dyErr e f s xs x m = 0 := by unfold dyErr; rw [if_neg (by simp [hf]), if_neg (by simp [hr]), if_neg hm]
        obtain ⟨e1, e2, f1, f2⟩ := formE_ok hf
        rw [hE, if_pos rfl, if_pos rfl]
        obtain ⟨E, rfl⟩ : ∃ E : Nat, e = (E : Int) := ⟨e.toNat, by omega⟩
        obtain ⟨F, rfl⟩ : ∃ F : Nat, f = (F : Int) := ⟨f.toNat, by omega⟩
        simp only [Int.toNat_natCast]
        exact rdDyadic_ok ao n c E F m x s neg xs w h (by omega) l1 (by omega) (by omega) (by omega) (by omega) hf hr
  · have h5 : formE e f = 5 := by unfold formE at hf ⊢; split at hf <;> simp_all
    have hE : dyErr e f s xs x m = 5 := by unfold dyErr; rw [if_pos hf]
    rw [hE]
    exact rdDyadic_form ao n c m e f x s neg w h5

end Go.Proofs.YtaddnoneoflimaaGreatDoor

