/-
  Contract of numeral/round: Dyadic.
-/
import Derived.Test.YtklibjdhlmdkpaaGreatDoorQMN22
namespace Go.Proofs.YtklibjdhlmdkpaaGreatDoor

open Go.RowKit Go.Lb

attribute [local go_sem] Go.World.cell?_alloc_some

attribute [local go_sem ↓] Go.wp_at_zero Go.wp_at_succ

/-- What Dyadic rounds: above the line, below it. -/
def dyN (N : Nat) (x : Int) : Nat := N * 2 ^ (nearZ x (blN N)).toNat

def dyD (N : Nat) (x : Int) : Nat := 1 * 2 ^ (-(nearZ x (blN N))).toNat

/-- Dyadic's answers: the error, the bits, the flags. -/
def dyErr (e f : Int) (s : Bool) (xs : List Nat) (x : Int) (m : Nat) : Int := if formE e f ≠ 0 then 5 else if twoB s xs x = false then 40 else if 4 < m then 7 else 0

def dyBits (e f : Int) (s : Bool) (xs : List Nat) (x : Int) (neg : Bool) (m : Nat) : Nat := if dyErr e f s xs x m = 0 then sgBits e.toNat f.toNat (dyN (val xs) x) (dyD (val xs) x) s neg m else 0

def dyFlags (e f : Int) (s : Bool) (xs : List Nat) (x : Int) (m : Nat) : Nat := if dyErr e f s xs x m = 0 then sgFlags e.toNat f.toNat (dyN (val xs) x) (dyD (val xs) x) s m else 0

theorem iz_set2 {w : World} {base b p : Nat} {z : Int} (h : Iz 38 w base b z) (hne : b ≠ p) (hd : Hd 38 w p) (u v : Value) : Iz 38 ((w.setCell ⟨p, 0, none⟩ u).setCell ⟨p, 1, none⟩ v) base b z := by
  obtain ⟨ao, k, c, i⟩ := h
  exact ⟨ao, k, c, i.other (grown_trans (grown_set w p 0 u) (grown_set _ p 1 v)) hne (fr_hd i.fr hd)⟩

theorem iz_ne {w : World} {base b p : Nat} {z : Int} {q : Option Addr} (h : Iz 38 w base b z) (hc : w.cell? ⟨p, 0, none⟩ = some (.pointer q)) : b ≠ p := by
  rintro rfl
  obtain ⟨ao, k, c, i⟩ := h
  rw [i.c0] at hc
  cases hc

theorem cell_off2 {w : World} {b i p : Nat} {u v x : Value} (h : w.cell? ⟨b, i, none⟩ = some x) (hne : b ≠ p) : ((w.setCell ⟨p, 0, none⟩ u).setCell ⟨p, 1, none⟩ v).cell? ⟨b, i, none⟩ = some x :=
  (World.cell?_setCell_other _ _ _ _ (fun e => hne (congrArg Addr.block e).symm)).trans ((World.cell?_setCell_other _ _ _ _ (fun e => hne (congrArg Addr.block e).symm)).trans h)

set_option maxRecDepth 100000 in
set_option maxHeartbeats 6000000 in
theorem rdDyadic_ok (ao : Option Addr) (n c E F m : Nat) (x : Int) (s neg : Bool) (xs : List Nat) (w : World) (h : Sl w ao n c xs) (hm : m < 5) (l1 : n ≤ 400) (hE2 : 2 ≤ E) (hE11 : E ≤ 11) (hF1 : 1 ≤ F) (hF52 : F ≤ 52) (hf : formE (E : Int) (F : Int) = 0) (hr : twoB s xs x = true) :
    Calls Tryz.prog 88 #[.agg #[.int .i64 (E : Int), .int .i64 (F : Int)], .agg #[.bool s, .slice ao n c, .int .i64 x], .bool neg, .int .u8 (m : Int)] w fun e w' => e = .returned (.tuple #[.int .u64 (sgBits E F (dyN (val xs) x) (dyD (val xs) x) s neg m : Int), .int .u8 (sgFlags E F (dyN (val xs) x) (dyD (val xs) x) s m : Int), .int .i64 0]) ∧ Below w.heap.size w w' := by
  obtain ⟨W2, hW2⟩ : ∃ W2 : World, W2 = (w.alloc (.cells #[.int .i64 (E : Int), .int .i64 (F : Int)] 24)).alloc (.cells #[.bool s, .slice ao n c, .int .i64 x] 113) := ⟨_, rfl⟩
  have hb2 : Below w.heap.size w W2 := hW2 ▸ more (more (Below.refl _ _) _) _
  have c0 : W2.cell? ⟨w.heap.size, 0, none⟩ = some (.int .i64 (E : Int)) := by rw [hW2]; simp [World.cell?_alloc_some]
  have c1 : W2.cell? ⟨w.heap.size, 1, none⟩ = some (.int .i64 (F : Int)) := by rw [hW2]; simp [World.cell?_alloc_some]
  have D2 : Box3 W2 (w.heap.size + 1) (.bool s) (.slice ao n c) (.int .i64 x) := by
    have := box3_new (w.alloc (.cells #[.int .i64 (E : Int), .int .i64 (F : Int)] 24)) (.bool s) (.slice ao n c) (.int .i64 x) 113
    rw [World.size_alloc] at this
    exact hW2 ▸ this
  have hFc := formCheck_any (E : Int) (F : Int) W2
  rw [hf] at hFc
  have hdc : dchk s xs x = 0 := of_decide_eq_true hr
  have hRc : ∀ W, Below w.heap.size w W → Calls Tryz.prog 184 #[.agg #[.bool s, .slice ao n c, .int .i64 x]] W fun e w' => e = .returned (.int .i64 0) ∧ Below W.heap.size W w' := fun W hW => by
    have := dyCheck_any s ao n c x xs W (h.below hW)
    rwa [hdc] at this
  have hL1 : ∀ W, Below w.heap.size w W → Calls Tryz.prog 185 #[.agg #[.slice ao n c]] W (MkZ 38 (val xs : Int) W) := fun W hW => rdLarge_any ao n c xs W (h.below hW) (by omega)
  have hlN : ln (val xs) ≤ 400 := Nat.le_trans (ln_le (val_lt h.ok)) (by rw [h.len]; exact l1)
  have hm4 : ¬ (m : Int) > 4 := by omega
  generalize val xs = N at *
  have m1 := bl_le N
  obtain ⟨nb, hnb⟩ : ∃ nb, nb = blN N := ⟨_, rfl⟩
  obtain ⟨nz, hnz⟩ : ∃ nz, nz = nearZ x (blN N) := ⟨_, rfl⟩
  have hz1 : -14000 ≤ nz ∧ nz ≤ 14000 := by rw [hnz]; unfold nearZ; omega
  have HA : Hid (scN N nz = dyN N x ∧ scD 1 nz = dyD N x) := Lib.hid (by rw [hnz]; exact ⟨rfl, rfl⟩)
  have hNr := fun W => rdNear_any x nb W (by omega)
  rw [hnb, ← hnz, ← hnb] at hNr
  have hB1 : ∀ W BB q, Iz 38 W BB q (N : Int) → Calls Tryz.prog 189 #[.pointer (some ⟨q, 0, none⟩)] W fun e w' => e = .returned (.int .i64 (nb : Int)) ∧ W = w' := fun W BB q hi => by
    have := bgBitLenZ_any q BB (N : Int) W hi (by rw [Int.natAbs_natCast]; omega)
    rw [Int.natAbs_natCast] at this
    rw [hnb]
    exact this
  have hTm : ∀ W b1 b2 B1 B2, Iz 38 W B1 b1 (N : Int) → Iz 38 W B2 b2 1 → Calls Tryz.prog 187 #[.agg #[.pointer (some ⟨b1, 0, none⟩), .pointer (some ⟨b2, 0, none⟩)], .int .i64 nz] W (TmP (scN N nz) (scD 1 nz) W) := fun W b1 b2 B1 B2 i1 i2 => rdTimes_any B1 B2 b1 b2 N 1 nz W i1 i2 (by omega) (by rw [ln_one]; omega) (by omega) (by omega)
  have hNw : ∀ W, Calls Tryz.prog 186 #[.int .i64 1] W (MkZ 38 1 W) := fun W => bgNewZ_any 1 W (by decide)
  have hSg : ∀ W b1 b2 B1 B2, Iz 38 W B1 b1 ((scN N nz : Nat) : Int) → Iz 38 W B2 b2 ((scD 1 nz : Nat) : Int) → Calls Tryz.prog 190 #[.agg #[.int .i64 (E : Int), .int .i64 (F : Int)], .agg #[.pointer (some ⟨b1, 0, none⟩), .pointer (some ⟨b2, 0, none⟩)], .bool s, .bool neg, .int .u8 (m : Int)] W fun e w' => e = .returned (.tuple #[.int .u64 (sgBits E F (dyN N x) (dyD N x) s neg m : Int), .int .u8 (sgFlags E F (dyN N x) (dyD N x) s m : Int), .int .i64 0]) ∧ Below W.heap.size W w' := fun W b1 b2 B1 B2 i1 i2 => by
    have k1 : ln (scN N nz) ≤ 65536 := by
      have := ln_shl N nz.toNat
      unfold scN
      omega
    have k2 : ln (scD 1 nz) ≤ 65536 := by
      have := ln_shl 1 (-nz).toNat
      rw [ln_one] at this
      unfold scD
      omega
    have := rdSigned_any B1 B2 b1 b2 (scN N nz) (scD 1 nz) E F m s neg W i1 i2 (Nat.ne_of_gt (scD_pos (by decide) _)) hm k1 k2 hE2 hE11 hF1 hF52
    rwa [HA.out.1, HA.out.2] at this
  generalize sgBits E F (dyN N x) (dyD N x) s neg m = bb at *
  generalize sgFlags E F (dyN N x) (dyD N x) s m = gg at *
  generalize scN N nz = A at *
  generalize scD 1 nz = B at *
  clear hf hr hdc h l1 HA hnz hnb m1 hz1 hlN
  go_enter Tryz.func88, Tryz.ntmps88
  go_wp2_with fail
  rw [← hW2]
  clear hW2
  refine hFc.mono ?_
  rintro en w3 ⟨rfl, hb3⟩
  have V3 := next hb2 hb3
  have D3 := D2.stay hb3
  have e0 := cellStay c0 hb3
  have e1 := cellStay c1 hb3
  have ⟨d0, d1, d2, _, _, _⟩ := D3
  clear c0 c1 D2 hFc
  go_wp2_with fail
  refine (hRc w3 V3).mono ?_
  rintro en w4 ⟨rfl, hb4⟩
  have V4 := next V3 hb4
  have D4 := D3.stay hb4
  have f0 := cellStay e0 hb4
  have f1 := cellStay e1 hb4
  clear e0 e1 d0 d1 d2 D3 hRc hb3 hb4 hb2
  have ⟨d0, d1, d2, _, _, _⟩ := D4
  go_wp2_with fail
  refine (hL1 w4 V4).mono ?_
  rintro en w5 ⟨q1, rfl, I1, hb5⟩
  clear d0 d1 d2 hL1
  go_wp2_with fail
  refine (hNw w5).mono ?_
  rintro en w6 ⟨q2, rfl, I2, hb6⟩
  have U7 := more (next hb5 hb6) (.cells #[.pointer (some ⟨q1, 0, none⟩), .pointer (some ⟨q2, 0, none⟩)] 236)
  have I1' := (I1.stay hb6).stay (more (Below.refl _ _) (.cells #[.pointer (some ⟨q1, 0, none⟩), .pointer (some ⟨q2, 0, none⟩)] 236))
  have I2' := I2.stay (more (Below.refl _ _) (.cells #[.pointer (some ⟨q1, 0, none⟩), .pointer (some ⟨q2, 0, none⟩)] 236))
  have p0 : (w6.alloc (.cells #[.pointer (some ⟨q1, 0, none⟩), .pointer (some ⟨q2, 0, none⟩)] 236)).cell? ⟨w6.heap.size, 0, none⟩ = some (.pointer (some ⟨q1, 0, none⟩)) := by simp
  have p1 : (w6.alloc (.cells #[.pointer (some ⟨q1, 0, none⟩), .pointer (some ⟨q2, 0, none⟩)] 236)).cell? ⟨w6.heap.size, 1, none⟩ = some (.pointer (some ⟨q2, 0, none⟩)) := by simp
  have z0 : (w6.alloc (.cells #[.pointer (some ⟨q1, 0, none⟩), .pointer (some ⟨q2, 0, none⟩)] 236)).frozen? ⟨w6.heap.size, 0, none⟩ = false := by simp [go_sem]
  have z1 : (w6.alloc (.cells #[.pointer (some ⟨q1, 0, none⟩), .pointer (some ⟨q2, 0, none⟩)] 236)).frozen? ⟨w6.heap.size, 1, none⟩ = false := by simp [go_sem]
  have Hp : Hd 38 (w6.alloc (.cells #[.pointer (some ⟨q1, 0, none⟩), .pointer (some ⟨q2, 0, none⟩)] 236)) w6.heap.size := hd_new w6 _ (by decide)
  have hpl : w6.heap.size < (w6.alloc (.cells #[.pointer (some ⟨q1, 0, none⟩), .pointer (some ⟨q2, 0, none⟩)] 236)).heap.size := by simp
  have hwp : w.heap.size ≤ w6.heap.size := Nat.le_trans V4.size (next hb5 hb6).size
  have hwp2 : w.heap.size + 1 < w6.heap.size := Nat.lt_of_lt_of_le D4.lt (next hb5 hb6).size
  go_upto_region 8 with fail
  obtain ⟨p, hp⟩ : ∃ p, p = w6.heap.size := ⟨_, rfl⟩
  rw [← hp] at p0 p1 z0 z1 Hp hpl hwp hwp2 ⊢
  clear hp I1 I2 hb5 hb6 hNw
  generalize w6.alloc (.cells #[.pointer (some ⟨q1, 0, none⟩), .pointer (some ⟨q2, 0, none⟩)] 236) = w7 at U7 I1' I2' p0 p1 z0 z1 Hp hpl ⊢
  have D7 := D4.stay U7
  have g0 := cellStay f0 U7
  have g1 := cellStay f1 U7
  have V7 := next V4 U7
  clear f0 f1 D4 U7 V4
  have lD := D7.lt
  have lF := World.block_lt_of_cell? w7 ⟨w.heap.size, 0, none⟩ g0
  have x2 := D7.c2
  go_cut [] from 28 (fun wx => ∃ b1 b2, wx.cell? ⟨p, 0, none⟩ = some (.pointer (some ⟨b1, 0, none⟩)) ∧ wx.cell? ⟨p, 1, none⟩ = some (.pointer (some ⟨b2, 0, none⟩)) ∧ Iz 38 wx 0 b1 (A : Int) ∧ Iz 38 wx 0 b2 (B : Int) ∧ Below w.heap.size w wx ∧ wx.cell? ⟨w.heap.size, 0, none⟩ = some (.int .i64 (E : Int)) ∧ wx.cell? ⟨w.heap.size, 1, none⟩ = some (.int .i64 (F : Int)) ∧ wx.cell? ⟨w.heap.size + 1, 0, none⟩ = some (.bool s))
  case first =>
    go_region_with (first
      | (go_at_call 189; (with_reducible refine (hB1 _ _ _ (I1'.stay ?_)).mono ?_); (first | exact Below.refl _ _ | exact (Below.refl _ _).drew | exact (Below.refl _ _).drew.drew); rintro en wB ⟨rfl, rfl⟩)
      | (go_at_call 188; (with_reducible refine (hNr _).mono ?_); rintro en wB ⟨rfl, rfl⟩)
      | (go_at_call 187; (with_reducible refine (hTm _ _ _ _ _ (I1'.stay ?_) (I2'.stay ?_)).mono ?_); (focus (first | exact Below.refl _ _ | exact (Below.refl _ _).drew | exact (Below.refl _ _).drew.drew)); (focus (first | exact Below.refl _ _ | exact (Below.refl _ _).drew | exact (Below.refl _ _).drew.drew)); rintro en wC ⟨b1, b2, rfl, J1, J2, hbC⟩; have hC : Below w7.heap.size w7 wC := (by first | exact hbC | exact undrew hbC | exact undrew (undrew hbC)); have t0 := cellStay p0 hC; have t1 := cellStay p1 hC; have y0 := (hC.frozen (p := ⟨p, 0, none⟩) hpl).trans z0; have y1 := (hC.frozen (p := ⟨p, 1, none⟩) hpl).trans z1; have HC := Hp.stay hpl hC; have s0 := cellStay g0 hC; have s1 := cellStay g1 hC; have s2 := cellStay D7.c0 hC))
    all_goals go_wp2
    all_goals go_meet
    all_goals exact ⟨b1, b2, (World.cell?_setCell_other _ _ _ _ (by simp)).trans (World.cell?_setCell_same _ _ _ t0), World.cell?_setCell_same _ _ _ ((World.cell?_setCell_other _ _ _ _ (by simp)).trans t1), iz_set2 J1 (iz_ne J1 t0) HC _ _, iz_set2 J2 (iz_ne J2 t0) HC _ _, ((next V7 hC).setCell hwp _).setCell hwp _, (cell_off2 s0 (by omega)), (cell_off2 s1 (by omega)), (cell_off2 s2 (by omega))⟩
  case rest =>
    obtain ⟨b1, b2, t0, t1, J1, J2, Vx, s0, s1, s2⟩ := hcut
    go_wp2_with fail
    refine (hSg _ _ _ _ _ J1 J2).mono ?_
    rintro en w9 ⟨rfl, hb9⟩
    go_wp2
    go_ret3
    exact ⟨rfl, next Vx hb9⟩

end Go.Proofs.YtklibjdhlmdkpaaGreatDoor

