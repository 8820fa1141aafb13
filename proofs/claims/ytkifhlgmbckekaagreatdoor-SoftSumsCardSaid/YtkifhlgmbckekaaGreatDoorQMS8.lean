/-
  Contracts of numeral/round: large, limbs.
-/
import Derived.Test.YtkifhlgmbckekaaGreatDoorQBgV
import Derived.Deep.RegionHeld3
import Derived.Test.YtkifhlgmbckekaaGreatDoorQRdD
import Derived.Test.YtkifhlgmbckekaaGreatDoorQBgI
import Derived.StillTailTactics
import Derived.Deep.CutRange
import Derived.Lib.ItoaNum
import Derived.Test.YtkifhlgmbckekaaGreatDoorNats
import Derived.Laws.StructEq
import Derived.Test.YtkifhlgmbckekaaGreatDoorBigL
import Derived.Test.YtkifhlgmbckekaaGreatDoorIntL
import Derived.Deep.RegionWith
import Derived.Deep.CutBlock
import Derived.Deep.Cut
import Derived.Deep.DrawnRows
import Derived.Test.YtkifhlgmbckekaaGreatDoorRatM
import Derived.Test.YtkifhlgmbckekaaGreatDoorRndN
import Derived.Test.YtkifhlgmbckekaaGreatDoorQRdA
import Derived.Test.YtkifhlgmbckekaaGreatDoorQMS5
namespace Go.Proofs.YtkifhlgmbckekaaGreatDoor

open Go.RowKit Go.Lb

attribute [local go_sem ↓] Go.wp_at_zero Go.wp_at_succ

theorem val_drop_next (xs : List Nat) (t : Nat) (h : t < xs.length) : val (xs.drop t) = val (xs.drop (t + 1)) * 4294967296 + nth xs t := by
  rw [List.drop_eq_getElem_cons h, val]
  unfold nth
  rw [List.getD_eq_getElem?_getD, List.getElem?_eq_getElem h, Option.getD_some]
  omega

set_option maxRecDepth 100000 in
set_option maxHeartbeats 3000000 in
theorem rdLarge_any (ao : Option Addr) (n c : Nat) (xs : List Nat) (w : World) (h : Sl w ao n c xs) (hn : n ≤ 8388608) :
    Calls Tryz.prog 176 #[.agg #[.slice ao n c]] w (MkZ 150 (val xs : Int) w) := by
  have hle := h.le
  have hcap := h.cap
  have hlen := h.len
  have HV : Hid (∀ t, t < n → val (xs.drop t) = val (xs.drop (t + 1)) * 4294967296 + nth xs t) := Lib.hid (fun t ht => val_drop_next xs t (by omega))
  have HL : Hid (∀ j, ln (val (xs.drop j)) ≤ 8388608) := Lib.hid (fun j => Nat.le_trans (ln_le (val_lt (ok_drop h.ok j))) (by rw [List.length_drop]; omega))
  obtain ⟨W2, hW2⟩ : ∃ W2 : World, W2 = (w.alloc (.cells #[.slice ao n c] 69)).alloc (.cells #[.bool false, .slice none 0 0] 254) := ⟨_, rfl⟩
  have hb2 : Below w.heap.size w W2 := hW2 ▸ more (more (Below.refl _ _) _) _
  have hI : Iz 150 W2 (w.heap.size + 1) (w.heap.size + 1) ((val (xs.drop n) : Nat) : Int) := by
    have := iz_new (e := 150) (t := 254) (w.alloc (.cells #[.slice ao n c] 69))
    rw [World.size_alloc] at this
    rw [hW2, List.drop_of_length_le (by omega)]
    exact this
  have hc : W2.cell? ⟨w.heap.size, 0, none⟩ = some (.slice ao n c) := by rw [hW2]; simp [World.cell?_alloc_some]
  have HD0 : Hid (val xs = val (xs.drop 0)) := Lib.hid (by rw [List.drop_zero])
  clear hlen
  go_enter Tryz.func176, Tryz.ntmps176
  go_wp2
  rw [← hW2]
  clear hW2
  go_loopw [4] (fun iv wr => ∃ j : Nat, j ≤ n ∧ iv = .int .i64 ((j : Int) - 1) ∧ Iz 150 wr (w.heap.size + 1) (w.heap.size + 1) ((val (xs.drop j) : Nat) : Int) ∧ wr.cell? ⟨w.heap.size, 0, none⟩ = some (.slice ao n c) ∧ Below w.heap.size w wr) (fun iv _ => (intOf iv + 1).toNat)
  case atStart => exact ⟨n, Nat.le_refl _, rfl, hI, hc, hb2⟩
  case round =>
    obtain ⟨j, hj, rfl, hI, hc, hW⟩ := hrel
    clear hb2
    by_cases hj0 : j = 0
    · subst hj0
      have j1 : ¬ ((0 : Nat) : Int) - 1 ≥ 0 := by decide
      go_wp2
      go_ret
      exact ⟨_, rfl, by rw [HD0.out]; exact hI.mono (Nat.le_succ _), hW⟩
    · obtain ⟨t, rfl⟩ : ∃ t, j = t + 1 := ⟨j - 1, by omega⟩
      have ej : ((t + 1 : Nat) : Int) - 1 = (t : Int) := by omega
      rw [ej]
      have htn : t < n := by omega
      obtain ⟨g, o, rfl, hg, hcc⟩ := (h.below hW).at_ (by omega)
      have hcell := hcc t htn
      have hlt := nth_lt h.ok t
      have hv := HV.out t htn
      have HVt := Lib.hid hv
      have hl1 := HL.out (t + 1)
      have HT : Hid (t + 1 ≤ n) := Lib.hid hj
      have hgw : g ≠ w.heap.size + 1 := by
        obtain ⟨g', o', e', hg', _⟩ := h.at_ (by omega)
        cases e'
        omega
      generalize val (xs.drop (t + 1)) = V at *
      generalize nth xs t = x at *
      have i1 : (0 : Int) ≤ (t : Int) := by omega
      have i2 : (t : Int) < (n : Int) := by omega
      have i3 : (t : Int) ≥ 0 := by omega
      have hzc := hI.zc
      have hsz := hW.size
      have hbl := hI.lt
      have hLs := bgLsh_any (w.heap.size + 1) (w.heap.size + 1) (w.heap.size + 1) (w.heap.size + 1) 32 (V : Int) wr.drew (hzc.stay (Below.refl _ _).drew) (Nat.le_of_lt hbl) (hI.stay (Below.refl _ _).drew) (by rw [Int.natAbs_natCast]; omega) (by decide)
      rw [show (V : Int) * 2 ^ 32 = ((V * 4294967296 : Nat) : Int) by simp, show ((32 : Nat) : Int) = 32 from rfl] at hLs
      have hwx : IntKind.i64.wrap (x : Int) = (x : Int) := IntWalk.i64_in _ (by omega)
      have hz2 := hzc.stay (Below.refl wr.heap.size wr).drew
      have hN := bgNewZ_any (x : Int)
      have hO : ∀ W B bb, Below w.heap.size w W → Iz 150 W (w.heap.size + 1) (w.heap.size + 1) ((V * 4294967296 : Nat) : Int) → Iz 150 W B bb (x : Int) → Calls Tryz.prog 273 #[.pointer (some ⟨w.heap.size + 1, 0, none⟩), .pointer (some ⟨w.heap.size + 1, 0, none⟩), .pointer (some ⟨bb, 0, none⟩)] W (StZ 150 (w.heap.size + 1) (w.heap.size + 1) ((V * 4294967296 + x : Nat) : Int) W) := fun W B bb hW hi hx =>
        bgOrLow_any (w.heap.size + 1) (w.heap.size + 1) (w.heap.size + 1) B (w.heap.size + 1) bb _ x W hi.zc (Nat.le_of_lt hi.lt) hi hx (by omega) hlt (by
          have e : V * 4294967296 = V * 2 ^ 32 := rfl
          rw [e]
          exact Nat.le_trans (ln_shl V 32) (by omega))
      have hw0 : w.heap.size ≠ w.heap.size + 1 := by omega
      clear hcc hv hl1 ej hj hj0
      go_wp2
      go_region_held3 (fun w' => w'.cell? ⟨w.heap.size, 0, none⟩ = some (.slice (some ⟨g, o, none⟩) n c) ∧ w'.cell? ⟨g, o + t, none⟩ = some (.int .u32 (x : Int)))
        ((first | exact ⟨p2, p3⟩ | exact ⟨o2, o3⟩ | exact ⟨f2, f3⟩ | (go_keep; done)))
        (first
          | (go_at_call 272; (with_reducible refine hLs.mono ?_); rintro en wA hS; have VA := hS.below hW.drew hsz (Nat.le_succ _); have hgA := hS.grown; obtain ⟨rfl, hIA, _⟩ := hS.in_ hz2 (Nat.le_refl _); have f2 := hgA.cell hc (fun e => by injection e with e; exact hw0 e); have f3 := hgA.cell hcell (fun e => by injection e with e; exact hgw e))
          | (go_at_call 177; (with_reducible refine (hN _ ?_).mono ?_); (exact ⟨by omega, by omega⟩); rintro en wB ⟨bb, rfl, hIx, hbB⟩; have o2 := cellStay f2 hbB; have o3 := cellStay f3 hbB; have VB := next VA hbB; have hIB := hIA.stay hbB)
          | (go_at_call 273; (with_reducible refine (hO _ _ _ VB hIB hIx).mono ?_); rintro en wC hS; have VC := hS.below VB VB.size (Nat.le_succ _); have hgC := hS.grown; obtain ⟨rfl, hIC, _⟩ := hS.in_ hIB.zc (Nat.le_refl _); have p2 := hgC.cell o2 (fun e => by injection e with e; exact hw0 e); have p3 := hgC.cell o3 (fun e => by injection e with e; exact hgw e)))
      all_goals
        rw [← HVt.out] at hIC
        go_wp2
        exact ⟨⟨t, by have := HT.out; omega, rfl, hIC, p2, VC⟩, by simp [intOf] <;> omega⟩

end Go.Proofs.YtkifhlgmbckekaaGreatDoor

/-
  Contract of numeral/round: Scaled, Ratio.
-/
namespace Go.Proofs.YtkifhlgmbckekaaGreatDoor

open Go.RowKit Go.Lb

attribute [local go_sem ↓] Go.wp_at_zero Go.wp_at_succ

/-- A box of two pointers, made and not yet written. -/
structure PZ (w : World) (b : Nat) : Prop where
  c0 : w.cell? ⟨b, 0, none⟩ = some (.pointer none)
  c1 : w.cell? ⟨b, 1, none⟩ = some (.pointer none)
  z0 : w.frozen? ⟨b, 0, none⟩ = false
  z1 : w.frozen? ⟨b, 1, none⟩ = false

theorem PZ.stay {wp w' : World} {b : Nat} (h : PZ wp b) (k : Below wp.heap.size wp w') : PZ w' b := by
  have l := World.block_lt_of_cell? wp ⟨b, 0, none⟩ h.c0
  exact ⟨cellStay h.c0 k, cellStay h.c1 k, (k.frozen (p := ⟨b, 0, none⟩) l).trans h.z0, (k.frozen (p := ⟨b, 1, none⟩) l).trans h.z1⟩

end Go.Proofs.YtkifhlgmbckekaaGreatDoor

/-
  Contracts of numeral/numeralref05: Two.
-/
namespace Go.Proofs.YtkifhlgmbckekaaGreatDoor

open Go.RowKit Go.Lb

attribute [local go_sem] Go.World.cell?_alloc_some

/-- May it be a dyadic? -/
def twoB (neg : Bool) (xs : List Nat) (x : Int) : Bool := decide (dchk neg xs x = 0)

end Go.Proofs.YtkifhlgmbckekaaGreatDoor

/-
  Contract of numeral/round: Dyadic.
-/
namespace Go.Proofs.YtkifhlgmbckekaaGreatDoor

open Go.RowKit Go.Lb

attribute [local go_sem] Go.World.cell?_alloc_some

attribute [local go_sem ↓] Go.wp_at_zero Go.wp_at_succ

/-- What Dyadic rounds: above the line, below it. -/
def dyN (N : Nat) (x : Int) : Nat := N * 2 ^ (nearZ x (blN N)).toNat

def dyD (N : Nat) (x : Int) : Nat := 1 * 2 ^ (-(nearZ x (blN N))).toNat

/-- Dyadic's answers: the error, the bits, the flags. -/
def dyErr (e f : Int) (s : Bool) (xs : List Nat) (x : Int) (m : Nat) : Int := if formE e f ≠ 0 then 5 else if twoB s xs x = false then 40 else if 4 < m then 7 else 0

def dyBits (e f : Int) (s : Bool) (xs : List Nat) (x : Int) (neg : Bool) (m : Nat) : Nat := if dyErr e f s xs x m = 0 then sgBits e.toNat f.toNat (dyN (val xs) x) (dyD (val xs) x) s neg m else 0

def dyFlags (e f : Int) (s : Bool) (xs : List Nat) (x : Int) (m : Nat) : Nat := if dyErr e f s xs x m = 0 then sgFlags e.toNat f.toNat (dyN (val xs) x) (dyD (val xs) x) s m else 0

theorem iz_set2 {w : World} {base b p : Nat} {z : Int} (h : Iz 150 w base b z) (hne : b ≠ p) (hd : Hd 150 w p) (u v : Value) : Iz 150 ((w.setCell ⟨p, 0, none⟩ u).setCell ⟨p, 1, none⟩ v) base b z := by
  obtain ⟨ao, k, c, i⟩ := h
  exact ⟨ao, k, c, i.other (grown_trans (grown_set w p 0 u) (grown_set _ p 1 v)) hne (fr_hd i.fr hd)⟩

theorem iz_ne {w : World} {base b p : Nat} {z : Int} {q : Option Addr} (h : Iz 150 w base b z) (hc : w.cell? ⟨p, 0, none⟩ = some (.pointer q)) : b ≠ p := by
  rintro rfl
  obtain ⟨ao, k, c, i⟩ := h
  rw [i.c0] at hc
  cases hc

theorem cell_off2 {w : World} {b i p : Nat} {u v x : Value} (h : w.cell? ⟨b, i, none⟩ = some x) (hne : b ≠ p) : ((w.setCell ⟨p, 0, none⟩ u).setCell ⟨p, 1, none⟩ v).cell? ⟨b, i, none⟩ = some x :=
  (World.cell?_setCell_other _ _ _ _ (fun e => hne (congrArg Addr.block e).symm)).trans ((World.cell?_setCell_other _ _ _ _ (fun e => hne (congrArg Addr.block e).symm)).trans h)

set_option maxRecDepth 100000 in
set_option maxHeartbeats 6000000 in
theorem rdDyadic_ok (ao : Option Addr) (n c E F m : Nat) (x : Int) (s neg : Bool) (xs : List Nat) (w : World) (h : Sl w ao n c xs) (hm : m < 5) (l1 : n ≤ 400) (hE2 : 2 ≤ E) (hE11 : E ≤ 11) (hF1 : 1 ≤ F) (hF52 : F ≤ 52) (hf : formE (E : Int) (F : Int) = 0) (hr : twoB s xs x = true) :
    Calls Tryz.prog 83 #[.agg #[.int .i64 (E : Int), .int .i64 (F : Int)], .agg #[.bool s, .slice ao n c, .int .i64 x], .bool neg, .int .u8 (m : Int)] w fun e w' => e = .returned (.tuple #[.int .u64 (sgBits E F (dyN (val xs) x) (dyD (val xs) x) s neg m : Int), .int .u8 (sgFlags E F (dyN (val xs) x) (dyD (val xs) x) s m : Int), .int .i64 0]) ∧ Below w.heap.size w w' := by
  obtain ⟨W2, hW2⟩ : ∃ W2 : World, W2 = (w.alloc (.cells #[.int .i64 (E : Int), .int .i64 (F : Int)] 23)).alloc (.cells #[.bool s, .slice ao n c, .int .i64 x] 81) := ⟨_, rfl⟩
  have hb2 : Below w.heap.size w W2 := hW2 ▸ more (more (Below.refl _ _) _) _
  have c0 : W2.cell? ⟨w.heap.size, 0, none⟩ = some (.int .i64 (E : Int)) := by rw [hW2]; simp [World.cell?_alloc_some]
  have c1 : W2.cell? ⟨w.heap.size, 1, none⟩ = some (.int .i64 (F : Int)) := by rw [hW2]; simp [World.cell?_alloc_some]
  have D2 : Box3 W2 (w.heap.size + 1) (.bool s) (.slice ao n c) (.int .i64 x) := by
    have := box3_new (w.alloc (.cells #[.int .i64 (E : Int), .int .i64 (F : Int)] 23)) (.bool s) (.slice ao n c) (.int .i64 x) 81
    rw [World.size_alloc] at this
    exact hW2 ▸ this
  have hFc := formCheck_any (E : Int) (F : Int) W2
  rw [hf] at hFc
  have hdc : dchk s xs x = 0 := of_decide_eq_true hr
  have hRc : ∀ W, Below w.heap.size w W → Calls Tryz.prog 175 #[.agg #[.bool s, .slice ao n c, .int .i64 x]] W fun e w' => e = .returned (.int .i64 0) ∧ Below W.heap.size W w' := fun W hW => by
    have := dyCheck_any s ao n c x xs W (h.below hW)
    rwa [hdc] at this
  have hL1 : ∀ W, Below w.heap.size w W → Calls Tryz.prog 176 #[.agg #[.slice ao n c]] W (MkZ 150 (val xs : Int) W) := fun W hW => rdLarge_any ao n c xs W (h.below hW) (by omega)
  have hlN : ln (val xs) ≤ 400 := Nat.le_trans (ln_le (val_lt h.ok)) (by rw [h.len]; exact l1)
  have hm4 : ¬ (m : Int) > 4 := by omega
  generalize val xs = N at *
  have m1 := bl_le N
  obtain ⟨nb, hnb⟩ : ∃ nb, nb = blN N := ⟨_, rfl⟩
  obtain ⟨nz, hnz⟩ : ∃ nz, nz = nearZ x (blN N) := ⟨_, rfl⟩
  have hz1 : -14000 ≤ nz ∧ nz ≤ 14000 := by rw [hnz]; unfold nearZ; omega
  have HA : Hid (scN N nz = dyN N x ∧ scD 1 nz = dyD N x) := Lib.hid (by rw [hnz]; exact ⟨rfl, rfl⟩)
  have hNr := fun W => rdNear_any x nb W (by omega)
  rw [hnb, ← hnz, ← hnb] at hNr
  have hB1 : ∀ W BB q, Iz 150 W BB q (N : Int) → Calls Tryz.prog 180 #[.pointer (some ⟨q, 0, none⟩)] W fun e w' => e = .returned (.int .i64 (nb : Int)) ∧ W = w' := fun W BB q hi => by
    have := bgBitLenZ_any q BB (N : Int) W hi (by rw [Int.natAbs_natCast]; omega)
    rw [Int.natAbs_natCast] at this
    rw [hnb]
    exact this
  have hTm : ∀ W b1 b2 B1 B2, Iz 150 W B1 b1 (N : Int) → Iz 150 W B2 b2 1 → Calls Tryz.prog 178 #[.agg #[.pointer (some ⟨b1, 0, none⟩), .pointer (some ⟨b2, 0, none⟩)], .int .i64 nz] W (TmP (scN N nz) (scD 1 nz) W) := fun W b1 b2 B1 B2 i1 i2 => rdTimes_any B1 B2 b1 b2 N 1 nz W i1 i2 (by omega) (by rw [ln_one]; omega) (by omega) (by omega)
  have hNw : ∀ W, Calls Tryz.prog 177 #[.int .i64 1] W (MkZ 150 1 W) := fun W => bgNewZ_any 1 W (by decide)
  have hSg : ∀ W b1 b2 B1 B2, Iz 150 W B1 b1 ((scN N nz : Nat) : Int) → Iz 150 W B2 b2 ((scD 1 nz : Nat) : Int) → Calls Tryz.prog 181 #[.agg #[.int .i64 (E : Int), .int .i64 (F : Int)], .agg #[.pointer (some ⟨b1, 0, none⟩), .pointer (some ⟨b2, 0, none⟩)], .bool s, .bool neg, .int .u8 (m : Int)] W fun e w' => e = .returned (.tuple #[.int .u64 (sgBits E F (dyN N x) (dyD N x) s neg m : Int), .int .u8 (sgFlags E F (dyN N x) (dyD N x) s m : Int), .int .i64 0]) ∧ Below W.heap.size W w' := fun W b1 b2 B1 B2 i1 i2 => by
    have k1 : ln (scN N nz) ≤ 65536 := by
      have := ln_shl N nz.toNat
      unfold scN
      omega
    have k2 : ln (scD 1 nz) ≤ 65536 := by
      have := ln_shl 1 (-nz).toNat
      rw [ln_one] at this
      unfold scD
      omega
    have := rdSigned_any B1 B2 b1 b2 (scN N nz) (scD 1 nz) E F m s neg W i1 i2 (Nat.ne_of_gt (scD_pos (by decide) _)) hm k1 k2 hE2 hE11 hF1 hF52
    rwa [HA.out.1, HA.out.2] at this
  generalize sgBits E F (dyN N x) (dyD N x) s neg m = bb at *
  generalize sgFlags E F (dyN N x) (dyD N x) s m = gg at *
  generalize scN N nz = A at *
  generalize scD 1 nz = B at *
  clear hf hr hdc h l1 HA hnz hnb m1 hz1 hlN
  go_enter Tryz.func83, Tryz.ntmps83
  go_wp2_with fail
  rw [← hW2]
  clear hW2
  refine hFc.mono ?_
  rintro en w3 ⟨rfl, hb3⟩
  have V3 := next hb2 hb3
  have D3 := D2.stay hb3
  have e0 := cellStay c0 hb3
  have e1 := cellStay c1 hb3
  have ⟨d0, d1, d2, _, _, _⟩ := D3
  clear c0 c1 D2 hFc
  go_wp2_with fail
  refine (hRc w3 V3).mono ?_
  rintro en w4 ⟨rfl, hb4⟩
  have V4 := next V3 hb4
  have D4 := D3.stay hb4
  have f0 := cellStay e0 hb4
  have f1 := cellStay e1 hb4
  clear e0 e1 d0 d1 d2 D3 hRc hb3 hb4 hb2
  have ⟨d0, d1, d2, _, _, _⟩ := D4
  go_wp2_with fail
  refine (hL1 w4 V4).mono ?_
  rintro en w5 ⟨q1, rfl, I1, hb5⟩
  clear d0 d1 d2 hL1
  go_wp2_with fail
  refine (hNw w5).mono ?_
  rintro en w6 ⟨q2, rfl, I2, hb6⟩
  have U7 := more (next hb5 hb6) (.cells #[.pointer (some ⟨q1, 0, none⟩), .pointer (some ⟨q2, 0, none⟩)] 221)
  have I1' := (I1.stay hb6).stay (more (Below.refl _ _) (.cells #[.pointer (some ⟨q1, 0, none⟩), .pointer (some ⟨q2, 0, none⟩)] 221))
  have I2' := I2.stay (more (Below.refl _ _) (.cells #[.pointer (some ⟨q1, 0, none⟩), .pointer (some ⟨q2, 0, none⟩)] 221))
  have p0 : (w6.alloc (.cells #[.pointer (some ⟨q1, 0, none⟩), .pointer (some ⟨q2, 0, none⟩)] 221)).cell? ⟨w6.heap.size, 0, none⟩ = some (.pointer (some ⟨q1, 0, none⟩)) := by simp
  have p1 : (w6.alloc (.cells #[.pointer (some ⟨q1, 0, none⟩), .pointer (some ⟨q2, 0, none⟩)] 221)).cell? ⟨w6.heap.size, 1, none⟩ = some (.pointer (some ⟨q2, 0, none⟩)) := by simp
  have z0 : (w6.alloc (.cells #[.pointer (some ⟨q1, 0, none⟩), .pointer (some ⟨q2, 0, none⟩)] 221)).frozen? ⟨w6.heap.size, 0, none⟩ = false := by simp [go_sem]
  have z1 : (w6.alloc (.cells #[.pointer (some ⟨q1, 0, none⟩), .pointer (some ⟨q2, 0, none⟩)] 221)).frozen? ⟨w6.heap.size, 1, none⟩ = false := by simp [go_sem]
  have Hp : Hd 150 (w6.alloc (.cells #[.pointer (some ⟨q1, 0, none⟩), .pointer (some ⟨q2, 0, none⟩)] 221)) w6.heap.size := hd_new w6 _ (by decide)
  have hpl : w6.heap.size < (w6.alloc (.cells #[.pointer (some ⟨q1, 0, none⟩), .pointer (some ⟨q2, 0, none⟩)] 221)).heap.size := by simp
  have hwp : w.heap.size ≤ w6.heap.size := Nat.le_trans V4.size (next hb5 hb6).size
  have hwp2 : w.heap.size + 1 < w6.heap.size := Nat.lt_of_lt_of_le D4.lt (next hb5 hb6).size
  go_upto_region 8 with fail
  obtain ⟨p, hp⟩ : ∃ p, p = w6.heap.size := ⟨_, rfl⟩
  rw [← hp] at p0 p1 z0 z1 Hp hpl hwp hwp2 ⊢
  clear hp I1 I2 hb5 hb6 hNw
  generalize w6.alloc (.cells #[.pointer (some ⟨q1, 0, none⟩), .pointer (some ⟨q2, 0, none⟩)] 221) = w7 at U7 I1' I2' p0 p1 z0 z1 Hp hpl ⊢
  have D7 := D4.stay U7
  have g0 := cellStay f0 U7
  have g1 := cellStay f1 U7
  have V7 := next V4 U7
  clear f0 f1 D4 U7 V4
  have lD := D7.lt
  have lF := World.block_lt_of_cell? w7 ⟨w.heap.size, 0, none⟩ g0
  have x2 := D7.c2
  go_cut [] from 28 (fun wx => ∃ b1 b2, wx.cell? ⟨p, 0, none⟩ = some (.pointer (some ⟨b1, 0, none⟩)) ∧ wx.cell? ⟨p, 1, none⟩ = some (.pointer (some ⟨b2, 0, none⟩)) ∧ Iz 150 wx 0 b1 (A : Int) ∧ Iz 150 wx 0 b2 (B : Int) ∧ Below w.heap.size w wx ∧ wx.cell? ⟨w.heap.size, 0, none⟩ = some (.int .i64 (E : Int)) ∧ wx.cell? ⟨w.heap.size, 1, none⟩ = some (.int .i64 (F : Int)) ∧ wx.cell? ⟨w.heap.size + 1, 0, none⟩ = some (.bool s))
  case first =>
    go_region_with (first
      | (go_at_call 180; (with_reducible refine (hB1 _ _ _ (I1'.stay ?_)).mono ?_); (first | exact Below.refl _ _ | exact (Below.refl _ _).drew | exact (Below.refl _ _).drew.drew); rintro en wB ⟨rfl, rfl⟩)
      | (go_at_call 179; (with_reducible refine (hNr _).mono ?_); rintro en wB ⟨rfl, rfl⟩)
      | (go_at_call 178; (with_reducible refine (hTm _ _ _ _ _ (I1'.stay ?_) (I2'.stay ?_)).mono ?_); (focus (first | exact Below.refl _ _ | exact (Below.refl _ _).drew | exact (Below.refl _ _).drew.drew)); (focus (first | exact Below.refl _ _ | exact (Below.refl _ _).drew | exact (Below.refl _ _).drew.drew)); rintro en wC ⟨b1, b2, rfl, J1, J2, hbC⟩; have hC : Below w7.heap.size w7 wC := (by first | exact hbC | exact undrew hbC | exact undrew (undrew hbC)); have t0 := cellStay p0 hC; have t1 := cellStay p1 hC; have y0 := (hC.frozen (p := ⟨p, 0, none⟩) hpl).trans z0; have y1 := (hC.frozen (p := ⟨p, 1, none⟩) hpl).trans z1; have HC := Hp.stay hpl hC; have s0 := cellStay g0 hC; have s1 := cellStay g1 hC; have s2 := cellStay D7.c0 hC))
    all_goals go_wp2
    all_goals go_meet
    all_goals exact ⟨b1, b2, (World.cell?_setCell_other _ _ _ _ (by simp)).trans (World.cell?_setCell_same _ _ _ t0), World.cell?_setCell_same _ _ _ ((World.cell?_setCell_other _ _ _ _ (by simp)).trans t1), iz_set2 J1 (iz_ne J1 t0) HC _ _, iz_set2 J2 (iz_ne J2 t0) HC _ _, ((next V7 hC).setCell hwp _).setCell hwp _, (cell_off2 s0 (by omega)), (cell_off2 s1 (by omega)), (cell_off2 s2 (by omega))⟩
  case rest =>
    obtain ⟨b1, b2, t0, t1, J1, J2, Vx, s0, s1, s2⟩ := hcut
    go_wp2_with fail
    refine (hSg _ _ _ _ _ J1 J2).mono ?_
    rintro en w9 ⟨rfl, hb9⟩
    go_wp2
    go_ret3
    exact ⟨rfl, next Vx hb9⟩

end Go.Proofs.YtkifhlgmbckekaaGreatDoor

