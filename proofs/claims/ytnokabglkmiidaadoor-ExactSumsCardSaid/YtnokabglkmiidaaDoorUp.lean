/-
  The walk of nat.shifted: a list times a power of two below 2^32, in a row of its own. The walk of nat.Up: a number times a power of two, in a block of its own.
-/
import Derived.Test.YtnokabglkmiidaaDoorDig
import Derived.Test.YtnokabglkmiidaaDoorLower
import Derived.Test.YtnokabglkmiidaaDoorFresh
import Derived.Test.YtnokabglkmiidaaDoorDown
import Derived.Test.YtnokabglkmiidaaDoorMk
import Derived.Test.YtnokabglkmiidaaDoorDya
import Derived.Deep.OwnRows
import Derived.Deep.RegionLaw
import Derived.Lib.ItoaNum
namespace Go.Proofs.YtnokabglkmiidaaDoor
open Go.RowKit Go.Lb

theorem u32_or_nat (a b : Nat) (ha : a < 4294967296) (hb : b < 4294967296) : bits .or .u32 (a : Int) (b : Int) = ((a ||| b : Nat) : Int) := by
  have hx : a ||| b < 2 ^ 32 := Nat.or_lt_two_pow (by omega) (by omega)
  have h1 : (BitVec.ofInt 32 (a : Int)).toNat = a := by
    rw [BitVec.ofInt_natCast, BitVec.toNat_ofNat]; exact Nat.mod_eq_of_lt (by omega)
  have h2 : (BitVec.ofInt 32 (b : Int)).toNat = b := by
    rw [BitVec.ofInt_natCast, BitVec.toNat_ofNat]; exact Nat.mod_eq_of_lt (by omega)
  show IntKind.u32.wrap ((BitVec.ofInt 32 (a : Int) ||| BitVec.ofInt 32 (b : Int)).toNat : Int) = _
  rw [BitVec.toNat_or, h1, h2, show ∀ n : Int, IntKind.u32.wrap n = n % 4294967296 from fun n => by simp [IntKind.wrap, IntKind.signed, IntKind.bits]]
  omega

/-- What shifted hands back. -/
def Shifted (w : World) (n s : Nat) (ys : List Nat) (e : Ending) (w' : World) : Prop :=
  ∃ g, e = .returned (.slice (some ⟨g, 0, none⟩) (n + 1) (n + 1)) ∧ w'.ownsRow w.heap.size 55 1 (.slice (some ⟨g, 0, none⟩) (n + 1) (n + 1)) (n + 1) (lvs (upL s ys)) ∧ Below w.heap.size w w'

set_option maxRecDepth 100000 in
set_option maxHeartbeats 1600000 in
theorem natShifted_any (ao : Option Addr) (n c s : Nat) (ys : List Nat) (w : World) (h : Sl w ao n c ys) (hs : s < 32) (hn : n ≤ 16384) :
    Calls Tryd.prog 124 #[.slice ao n c, .int .i64 s] w (Shifted w n s ys) := by
  obtain ⟨i0, hi0, hz0, hz1, hz2⟩ := info_parts u32_infoL
  have hle := h.le
  have hcap := h.cap
  have hlen := h.len
  go_enter Tryd.func124, Tryd.ntmps124
  go_wp2_with (at_make; refine wpList_make_full _ rfl _ _ 22 rfl w.heap.size 55 i0 _ 1 Tryd.underlying22 hi0 hz0 hz1 _ _ _ _ (n + 1) rfl rfl rfl rfl (by rw [hz2]; omega) (by unfold maxLen; omega) (Nat.le_refl _) ?_; intro w1 hown hg1; rw [made_lvs] at hown; have hb1 := (Below.refl w.heap.size w).grown hg1 (Nat.le_refl _) (by simp))
  go_loopw [15] (fun i wr => ∃ k : Nat, k ≤ n ∧ i = .int .i64 k ∧ wr.ownsRow w.heap.size 55 1 (.slice (some ⟨w.heap.size, 0, none⟩) (n + 1) (n + 1)) (n + 1) (lvs (upAt s n k ys)) ∧ Below w.heap.size w wr) (fun i _ => n - (intOf i).toNat)
  case atStart => exact ⟨0, by omega, rfl, by rw [upAt_zero]; exact hown, hb1⟩
  case round =>
    obtain ⟨k, hk, rfl, hownk, hbk⟩ := hrel
    by_cases hkn : k < n
    · obtain ⟨b, o, rfl, hb, hc⟩ := (h.below hbk).at_ (by omega)
      have hcell := hc k hkn
      clear hc
      have hx := nth_lt h.ok k
      have hC : upC s 0 (ys.take k) < 2 ^ s := upC_lt (ok_take h.ok k) (Nat.two_pow_pos s)
      have hp32 : (2 : Nat) ^ s ≤ 2 ^ 31 := Nat.pow_le_pow_right (by decide) (by omega)
      have hprod : nth ys k * 2 ^ s < 18446744073709551616 := Nat.lt_of_le_of_lt (Nat.mul_le_mul_left _ hp32) (by omega)
      obtain ⟨g1, g2⟩ := or_carry (x := nth ys k) hs hC
      have hst := own_cell hownk (j := k) (by omega)
      rw [nth_upAt (by omega)] at hst
      have hfz := hownk.frozenAt k
      have hfz2 := hownk.frozenAt (k + 1)
      have hst2 : ∀ v, (wr.setCell ⟨w.heap.size, k, none⟩ v).cell? ⟨w.heap.size, k + 1, none⟩ = some (.int .u32 (nth (upAt s n k ys) (k + 1) : Int)) := fun v => by
        rw [World.cell?_setCell_other _ _ _ _ (by simp)]
        exact own_cell hownk (by omega)
      have hW : IntKind.u64.wrap ((nth ys k : Int) * 2 ^ s) = ((nth ys k * 2 ^ s : Nat) : Int) := by
        rw [show (nth ys k : Int) * 2 ^ s = ((nth ys k * 2 ^ s : Nat) : Int) by rw [Int.natCast_mul, Int.natCast_pow]; rfl]
        exact IntWalk.u64_in _ (by omega)
      have eW1 : Value.int IntKind.u32 (bits BinOp.or IntKind.u32 (upC s 0 (ys.take k) : Int) (IntKind.u64.wrap ((nth ys k : Int) * 2 ^ s) % 4294967296)) = lv ((nth ys k * 2 ^ s + upC s 0 (ys.take k)) % 4294967296) := by
        unfold lv
        rw [hW, show ((nth ys k * 2 ^ s : Nat) : Int) % 4294967296 = ((nth ys k * 2 ^ s % 4294967296 : Nat) : Int) from by omega, u32_or_nat _ _ (by omega) (by omega), g1]
      have eW2 : Value.int IntKind.u32 (IntKind.u64.wrap ((nth ys k : Int) * 2 ^ s) / 4294967296 % 4294967296) = lv ((nth ys k * 2 ^ s + upC s 0 (ys.take k)) / 4294967296) := by
        unfold lv
        rw [hW, ← g2]
        have : nth ys k * 2 ^ s / 4294967296 < 4294967296 := by omega
        congr 1
        omega
      obtain ⟨o1, r1⟩ := hownk.stored k (lv ((nth ys k * 2 ^ s + upC s 0 (ys.take k)) % 4294967296))
      obtain ⟨o2, r2⟩ := o1.stored (k + 1) (lv ((nth ys k * 2 ^ s + upC s 0 (ys.take k)) / 4294967296))
      rw [upAt_step hkn hlen] at o2
      have hb2 := (hbk.grown r1 hbk.size (by simp)).grown r2 (by simp; exact hbk.size) (by simp)
      have E1 := Lib.hid eW1
      have E2 := Lib.hid eW2
      clear eW1 eW2 hW g1 g2 hprod hp32 hC o1 r1 r2
      go_wp2
      rw [E1.out, E2.out]
      exact ⟨⟨k + 1, by omega, by go_num, o2, hb2⟩, by simp [intOf]; omega⟩
    · obtain rfl : k = n := by omega
      rw [upAt_full hlen] at hownk
      go_wp2
      go_ret
      exact ⟨_, rfl, hownk, hbk⟩
end Go.Proofs.YtnokabglkmiidaaDoor

namespace Go.Proofs.YtnokabglkmiidaaDoor
open Go.RowKit Go.Lb

/-- trimmed of a row that is owned and may have room behind it. -/
theorem natTrimmed_row {base g n cap : Nat} {ys : List Nat} (w : World) (h : w.ownsRow base 55 1 (.slice (some ⟨g, 0, none⟩) n cap) n (lvs ys)) (hok : Ok ys) :
    Calls Tryd.prog 68 #[.slice (some ⟨g, 0, none⟩) n cap] w fun e w' => ∃ ao k, e = .returned (.agg #[.slice ao k k]) ∧ Fr 55 w' base ao k k (limbs (val ys)) ∧ Below w.heap.size w w' := by
  refine (natTrimmed_any _ n cap ys w (own_sl h hok)).mono ?_
  rintro e w' ⟨k, hk, rfl, hv, hb⟩
  refine ⟨_, k, rfl, ?_, hb⟩
  have hcap := (own_cap h).1
  by_cases h0 : k = 0
  · subst h0
    rw [if_pos rfl, ← hv]
    exact fr_nil _ _ _
  · rw [if_neg h0, ← hv]
    exact (fr_own h hok hk (Nat.le_refl _) (by omega)).below hb

theorem natShifted_i (ao : Option Addr) (n c s : Nat) (x : Int) (hx : x = (s : Int)) (ys : List Nat) (w : World) (h : Sl w ao n c ys) (hs : s < 32) (hn : n ≤ 16384) :
    Calls Tryd.prog 124 #[.slice ao n c, .int .i64 x] w (Shifted w n s ys) := by
  subst hx
  exact natShifted_any ao n c s ys w h hs hn

theorem val_up (ys : List Nat) (k : Nat) : val (List.replicate (k / 32) 0 ++ upL (k % 32) ys) = val ys * 2 ^ k := by
  rw [val_zeros_app, val_upL, Nat.mul_comm, Nat.mul_assoc, ← Nat.pow_add]
  congr 2
  omega

theorem lvs_len (xs : List Nat) : (lvs xs).length = xs.length := by simp [lvs]
theorem lvs_append (xs ys : List Nat) : lvs (xs ++ ys) = lvs xs ++ lvs ys := List.map_append ..

/-- A row of noughts that was made. -/
theorem own_zero (w : World) (q : Nat) (hq : q ≤ 1000000) : (w.alloc (.cells (madeCells #[.int .u32 0] q) 55)).ownsRow w.heap.size 55 1 (.slice (some ⟨w.heap.size, 0, none⟩) q q) q (lvs (List.replicate q 0)) := by
  have h := World.ownsRow_lit (base := w.heap.size) (e := 55) (size := 1) w (madeCells #[.int .u32 0] q) q (Nat.le_refl _) (by unfold maxLen; omega) (by rw [size_madeCells]; simp)
  have e : (madeCells #[Value.int .u32 0] q).toList = lvs (List.replicate q 0) := by
    rw [toList_madeCells_one]
    unfold lvs
    rw [List.map_replicate]
    rfl
  rw [e] at h
  exact h

set_option maxRecDepth 100000 in
set_option maxHeartbeats 4000000 in
theorem natUp_ok (ao : Option Addr) (n c k : Nat) (ys : List Nat) (w : World) (h : Sl w ao n c ys) (hc : chk ys = 0) (h0 : val ys ≠ 0) (hk : k + szN ys ≤ 524288) :
    Calls Tryd.prog 107 #[.agg #[.slice ao n c], .int .i64 k] w (Numb w (val ys * 2 ^ k) 0) := by
  obtain ⟨i0, hi0, hy0, hy1, hy2⟩ := info_parts u32_infoL
  have hn : n ≤ 16384 := by rw [← h.len]; exact chk_zero_len hc
  have hb0 : bitsN ys = (szN ys : Int) := by unfold bitsN; rw [if_pos hc]
  have hn0 : n ≠ 0 := fun hh => h0 ((val_zero_iff h.ok hc).2 (h.len.trans hh))
  have hsz : szN ys ≠ 0 := by
    have hl := h.len
    rw [szN_pos (by omega)]
    intro hz
    have h1 : Lib.bitLen (nth ys (ys.length - 1)) = 0 := by omega
    have h2 : nth ys (ys.length - 1) ≠ 0 := fun hh => by
      unfold chk at hc
      rw [if_neg (by omega), if_pos ⟨by omega, hh⟩] at hc
      cases hc
    have h3 := (Lib.bitLenAux_bounds 64 (nth ys (ys.length - 1)) (by have := nth_lt h.ok (ys.length - 1); omega) h2).1
    have h4 : Lib.bitLen (nth ys (ys.length - 1)) = Lib.bitLenAux 64 (nth ys (ys.length - 1)) := rfl
    omega
  obtain ⟨z, hz⟩ : ∃ z, z = szN ys := ⟨_, rfl⟩
  rw [← hz] at hb0 hk hsz
  have hmk : ∀ W : World, (Instr.makeSlice 22 (.int .i64 ((k : Int) / 32)) (.int .i64 ((k : Int) / 32))).run Tryd.prog W = .ok (.slice (some ⟨W.heap.size, 0, none⟩) (k / 32) (k / 32)) (W.alloc (.cells (madeCells #[.int .u32 0] (k / 32)) 55)) := fun W => by
    have := run_make_row' (P := Tryd.prog) 22 55 (.int .u32 0) 4 Tryd.underlying22 u32_infoL rfl .i64 .i64 (k / 32) (by omega) (by omega) W
    rw [show ((k / 32 : Nat) : Int) = (k : Int) / 32 by omega] at this
    exact this
  have hmod : (k : Int).tmod 32 = ((k % 32 : Nat) : Int) := by rw [Int.tmod_eq_emod_of_nonneg (by omega)]; omega
  have hwq : IntKind.i64.wrap ((k : Int) / 32) = (k : Int) / 32 := IntWalk.i64_in _ (by omega)
  have Hm := Lib.hid hmod
  have hm : k % 32 < 32 := by omega
  have hcB : (chk ys != 0) = false := by simp [hc]
  have hzB : ((z : Int) == 0) = false := by simp; omega
  have hgt : ¬ ((524288 : Int) - (z : Int) < (k : Int)) := by omega
  clear hmod hz
  go_enter Tryd.func107, Tryd.ntmps107
  go_wp2_with (go_at_call 86; refine (natBits_any ao n c ys _ ((h.alloc _).alloc _)).mono ?_; rintro e w1 ⟨rfl, hb1⟩; rw [hb0]; have A := ((box1_new w _ _).alloc _).stay hb1; have B := (box1_new _ _ _).stay hb1; rw [World.size_alloc] at B; have ⟨a0, az⟩ := A; have ⟨b0, bz⟩ := B; have hW := next (more (more (Below.refl _ _) _) _) hb1)
  rename_i K hK
  have hS1 := ((h.alloc (.cells #[.slice ao n c] 24)).alloc (.cells #[.slice none 0 0] 24)).below hb1
  have hl1 := A.lt
  have hl2 := B.lt
  have hok : Ok (List.replicate (k / 32) 0 ++ upL (k % 32) ys) := ok_append (ok_replicate _) (ok_upL hm h.ok)
  have hvu := Lib.hid (val_up ys k)
  go_region_law? (first
    | (refine step_append_lies _ rfl (.tmp 34) (.tmp 39) 22 rfl w1.heap.size 55 i0 (.int .u32 0) 1 4 Tryd.underlying22 hi0 hy0 hy1 hy2 rfl Nat.zero_lt_one (.slice (some ⟨w1.heap.size, 0, none⟩) (k / 32) (k / 32)) (k / 32) (lvs (List.replicate (k / 32) 0)) ?_ ?_ ⟨gS, 0, none⟩ (n + 1) (n + 1) (lvs (upL (k % 32) ys)) ?_ ?_ ?_ (lvs_oneCell _) (Nat.succ_pos n) ?_ ?_ ?_ _ rfl ?_; (focus (first | rfl | simp [Act.eval])); (focus (exact hmS)); (focus (first | rfl | simp [Act.eval, Act.put])); (focus (rw [lvs_len, upL_length, h.len]; omega)); (focus (exact (own_sl hoS (ok_upL hm h.ok)).news)); (focus (unfold maxLen; omega)); (focus omega); (focus (omega)); rintro gA cA wA hownA hgA hatA hltA; rw [← lvs_append] at hownA; have hWA := Below.grown hWS hgA (by omega) (by intro q hq; (obtain rfl : w1.heap.size = q := Option.some.inj hq); omega); (have ⟨b0, bz⟩ := B.stay hWA))
    | (refine step_append_lies _ rfl (.tmp 34) (.tmp 39) 22 rfl w1.heap.size 55 i0 (.int .u32 0) 1 4 Tryd.underlying22 hi0 hy0 hy1 hy2 rfl Nat.zero_lt_one (.slice (some ⟨wS.heap.size, 0, none⟩) (k / 32) (k / 32)) (k / 32) (lvs (List.replicate (k / 32) 0)) ?_ ?_ ⟨gS, 0, none⟩ (n + 1) (n + 1) (lvs (upL (k % 32) ys)) ?_ ?_ ?_ (lvs_oneCell _) (Nat.succ_pos n) ?_ ?_ ?_ _ rfl ?_; (focus (first | rfl | simp [Act.eval, Act.put])); (focus (exact own_mono (own_zero wS (k / 32) (by omega)) hWSz)); (focus (first | rfl | simp [Act.eval, Act.put])); (focus (rw [lvs_len, upL_length, h.len]; omega)); (focus (exact ((own_sl hoS (ok_upL hm h.ok)).alloc _).news)); (focus (unfold maxLen; omega)); (focus omega); (focus (simp; omega)); rintro gA cA wA hownA hgA hatA hltA; rw [← lvs_append] at hownA; have hWA := Below.grown (more hWS _) hgA (by simp; omega) (by intro q hq; (obtain rfl : wS.heap.size = q := Option.some.inj hq); omega); (have ⟨b0, bz⟩ := B.stay hWA))
    | (go_simp; (go_at_call 124); (with_reducible refine (natShifted_i ao n c (k % 32) _ Hm.out ys _ ((hS1.alloc _).drew) hm hn).mono ?_); rintro en wS ⟨gS, rfl, hoS, hbS⟩; have hWS := next (more (Below.refl _ w1) _).drew hbS; have hmS := own_keep (own_zero w1 (k / 32) (by omega)).drew hbS; (have ⟨a0, az⟩ := A.stay hWS); (have ⟨b0, bz⟩ := B.stay hWS); have hWSz := hWS.size)
    | (go_simp; (go_at_call 124); (with_reducible refine (natShifted_i ao n c (k % 32) _ Hm.out ys _ hS1.drew hm hn).mono ?_); rintro en wS ⟨gS, rfl, hoS, hbS⟩; have hWS := undrew hbS; (have ⟨a0, az⟩ := A.stay hWS); (have ⟨b0, bz⟩ := B.stay hWS); have hWSz := hWS.size)
    | (go_simp; (go_at_call 68); refine (natTrimmed_row _ hownA hok).mono ?_; rintro en wT ⟨aT, kT, rfl, hFT, hbT⟩; rw [hvu.out] at hFT; have hWT := next hWA hbT; (have ⟨b0, bz⟩ := B.stay hWT)))
  all_goals
    have hF := (hFT.setCell (p := ⟨w.heap.size + 1, 0, none⟩) hl2 (.slice aT kT kT)).mono (base' := w.heap.size) (by omega)
    have hWW := (next hW hWT).setCell (p := ⟨w.heap.size + 1, 0, none⟩) (by simp) (.slice aT kT kT)
    refine hK _ _ ?_
    go_wp2
    refine bodyPost_ret (v := .tuple #[.agg #[.slice aT kT kT], .int .i64 0]) (by simp [results, Tryd.results107, go_sem, World.cell?_setCell_same _ _ _ b0]) rfl ⟨aT, kT, kT, rfl, hF, hWW⟩
end Go.Proofs.YtnokabglkmiidaaDoor
