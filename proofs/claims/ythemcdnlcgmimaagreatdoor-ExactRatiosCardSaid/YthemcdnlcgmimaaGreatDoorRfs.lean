/-
  The walks of the reference's up and Up. The walks of the reference's Neg and Mul of dyadics. (Printed by wip/gen/rf.py out of XExMul.) The walk of the reference's Add of dyadics, its first ways. (Printed by wip/gen/radd.py.) The walk of the reference's Add of dyadics, its last ways, and all of it. (Printed by wip/gen/radd.py.) The walks of the reference's top, bigger and Cmp of dyadics. (Printed by wip/gen/rcmp.py.)
-/
import Derived.Test.YthemcdnlcgmimaaGreatDoorMakes
import Derived.Test.YthemcdnlcgmimaaGreatDoorSumNs
import Derived.Test.YthemcdnlcgmimaaGreatDoorExs
import Derived.Test.YthemcdnlcgmimaaGreatDoorNatOps
import Derived.Test.YthemcdnlcgmimaaGreatDoorNats
namespace Go.Proofs.YthemcdnlcgmimaaGreatDoor
open Go.RowKit Go.Lb

theorem u64_or_low (x c s : Nat) (hc : c < 2 ^ s) (hb : x * 2 ^ s + c < 18446744073709551616) : bits .or .u64 ((x : Int) * 2 ^ s) (c : Int) = ((x * 2 ^ s + c : Nat) : Int) := by
  have e : (x : Int) * 2 ^ s = ((x * 2 ^ s : Nat) : Int) := by rw [Int.natCast_mul, Int.natCast_pow]; rfl
  have h1 : (BitVec.ofInt 64 (c : Int)).toNat = c := by
    rw [BitVec.ofInt_natCast, BitVec.toNat_ofNat]; exact Nat.mod_eq_of_lt (by omega)
  have h2 : (BitVec.ofInt 64 ((x : Int) * 2 ^ s)).toNat = 2 ^ s * x := by
    rw [e, BitVec.ofInt_natCast, BitVec.toNat_ofNat, Nat.mod_eq_of_lt (by omega), Nat.mul_comm]
  show IntKind.u64.wrap ((BitVec.ofInt 64 ((x : Int) * 2 ^ s) ||| BitVec.ofInt 64 (c : Int)).toNat : Int) = _
  rw [BitVec.toNat_or, h1, h2, ← Nat.two_pow_add_eq_or_of_lt hc, Nat.mul_comm, IntKind.wrap_u64]
  omega

set_option maxRecDepth 100000 in
set_option maxHeartbeats 1600000 in
theorem refUpL_any (ao : Option Addr) (n c k : Nat) (ys : List Nat) (w : World) (h : Sl w ao n c ys) (hn : n ≤ 16384) (hn0 : n ≠ 0) (hk : k ≤ 524288) :
    Calls Tryz.prog 42 #[.slice ao n c, .int .i64 k] w fun e w' => ∃ ao' n' c', e = .returned (.slice ao' n' c') ∧ Fr 46 w' w.heap.size ao' n' c' (limbs (val ys * 2 ^ k)) ∧ Below w.heap.size w w' := by
  obtain ⟨i0, hi0, hz0, hz1, hz2⟩ := info_parts u32_infoL
  have hlen := h.len
  have hnB : ((n : Int) == 0) = false := by simp; omega
  have hs : k % 32 < 32 := by omega
  go_enter Tryz.func42, Tryz.ntmps42
  go_wp2_with (first
    | (at_make; refine wpList_make_full _ rfl _ _ 22 rfl w.heap.size 46 i0 _ 1 Tryz.underlying22 hi0 hz0 hz1 _ _ _ _ (k / 32) rfl rfl rfl rfl (by rw [hz2]; omega) (by unfold maxLen; omega) (Nat.le_refl _) ?_; intro w2 hown hg1; rw [made_lvs] at hown; have hb1 := (Below.refl w.heap.size w).grown hg1 (Nat.le_refl _) (by simp)))
  go_loopw [5, 6, 7] (fun v cv i wr => ∃ (j : Nat), j ≤ n ∧ i = .int .i64 j ∧ cv = .int .u64 (upC (k % 32) 0 (ys.take j)) ∧ wr.ownsRow w.heap.size 46 1 v (k / 32 + j) (lvs (List.replicate (k / 32) 0 ++ upD (k % 32) 0 (ys.take j))) ∧ Below w.heap.size w wr) (fun _ _ i _ => n - (intOf i).toNat)
  case atStart => exact ⟨0, by omega, rfl, rfl, by simpa [upD] using hown, hb1⟩
  case round =>
    obtain ⟨j, hj, rfl, rfl, hown, hW⟩ := hrel
    have hCl : upC (k % 32) 0 (ys.take j) < 2 ^ (k % 32) := upC_lt (ok_take h.ok j) (Nat.two_pow_pos _)
    have hp32 : (2 : Nat) ^ (k % 32) ≤ 2 ^ 31 := Nat.pow_le_pow_right (by decide) (by omega)
    have hsz := hW.size
    by_cases hjn : j < n
    · obtain ⟨b, o, rfl, hb, hc⟩ := (h.below hW).at_ (by omega)
      have hcell := hc j hjn
      clear hc
      have hx := nth_lt h.ok j
      have htk := take_snoc (xs := ys) (i := j) (by omega)
      have hprod : nth ys j * 2 ^ (k % 32) ≤ 4294967295 * 2 ^ 31 := Nat.mul_le_mul (by omega) hp32
      have hb' : nth ys j * 2 ^ (k % 32) + upC (k % 32) 0 (ys.take j) < 18446744073709551616 := by omega
      have qo := u64_or_low (nth ys j) _ (k % 32) hCl hb'
      have hD := upD_snoc (k % 32) 0 (ys.take j) (nth ys j)
      have hC := upC_snoc (k % 32) 0 (ys.take j) (nth ys j)
      rw [← htk] at hD hC
      have qw : IntKind.u64.wrap ((nth ys j : Int) * 2 ^ (k % 32)) = (nth ys j : Int) * 2 ^ (k % 32) := by
        rw [show (nth ys j : Int) * 2 ^ (k % 32) = ((nth ys j * 2 ^ (k % 32) : Nat) : Int) by rw [Int.natCast_mul, Int.natCast_pow]; rfl]
        exact IntWalk.u64_in _ (by omega)
      have HD := Lib.hid hD
      have HC := Lib.hid hC
      generalize hS : nth ys j * 2 ^ (k % 32) + upC (k % 32) 0 (ys.take j) = S at qo hb' HD HC
      generalize hCg : upC (k % 32) 0 (ys.take j) = C at qo
      have hlow : (S : Int) % 4294967296 = ((S % 4294967296 : Nat) : Int) := by omega
      have Hlow := Lib.hid hlow
      have hz : S % 4294967296 < 4294967296 := by omega
      clear hlow hD hC hS hprod hp32 hCl hCg htk
      go_wp2_with (first
        | (at_builtin; refine wpList_append_sl _ rfl (.tmp 32) (.tmp 35) _ rfl w.heap.size 46 i0 _ Tryz.underlying22 hi0 hz0 hz1 hz2 rfl _ (k / 32 + j) _ rfl (hown.alloc _) (some ⟨wr.heap.size, 0, none⟩) 1 1 _ rfl (sl_one wr _ Hlow.out hz) (by omega) (by simp; omega) ?_; intro v1 w1 hown1 hg1 hat1; replace hW := grownOwn (more hW _) (hown.alloc _) (Nat.le_refl _) hg1))
      rw [List.append_assoc, ← HD.out] at hown1
      exact ⟨⟨j + 1, by omega, by go_num, congrArg (Value.int .u64) (by rw [HC.out]; omega), hown1, hW⟩, by simp [intOf]; omega⟩
    · obtain rfl : j = n := by omega
      have htk : ys.take j = ys := List.take_of_length_le (by omega)
      rw [htk] at hown hCl
      have hv := val_up ys k
      have hok : Ok (List.replicate (k / 32) 0 ++ upL (k % 32) ys) := ok_append (ok_replicate _) (ok_upL hs h.ok)
      have hC32 : upC (k % 32) 0 ys < 4294967296 := by omega
      unfold upL at hv hok
      rw [← List.append_assoc] at hv hok
      rw [htk]
      clear htk hp32 hCl h hnB
      go_wp2_with (first
        | (at_builtin; refine wpList_append_sl _ rfl (.tmp 39) (.tmp 42) _ rfl w.heap.size 46 i0 _ Tryz.underlying22 hi0 hz0 hz1 hz2 rfl _ (k / 32 + j) _ rfl (hown.alloc _) (some ⟨wr.heap.size, 0, none⟩) 1 1 _ rfl (sl_one wr _ rfl hC32) (by omega) (by simp; omega) ?_; intro v1 w1 hown1 hg1 hat1; replace hW := grownOwn (more hW _) (hown.alloc _) (Nat.le_refl _) hg1; obtain ⟨a3, c3, rfl, hF⟩ := fr_own_any hown1 hok)
        | (go_at_call 43; refine (refTrim_any a3 _ c3 _ _ hF).mono ?_; rintro e w2 ⟨k2, rfl, hF2, rfl⟩; rw [hv] at hF2))
      go_ret
      exact ⟨a3, k2, c3, rfl, hF2, hW⟩

set_option maxRecDepth 100000 in
set_option maxHeartbeats 1600000 in
theorem refUp_any (ao : Option Addr) (n c k : Nat) (ys : List Nat) (w : World) (h : Sl w ao n c ys) (hc : chk ys = 0) :
    Calls Tryz.prog 19 #[.agg #[.slice ao n c], .int .i64 k] w (Numb w (bigN (val ys * 2 ^ k)) (bigE (val ys * 2 ^ k))) := by
  have hlen := chk_zero_len hc
  rw [h.len] at hlen
  have hcB : (chk ys != 0) = false := by simp [hc]
  by_cases h0 : val ys = 0
  · obtain rfl : n = 0 := by rw [← h.len]; exact (val_zero_iff h.ok hc).1 h0
    rw [h0, Nat.zero_mul]
    go_enter Tryz.func19, Tryz.ntmps19
    go_wp2_with (first
      | (go_at_call 37; refine (refCheck_any _ 0 c ys _ ((h.alloc _).alloc _)).mono ?_; rintro e w1 ⟨rfl, hb1⟩; have hW := next (more (more (Below.refl _ _) _) _) hb1; have A := ((box1_new w _ _).alloc _).stay hb1; have B := (box1_new _ _ _).stay hb1; rw [World.size_alloc] at B; have ⟨a0, az⟩ := A; have ⟨b0, bz⟩ := B))
    refine bodyPost_ret (v := .tuple #[.agg #[.slice none 0 0], .int .i64 0]) (by simp [results, Tryz.results19, go_sem, B.set]) rfl ⟨none, 0, 0, rfl, ?_, hW.setCell (by simp) _⟩
    exact fr_nil _ _ _
  · have hn0 : n ≠ 0 := fun hh => h0 ((val_zero_iff h.ok hc).2 (h.len.trans hh))
    have hnB : ((n : Int) == 0) = false := by simp; omega
    have hs1 := (sz_bounds h.ok hc h0).1
    have hs2 := szN_max h.ok hc
    by_cases hk : k + szN ys ≤ 524288
    · have hB := bigE_ok ((up_fits h.ok hc h0 k).2 hk)
      rw [hB.1, hB.2]
      clear hB
      generalize hz : szN ys = z at hk hs1 hs2
      have hgt : ¬ ((524288 : Int) - (z : Int) < (k : Int)) := by omega
      go_enter Tryz.func19, Tryz.ntmps19
      go_wp2_with (first
        | (go_at_call 37; refine (refCheck_any _ n c ys _ ((h.alloc _).alloc _)).mono ?_; rintro e w1 ⟨rfl, hb1⟩; have hW := next (more (more (Below.refl _ _) _) _) hb1; have S := ((h.alloc _).alloc _).below hb1; have A := ((box1_new w _ _).alloc _).stay hb1; have B := (box1_new _ _ _).stay hb1; rw [World.size_alloc] at B; have ⟨a0, az⟩ := A; have ⟨b0, bz⟩ := B)
        | (go_at_call 40; refine (refSize_any _ n c ys _ S hlen).mono ?_; rintro e w2 ⟨rfl, hb2⟩; rw [hz]; replace hW := next hW hb2; replace S := S.below hb2; replace A := A.stay hb2; replace B := B.stay hb2; have ⟨a1, az1⟩ := A; have ⟨b1, bz1⟩ := B)
        | (go_at_call 42; refine (refUpL_any _ n c k ys _ S hlen hn0 (by omega)).mono ?_; rintro e w3 ⟨a3, n3, c3, rfl, hF, hb3⟩; have hl := B.lt; have hsz := hW.size; replace hW := next hW hb3; replace B := B.stay hb3)
        | (go_at_call 41; refine (refNat_any _ a3 n3 c3 rfl _).mono ?_; rintro e w4 ⟨rfl, hb4⟩; replace hW := next hW hb4; replace B := B.stay hb4; replace hF := hF.below hb4; have ⟨b4, bz4⟩ := B))
      refine bodyPost_ret (v := .tuple #[.agg #[.slice a3 n3 c3], .int .i64 0]) (by simp [results, Tryz.results19, go_sem, B.set]) rfl ⟨a3, n3, c3, rfl, (hF.setCell (by simpa using hl) _).mono hsz, hW.setCell (by simp) _⟩
    · have hB := bigE_many (fun hh => hk ((up_fits h.ok hc h0 k).1 hh))
      rw [hB.1, hB.2]
      clear hB
      generalize hz : szN ys = z at hk hs1 hs2
      have hgt : (524288 : Int) - (z : Int) < (k : Int) := by omega
      go_enter Tryz.func19, Tryz.ntmps19
      go_wp2_with (first
        | (go_at_call 37; refine (refCheck_any _ n c ys _ ((h.alloc _).alloc _)).mono ?_; rintro e w1 ⟨rfl, hb1⟩; have hW := next (more (more (Below.refl _ _) _) _) hb1; have S := ((h.alloc _).alloc _).below hb1; have A := ((box1_new w _ _).alloc _).stay hb1; have B := (box1_new _ _ _).stay hb1; rw [World.size_alloc] at B; have ⟨a0, az⟩ := A; have ⟨b0, bz⟩ := B)
        | (go_at_call 40; refine (refSize_any _ n c ys _ S hlen).mono ?_; rintro e w2 ⟨rfl, hb2⟩; rw [hz]; replace hW := next hW hb2; replace A := A.stay hb2; replace B := B.stay hb2; have ⟨a1, az1⟩ := A; have ⟨b1, bz1⟩ := B))
      refine bodyPost_ret (v := .tuple #[.agg #[.slice none 0 0], .int .i64 4]) (by simp [results, Tryz.results19, go_sem, B.set]) rfl ⟨none, 0, 0, rfl, ?_, hW.setCell (by simp) _⟩
      rw [limbs_zero]
      exact fr_nil _ _ _

/-- The same, the count told as an integer. -/
theorem refUp_i (ao : Option Addr) (n c : Nat) (k : Int) (hk : 0 ≤ k) (ys : List Nat) (w : World) (h : Sl w ao n c ys) (hc : chk ys = 0) :
    Calls Tryz.prog 19 #[.agg #[.slice ao n c], .int .i64 k] w (Numb w (bigN (val ys * 2 ^ k.toNat)) (bigE (val ys * 2 ^ k.toNat))) := by
  obtain ⟨k, rfl⟩ := Int.eq_ofNat_of_zero_le hk
  exact refUp_any ao n c k ys w h hc

end Go.Proofs.YthemcdnlcgmimaaGreatDoor

namespace Go.Proofs.YthemcdnlcgmimaaGreatDoor
open Go.RowKit Go.Lb

end Go.Proofs.YthemcdnlcgmimaaGreatDoor

namespace Go.Proofs.YthemcdnlcgmimaaGreatDoor
open Go.RowKit Go.Lb

end Go.Proofs.YthemcdnlcgmimaaGreatDoor

namespace Go.Proofs.YthemcdnlcgmimaaGreatDoor
open Go.RowKit Go.Lb

end Go.Proofs.YthemcdnlcgmimaaGreatDoor

namespace Go.Proofs.YthemcdnlcgmimaaGreatDoor
open Go.RowKit Go.Lb

theorem cell3_alloc {w : World} {b : Nat} {u v x : Value} (h : Cell3 w b u v x) (o : Obj) : Cell3 (w.alloc o) b u v x := h.stay ((Below.refl _ _).alloc (Nat.le_refl _) o)

theorem bgA_bounds (xs : List Nat) (x : Int) (ys : List Nat) (y : Int) : -1 ≤ bgA xs x ys y ∧ bgA xs x ys y ≤ 1 := by
  unfold bgA
  split
  · decide
  · split
    · decide
    · exact cmpN_bounds _ _

end Go.Proofs.YthemcdnlcgmimaaGreatDoor
