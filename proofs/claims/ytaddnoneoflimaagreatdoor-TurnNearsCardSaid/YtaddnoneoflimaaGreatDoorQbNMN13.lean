/-
  Plain: what sums, products, orders and signs of dyadics are. The walks of nat.Up (every way) and exact.level.
-/
import Derived.Test.YtaddnoneoflimaaGreatDoorQbNMN3
import Derived.Test.YtaddnoneoflimaaGreatDoorQbNMakes
import Derived.Test.YtaddnoneoflimaaGreatDoorQbNMN1
import Derived.Deep.RegionHeld3
namespace Go.Proofs.YtaddnoneoflimaaGreatDoor

open Go.RowKit Go.Lb

theorem szN_max {xs : List Nat} (hok : Ok xs) (h : chk xs = 0) : szN xs ≤ 524288 := by
  have := chk_zero_len h
  by_cases hn : xs.length = 0
  · rw [szN_zero hn]; omega
  · rw [szN_pos hn]
    have := bitLen_le32 _ (nth_lt hok (xs.length - 1))
    omega

/-- A number between powers of two. -/
theorem sz_bounds {xs : List Nat} (hok : Ok xs) (hc : chk xs = 0) (h0 : val xs ≠ 0) : 1 ≤ szN xs ∧ 2 ^ (szN xs - 1) ≤ val xs ∧ val xs < 2 ^ szN xs := by
  have hn : xs.length ≠ 0 := fun hh => h0 ((val_zero_iff hok hc).2 hh)
  rw [szN_pos hn]
  have h2 : nth xs (xs.length - 1) ≠ 0 := fun hh => by
    unfold chk at hc
    rw [if_neg (by split at hc <;> omega), if_pos ⟨by omega, hh⟩] at hc
    cases hc
  obtain ⟨b1, b2, b3⟩ := Lib.bitLenAux_bounds 64 (nth xs (xs.length - 1)) (by have := nth_lt hok (xs.length - 1); omega) h2
  have hb : Lib.bitLen (nth xs (xs.length - 1)) = Lib.bitLenAux 64 (nth xs (xs.length - 1)) := rfl
  rw [← hb] at b1 b2 b3
  generalize hB : Lib.bitLen (nth xs (xs.length - 1)) = B at b1 b2 b3
  have hv := val_take_succ (xs := xs) (k := xs.length - 1) (by omega)
  rw [show xs.length - 1 + 1 = xs.length by omega, List.take_of_length_le (Nat.le_refl _), pow32] at hv
  have ht := val_lt (ok_take hok (xs.length - 1))
  rw [List.length_take, Nat.min_eq_left (by omega), pow32] at ht
  generalize hm : 32 * (xs.length - 1) = m at hv ht ⊢
  change val xs = val (xs.take (xs.length - 1)) + 2 ^ m * nth xs (xs.length - 1) at hv
  generalize nth xs (xs.length - 1) = t at hv b2 b3
  generalize val (xs.take (xs.length - 1)) = u at hv ht
  refine ⟨by omega, ?_, ?_⟩
  · rw [show m + B - 1 = m + (B - 1) by omega, Nat.pow_add]
    have := Nat.mul_le_mul_left (2 ^ m) b2
    omega
  · rw [Nat.pow_add]
    have := Nat.mul_le_mul_left (2 ^ m) (show t + 1 ≤ 2 ^ B by omega)
    rw [Nat.mul_add] at this
    omega

/-- Has a shifted number its place? -/
theorem up_fits {xs : List Nat} (hok : Ok xs) (hc : chk xs = 0) (h0 : val xs ≠ 0) (k : Nat) : (limbs (val xs * 2 ^ k)).length ≤ 16384 ↔ k + szN xs ≤ 524288 := by
  obtain ⟨b1, b2, b3⟩ := sz_bounds hok hc h0
  rw [len_big]
  obtain ⟨M, hM⟩ : ∃ M : Nat, M = 524288 := ⟨_, rfl⟩
  rw [show 32 * 16384 = M by omega, ← hM]
  constructor
  · intro h
    by_cases hh : k + szN xs ≤ M
    · exact hh
    · exfalso
      have h3 := Nat.mul_le_mul_right (2 ^ k) b2
      rw [← Nat.pow_add] at h3
      have h4 : 2 ^ M ≤ 2 ^ (szN xs - 1 + k) := Nat.pow_le_pow_right (by decide) (by omega)
      omega
  · intro h
    have h3 := Nat.mul_lt_mul_of_pos_right b3 (Nat.two_pow_pos k)
    rw [← Nat.pow_add] at h3
    have h4 : 2 ^ (szN xs + k) ≤ 2 ^ M := Nat.pow_le_pow_right (by decide) (by omega)
    omega

theorem chk_limbs {N : Nat} (h : (limbs N).length ≤ 16384) : chk (limbs N) = 0 := by
  unfold chk
  rw [if_neg (by omega), if_neg]
  intro ⟨h1, h2⟩
  have hf := (fine_limbs N).2
  rw [List.getLast?_eq_getElem?] at hf
  unfold nth at h2
  rw [List.getD_eq_getElem?_getD] at h2
  have : (limbs N)[(limbs N).length - 1]? = some (limbs N)[(limbs N).length - 1] := List.getElem?_eq_getElem (by omega)
  rw [this] at hf h2
  exact hf (congrArg some h2)

theorem dchk_chk {s : Bool} {xs : List Nat} {x : Int} (h : dchk s xs x = 0) : chk xs = 0 := by
  unfold dchk at h
  by_cases hc : chk xs = 0
  · exact hc
  · rw [if_pos hc] at h
    exact h

theorem dchk_exp {s : Bool} {xs : List Nat} {x : Int} (h : dchk s xs x = 0) : -1073741824 ≤ x ∧ x ≤ 1073741824 := by
  have hc := dchk_chk h
  unfold dchk farB at h
  rw [if_neg (by simp [hc])] at h
  split at h
  · split at h
    · cases h
    · omega
  · split at h
    · cases h
    · simp at *
      omega

end Go.Proofs.YtaddnoneoflimaaGreatDoor

namespace Go.Proofs.YtaddnoneoflimaaGreatDoor

open Go.RowKit Go.Lb

set_option maxRecDepth 100000 in
theorem natUp_zero (ao : Option Addr) (n c k : Nat) (ys : List Nat) (w : World) (h : Sl w ao n c ys) (hc : chk ys = 0) (h0 : val ys = 0) :
    Calls Tryz.prog 216 #[.agg #[.slice ao n c], .int .i64 k] w (Numb w 0 0) := by
  have hn0 := (val_zero_iff h.ok hc).1 h0
  have hb0 : bitsN ys = 0 := by unfold bitsN; rw [if_pos hc, szN_zero hn0]; rfl
  go_enter Tryz.func216, Tryz.ntmps216
  go_wp2_with (go_at_call 173; refine (natBits_any ao n c ys _ ((h.alloc _).alloc _)).mono ?_; rintro e w1 ⟨rfl, hb1⟩; rw [hb0, hc]; have A := ((box1_new w _ _).alloc _).stay hb1; have B := (box1_new _ _ _).stay hb1; rw [World.size_alloc] at B; have ⟨a0, az⟩ := A; have ⟨b0, bz⟩ := B; have hW := next (more (more (Below.refl _ _) _) _) hb1)
  refine bodyPost_ret (v := .tuple #[.agg #[.slice none 0 0], .int .i64 0]) (by simp [results, Tryz.results216, go_sem, B.set]) rfl ⟨none, 0, 0, rfl, ?_, hW.setCell (by simp) _⟩
  rw [limbs_zero]
  exact fr_nil _ _ _

set_option maxRecDepth 100000 in
theorem natUp_many (ao : Option Addr) (n c k : Nat) (ys : List Nat) (w : World) (h : Sl w ao n c ys) (hc : chk ys = 0) (h0 : val ys ≠ 0) (hk : ¬ k + szN ys ≤ 524288) :
    Calls Tryz.prog 216 #[.agg #[.slice ao n c], .int .i64 k] w (Numb w 0 4) := by
  have hb0 : bitsN ys = (szN ys : Int) := by unfold bitsN; rw [if_pos hc]
  have hs := (sz_bounds h.ok hc h0).1
  have hm := szN_max h.ok hc
  generalize szN ys = z at hb0 hk hs hm
  have hzB : ((z : Int) == 0) = false := by simp; omega
  have hgt : (524288 : Int) - (z : Int) < (k : Int) := by omega
  go_enter Tryz.func216, Tryz.ntmps216
  go_wp2_with (go_at_call 173; refine (natBits_any ao n c ys _ ((h.alloc _).alloc _)).mono ?_; rintro e w1 ⟨rfl, hb1⟩; rw [hb0, hc]; have A := ((box1_new w _ _).alloc _).stay hb1; have B := (box1_new _ _ _).stay hb1; rw [World.size_alloc] at B; have ⟨a0, az⟩ := A; have ⟨b0, bz⟩ := B; have hW := next (more (more (Below.refl _ _) _) _) hb1)
  refine bodyPost_ret (v := .tuple #[.agg #[.slice none 0 0], .int .i64 4]) (by simp [results, Tryz.results216, go_sem, B.set]) rfl ⟨none, 0, 0, rfl, ?_, hW.setCell (by simp) _⟩
  rw [limbs_zero]
  exact fr_nil _ _ _

theorem natUp_any (ao : Option Addr) (n c k : Nat) (ys : List Nat) (w : World) (h : Sl w ao n c ys) (hc : chk ys = 0) :
    Calls Tryz.prog 216 #[.agg #[.slice ao n c], .int .i64 k] w (Numb w (bigN (val ys * 2 ^ k)) (bigE (val ys * 2 ^ k))) := by
  by_cases h0 : val ys = 0
  · rw [h0, Nat.zero_mul]
    exact natUp_zero ao n c k ys w h hc h0
  · by_cases hk : k + szN ys ≤ 524288
    · have hB := bigE_ok ((up_fits h.ok hc h0 k).2 hk)
      rw [hB.1, hB.2]
      exact natUp_ok ao n c k ys w h hc h0 hk
    · have hB := bigE_many (fun hh => hk ((up_fits h.ok hc h0 k).1 hh))
      rw [hB.1, hB.2]
      exact natUp_many ao n c k ys w h hc h0 hk

/-- The same, the count told as an integer. -/
theorem natUp_i (ao : Option Addr) (n c : Nat) (k : Int) (hk : 0 ≤ k) (ys : List Nat) (w : World) (h : Sl w ao n c ys) (hc : chk ys = 0) :
    Calls Tryz.prog 216 #[.agg #[.slice ao n c], .int .i64 k] w (Numb w (bigN (val ys * 2 ^ k.toNat)) (bigE (val ys * 2 ^ k.toNat))) := by
  obtain ⟨k, rfl⟩ := Int.eq_ofNat_of_zero_le hk
  exact natUp_any ao n c k ys w h hc

end Go.Proofs.YtaddnoneoflimaaGreatDoor

/-
  The walks of exact.both, sign, twin, and of the reference's two, sign, Twin. The walks of exact.Neg and exact.Mul. The walk of exact.Add, way by way. (Printed by wip/gen/add.py.) The walk of exact.Add, its last way, and all of it. (Printed by wip/gen/add.py.) The walk of exact.Cmp. (Printed by wip/gen/cmp.py.)
-/
namespace Go.Proofs.YtaddnoneoflimaaGreatDoor

open Go.RowKit Go.Lb

end Go.Proofs.YtaddnoneoflimaaGreatDoor

namespace Go.Proofs.YtaddnoneoflimaaGreatDoor

open Go.RowKit Go.Lb

theorem bigN_of {N : Nat} (h : bigE N = 0) : bigN N = N := by
  unfold bigE at h
  unfold bigN
  split at h
  · rename_i hh; exact if_pos hh
  · cases h

end Go.Proofs.YtaddnoneoflimaaGreatDoor

namespace Go.Proofs.YtaddnoneoflimaaGreatDoor

open Go.RowKit Go.Lb

end Go.Proofs.YtaddnoneoflimaaGreatDoor

namespace Go.Proofs.YtaddnoneoflimaaGreatDoor

open Go.RowKit Go.Lb

end Go.Proofs.YtaddnoneoflimaaGreatDoor

namespace Go.Proofs.YtaddnoneoflimaaGreatDoor

open Go.RowKit Go.Lb

end Go.Proofs.YtaddnoneoflimaaGreatDoor

