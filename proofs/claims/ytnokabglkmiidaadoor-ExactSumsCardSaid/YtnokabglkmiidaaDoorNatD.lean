/-
  The walks of the reference's Bits, limb and Low, and of nat.Low.
-/
import Derived.Test.YtnokabglkmiidaaDoorNatC
namespace Go.Proofs.YtnokabglkmiidaaDoor
open Go.RowKit Go.Lb

set_option maxHeartbeats 400000 in
theorem refBits_any (ao : Option Addr) (n c : Nat) (xs : List Nat) (w : World) (h : Sl w ao n c xs) :
    Calls Tryd.prog 125 #[.agg #[.slice ao n c]] w fun e w' => e = .returned (.tuple #[.int .i64 (bitsN xs), .int .i64 (chk xs)]) ∧ Below w.heap.size w w' := by
  by_cases h0 : chk xs = 0
  · have h0b : (chk xs == 0) = true := by simp [h0]
    have h0c : (chk xs != 0) = false := by simp [h0]
    have hlen := chk_zero_len h0
    have hl := h.len
    have hn1 : n ≤ 16384 := by omega
    have hk : bitsN xs = (szN xs : Int) := by unfold bitsN; rw [if_pos h0]
    have Hk := Lib.hid hk
    have H0 := Lib.hid h0
    clear hk h0 hl
    go_enter Tryd.func125, Tryd.ntmps125
    go_wp2_with (first
      | (go_at_call 30; refine (refCheck_any ao n c xs _ (h.alloc _)).mono ?_; rintro e w1 ⟨rfl, hb1⟩; obtain ⟨hc1, hf1⟩ := bcell hb1; have hz1 : w.heap.size < w1.heap.size := by have := hb1.size; simp at this; omega)
      | (go_at_call 114; refine (refSize_any ao n c xs _ ((h.alloc _).below hb1) hn1).mono ?_; rintro e w2 ⟨rfl, hb2⟩))
    go_ret2
    exact ⟨by rw [Hk.out, H0.out]; rfl, (by repeat (first | exact Below.refl _ _ | assumption | refine next ?_ (by assumption) | refine more ?_ _))⟩
  · have h0b : (chk xs == 0) = false := by simp [h0]
    have h0c : (chk xs != 0) = true := by simp [h0]
    have hk : bitsN xs = 0 := by unfold bitsN; rw [if_neg h0]
    have Hk := Lib.hid hk
    clear hk
    go_enter Tryd.func125, Tryd.ntmps125
    go_wp2_with (go_at_call 30; refine (refCheck_any ao n c xs _ (h.alloc _)).mono ?_; rintro e w1 ⟨rfl, hb1⟩)
    go_ret2
    exact ⟨by rw [Hk.out]; rfl, (by repeat (first | exact Below.refl _ _ | assumption | refine next ?_ (by assumption) | refine more ?_ _))⟩

theorem nth_out {xs : List Nat} {i : Nat} (h : xs.length ≤ i) : nth xs i = 0 := by
  unfold nth; rw [List.getD_eq_getElem?_getD, List.getElem?_eq_none h]; rfl

/-- A limb, or 0 beyond the list. -/
theorem refLimb_any (ao : Option Addr) (n c i : Nat) (xs : List Nat) (w : World) (h : Sl w ao n c xs) :
    Calls Tryd.prog 100 #[.slice ao n c, .int .i64 i] w fun e w' => e = .returned (.int .u64 (nth xs i : Int)) ∧ w = w' := by
  by_cases hi : i < n
  · obtain ⟨b, o, rfl, hb, hc⟩ := h.at_ (by omega)
    have hlt := nth_lt h.ok i
    have hcell := hc i hi
    clear hc h
    go_enter Tryd.func100, Tryd.ntmps100
    go_wp2
    go_ret
    exact ⟨rfl, rfl⟩
  · have hk : nth xs i = 0 := nth_out (by rw [h.len]; omega)
    have Hk := Lib.hid hk
    clear hk h
    have hi' : n ≤ i := by omega
    go_enter Tryd.func100, Tryd.ntmps100
    go_wp2
    go_ret
    exact ⟨by rw [Hk.out]; rfl, rfl⟩

theorem refLimb_i (ao : Option Addr) (n c : Nat) (i : Int) (hi : 0 ≤ i) (xs : List Nat) (w : World) (h : Sl w ao n c xs) :
    Calls Tryd.prog 100 #[.slice ao n c, .int .i64 i] w fun e w' => e = .returned (.int .u64 (nth xs i.toNat : Int)) ∧ w = w' := by
  obtain ⟨i, rfl⟩ := Int.eq_ofNat_of_zero_le hi
  exact refLimb_any ao n c i xs w h

/-- What Low answers. -/
def lowB (xs : List Nat) : Bool := decide (chk xs = 0 ∧ xs.length ≤ 2)
def lowN (xs : List Nat) : Nat := if lowB xs = true then nth xs 0 + 4294967296 * nth xs 1 else 0

/-- The number of the first k limbs, k at most 2. -/
def lowK (xs : List Nat) (k : Nat) : Nat := if k = 0 then 0 else if k = 1 then nth xs 0 else nth xs 0 + 4294967296 * nth xs 1

theorem u64_zero_or (a : Nat) (ha : a < 18446744073709551616) : bits .or .u64 0 (a : Int) = (a : Int) := by
  have h1 : (BitVec.ofInt 64 (a : Int)).toNat = a := by
    rw [BitVec.ofInt_natCast, BitVec.toNat_ofNat]; exact Nat.mod_eq_of_lt (by omega)
  show IntKind.u64.wrap ((BitVec.ofInt 64 0 ||| BitVec.ofInt 64 (a : Int)).toNat : Int) = _
  rw [BitVec.toNat_or, h1, show (BitVec.ofInt 64 0).toNat = 0 from rfl, Nat.zero_or, IntKind.wrap_u64]
  omega

theorem u64_or_high (a y : Nat) (ha : a < 4294967296) (hy : y < 4294967296) : bits .or .u64 (a : Int) ((y : Int) * 4294967296) = ((a + 4294967296 * y : Nat) : Int) := by
  have h1 : (BitVec.ofInt 64 (a : Int)).toNat = a := by
    rw [BitVec.ofInt_natCast, BitVec.toNat_ofNat]; exact Nat.mod_eq_of_lt (by omega)
  have h2 : (BitVec.ofInt 64 ((y : Int) * 4294967296)).toNat = 2 ^ 32 * y := by
    rw [show ((y : Int) * 4294967296) = ((y * 4294967296 : Nat) : Int) by omega, BitVec.ofInt_natCast, BitVec.toNat_ofNat, Nat.mod_eq_of_lt (by omega)]; omega
  show IntKind.u64.wrap ((BitVec.ofInt 64 (a : Int) ||| BitVec.ofInt 64 ((y : Int) * 4294967296)).toNat : Int) = _
  rw [BitVec.toNat_or, h1, h2, Nat.or_comm, ← Nat.two_pow_add_eq_or_of_lt (show a < 2 ^ 32 by omega), IntKind.wrap_u64]
  omega

end Go.Proofs.YtnokabglkmiidaaDoor
