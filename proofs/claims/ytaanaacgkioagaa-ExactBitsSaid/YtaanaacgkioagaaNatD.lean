/-
  The walks of the reference's Bits, limb and Low, and of nat.Low.
-/
import Derived.Test.YtaanaacgkioagaaNatC
namespace Go.Proofs.Ytaanaacgkioagaa
open Go.RowKit Go.Lb

set_option maxHeartbeats 400000 in
theorem refBits_any (ao : Option Addr) (n c : Nat) (xs : List Nat) (w : World) (h : Sl w ao n c xs) :
    Calls Try.prog 12 #[.agg #[.slice ao n c]] w fun e w' => e = .returned (.tuple #[.int .i64 (bitsN xs), .int .i64 (chk xs)]) ∧ Below w.heap.size w w' := by
  by_cases h0 : chk xs = 0
  · have h0b : (chk xs == 0) = true := by simp [h0]
    have h0c : (chk xs != 0) = false := by simp [h0]
    have hlen := chk_zero_len h0
    have hl := h.len
    have hn1 : n ≤ 16384 := by omega
    have hk : bitsN xs = (szN xs : Int) := by unfold bitsN; rw [if_pos h0]
    have Hk := Lib.hid hk
    have H0 := Lib.hid h0
    clear hk h0 hl
    go_enter Try.func12, Try.ntmps12
    go_wp2_with (first
      | (go_at_call 23; refine (refCheck_any ao n c xs _ (h.alloc _)).mono ?_; rintro e w1 ⟨rfl, hb1⟩; obtain ⟨hc1, hf1⟩ := bcell hb1; have hz1 : w.heap.size < w1.heap.size := by have := hb1.size; simp at this; omega)
      | (go_at_call 26; refine (refSize_any ao n c xs _ ((h.alloc _).below hb1) hn1).mono ?_; rintro e w2 ⟨rfl, hb2⟩))
    go_ret2
    exact ⟨by rw [Hk.out, H0.out]; rfl, (by repeat (first | exact Below.refl _ _ | assumption | refine next ?_ (by assumption) | refine more ?_ _))⟩
  · have h0b : (chk xs == 0) = false := by simp [h0]
    have h0c : (chk xs != 0) = true := by simp [h0]
    have hk : bitsN xs = 0 := by unfold bitsN; rw [if_neg h0]
    have Hk := Lib.hid hk
    clear hk
    go_enter Try.func12, Try.ntmps12
    go_wp2_with (go_at_call 23; refine (refCheck_any ao n c xs _ (h.alloc _)).mono ?_; rintro e w1 ⟨rfl, hb1⟩)
    go_ret2
    exact ⟨by rw [Hk.out]; rfl, (by repeat (first | exact Below.refl _ _ | assumption | refine next ?_ (by assumption) | refine more ?_ _))⟩

theorem nth_out {xs : List Nat} {i : Nat} (h : xs.length ≤ i) : nth xs i = 0 := by
  unfold nth; rw [List.getD_eq_getElem?_getD, List.getElem?_eq_none h]; rfl

/-- A limb, or 0 beyond the list. -/
theorem refLimb_any (ao : Option Addr) (n c i : Nat) (xs : List Nat) (w : World) (h : Sl w ao n c xs) :
    Calls Try.prog 27 #[.slice ao n c, .int .i64 i] w fun e w' => e = .returned (.int .u64 (nth xs i : Int)) ∧ w = w' := by
  by_cases hi : i < n
  · obtain ⟨b, o, rfl, hb, hc⟩ := h.at_ (by omega)
    have hlt := nth_lt h.ok i
    have hcell := hc i hi
    clear hc h
    go_enter Try.func27, Try.ntmps27
    go_wp2
    go_ret
    exact ⟨rfl, rfl⟩
  · have hk : nth xs i = 0 := nth_out (by rw [h.len]; omega)
    have Hk := Lib.hid hk
    clear hk h
    have hi' : n ≤ i := by omega
    go_enter Try.func27, Try.ntmps27
    go_wp2
    go_ret
    exact ⟨by rw [Hk.out]; rfl, rfl⟩

theorem refLimb_i (ao : Option Addr) (n c : Nat) (i : Int) (hi : 0 ≤ i) (xs : List Nat) (w : World) (h : Sl w ao n c xs) :
    Calls Try.prog 27 #[.slice ao n c, .int .i64 i] w fun e w' => e = .returned (.int .u64 (nth xs i.toNat : Int)) ∧ w = w' := by
  obtain ⟨i, rfl⟩ := Int.eq_ofNat_of_zero_le hi
  exact refLimb_any ao n c i xs w h

/-- What Low answers. -/
def lowB (xs : List Nat) : Bool := decide (chk xs = 0 ∧ xs.length ≤ 2)
def lowN (xs : List Nat) : Nat := if lowB xs = true then nth xs 0 + 4294967296 * nth xs 1 else 0

/-- The number of the first k limbs, k at most 2. -/
def lowK (xs : List Nat) (k : Nat) : Nat := if k = 0 then 0 else if k = 1 then nth xs 0 else nth xs 0 + 4294967296 * nth xs 1

theorem u64_zero_or (a : Nat) (ha : a < 18446744073709551616) : bits .or .u64 0 (a : Int) = (a : Int) := by
  have h1 : (BitVec.ofInt 64 (a : Int)).toNat = a := by
    rw [BitVec.ofInt_natCast, BitVec.toNat_ofNat]; exact Nat.mod_eq_of_lt (by omega)
  show IntKind.u64.wrap ((BitVec.ofInt 64 0 ||| BitVec.ofInt 64 (a : Int)).toNat : Int) = _
  rw [BitVec.toNat_or, h1, show (BitVec.ofInt 64 0).toNat = 0 from rfl, Nat.zero_or, IntKind.wrap_u64]
  omega

theorem u64_or_high (a y : Nat) (ha : a < 4294967296) (hy : y < 4294967296) : bits .or .u64 (a : Int) ((y : Int) * 4294967296) = ((a + 4294967296 * y : Nat) : Int) := by
  have h1 : (BitVec.ofInt 64 (a : Int)).toNat = a := by
    rw [BitVec.ofInt_natCast, BitVec.toNat_ofNat]; exact Nat.mod_eq_of_lt (by omega)
  have h2 : (BitVec.ofInt 64 ((y : Int) * 4294967296)).toNat = 2 ^ 32 * y := by
    rw [show ((y : Int) * 4294967296) = ((y * 4294967296 : Nat) : Int) by omega, BitVec.ofInt_natCast, BitVec.toNat_ofNat, Nat.mod_eq_of_lt (by omega)]; omega
  show IntKind.u64.wrap ((BitVec.ofInt 64 (a : Int) ||| BitVec.ofInt 64 ((y : Int) * 4294967296)).toNat : Int) = _
  rw [BitVec.toNat_or, h1, h2, Nat.or_comm, ← Nat.two_pow_add_eq_or_of_lt (show a < 2 ^ 32 by omega), IntKind.wrap_u64]
  omega

set_option maxHeartbeats 800000 in
theorem refLow_any (ao : Option Addr) (n c : Nat) (xs : List Nat) (w : World) (h : Sl w ao n c xs) :
    Calls Try.prog 14 #[.agg #[.slice ao n c]] w fun e w' => e = .returned (.tuple #[.int .u64 (lowN xs), .bool (lowB xs)]) ∧ Below w.heap.size w w' := by
  by_cases h0 : chk xs = 0
  · have h0b : (chk xs == 0) = true := by simp [h0]
    have h0c : (chk xs != 0) = false := by simp [h0]
    by_cases hn : n ≤ 2
    · have hB : lowB xs = true := by unfold lowB; simp [h0, h.len, hn]
      have hk : lowN xs = nth xs 0 + 4294967296 * nth xs 1 := by unfold lowN; rw [if_pos hB]
      have HB := Lib.hid hB
      have Hk := Lib.hid hk
      have l0 := nth_lt h.ok 0
      have l1 := nth_lt h.ok 1
      have hor := u64_or_high (nth xs 0) (nth xs 1) l0 l1
      have Hor := Lib.hid hor
      clear hk hB h0 hor
      go_enter Try.func14, Try.ntmps14
      go_wp2_with (first
        | (go_at_call 23; refine (refCheck_any ao n c xs _ (h.alloc _)).mono ?_; rintro e w1 ⟨rfl, hb1⟩; obtain ⟨hc1, hf1⟩ := bcell hb1; have hz1 : w.heap.size < w1.heap.size := by have := hb1.size; simp at this; omega))
      have hs1 : Sl w1 ao n c xs := (h.alloc _).below hb1
      go_quiet ((go_at_call 27; exact quiet_l (fun W e => refLimb_i ao n c _ (by decide) xs W (hs1.of_heap e)) _))
      go_wp2
      go_ret2
      exact ⟨by rw [Hk.out, HB.out, ← Hor.out]; rfl, (by repeat (first | exact Below.refl _ _ | assumption | refine drewn ?_ _ | refine next ?_ (by assumption) | refine more ?_ _))⟩
    · have hB : lowB xs = false := by unfold lowB; simp [h.len, hn]
      have hk : lowN xs = 0 := by unfold lowN; rw [if_neg (by simp [hB])]
      have HB := Lib.hid hB
      have Hk := Lib.hid hk
      clear hk hB h0
      have hn' : 2 < n := by omega
      go_enter Try.func14, Try.ntmps14
      go_wp2_with (first
        | (go_at_call 23; refine (refCheck_any ao n c xs _ (h.alloc _)).mono ?_; rintro e w1 ⟨rfl, hb1⟩; obtain ⟨hc1, hf1⟩ := bcell hb1; have hz1 : w.heap.size < w1.heap.size := by have := hb1.size; simp at this; omega))
      go_ret2
      exact ⟨by rw [Hk.out, HB.out]; rfl, (by repeat (first | exact Below.refl _ _ | assumption | refine next ?_ (by assumption) | refine more ?_ _))⟩
  · have h0b : (chk xs == 0) = false := by simp [h0]
    have h0c : (chk xs != 0) = true := by simp [h0]
    have hB : lowB xs = false := by unfold lowB; simp [h0]
    have hk : lowN xs = 0 := by unfold lowN; rw [if_neg (by simp [hB])]
    have HB := Lib.hid hB
    have Hk := Lib.hid hk
    clear hk hB
    go_enter Try.func14, Try.ntmps14
    go_wp2_with (go_at_call 23; refine (refCheck_any ao n c xs _ (h.alloc _)).mono ?_; rintro e w1 ⟨rfl, hb1⟩)
    go_ret2
    exact ⟨by rw [Hk.out, HB.out]; rfl, (by repeat (first | exact Below.refl _ _ | assumption | refine next ?_ (by assumption) | refine more ?_ _))⟩

set_option maxHeartbeats 800000 in
theorem natLow_any (ao : Option Addr) (n c : Nat) (xs : List Nat) (w : World) (h : Sl w ao n c xs) :
    Calls Try.prog 19 #[.agg #[.slice ao n c]] w fun e w' => e = .returned (.tuple #[.int .u64 (lowN xs), .bool (lowB xs)]) ∧ Below w.heap.size w w' := by
  by_cases h0 : chk xs = 0
  · have h0b : (chk xs == 0) = true := by simp [h0]
    have h0c : (chk xs != 0) = false := by simp [h0]
    by_cases hn : n ≤ 2
    · have hB : lowB xs = true := by unfold lowB; simp [h0, h.len, hn]
      have hk : lowN xs = nth xs 0 + 4294967296 * nth xs 1 := by unfold lowN; rw [if_pos hB]
      have hk1 : lowN xs = lowK xs n := by
        rw [hk, lowK]
        split
        · rw [nth_out (by rw [h.len]; omega), nth_out (by rw [h.len]; omega)]
        · split
          · rw [nth_out (i := 1) (by rw [h.len]; omega)]; rfl
          · rfl
      have HB := Lib.hid hB
      have Hk := Lib.hid hk1
      have l0 := nth_lt h.ok 0
      have l1 := nth_lt h.ok 1
      have hor := u64_or_high (nth xs 0) (nth xs 1) l0 l1
      have Hor := Lib.hid hor
      clear hk hk1 hB h0 hor
      go_enter Try.func19, Try.ntmps19
      go_wp2_with (first
        | (go_at_call 21; refine (natCheck_any ao n c xs _ (h.alloc _)).mono ?_; rintro e w1 ⟨rfl, hb1⟩; obtain ⟨hc1, hf1⟩ := bcell hb1; have hz1 : w.heap.size < w1.heap.size := by have := hb1.size; simp at this; omega))
      go_loop [4, 19] (fun a i => ∃ k : Nat, k ≤ n ∧ i = .int .i64 k ∧ a = .int .u64 (lowK xs k : Int)) (fun _ i => n - (intOf i).toNat)
      case atStart => exact ⟨0, by omega, rfl, rfl⟩
      case round =>
        obtain ⟨k, hk, rfl, rfl⟩ := hrel
        by_cases hkn : k < n
        · obtain ⟨b, o, rfl, hb, hc⟩ := h.at_ (by omega)
          have hbz : b < w1.heap.size := by omega
          have hbx : b < w.heap.size + 1 := by omega
          rcases (by omega : k = 0 ∨ k = 1) with rfl | rfl
          · have hcell : w.cell? ⟨b, o, none⟩ = some (.int .u32 (nth xs 0 : Int)) := by simpa using hc 0 (by omega)
            have hor0 := u64_zero_or (nth xs 0) (by omega)
            have e0 : (lowK xs 0 : Int) = 0 := rfl
            clear hc
            go_wp2
            go_round
            case rel => exact ⟨1, by omega, rfl, rfl⟩
            case measure => simp [intOf]; omega
          · have hcell := hc 1 (by omega)
            have hor1 := Hor.out
            have e1 : (lowK xs 1 : Int) = (nth xs 0 : Int) := rfl
            clear hc
            go_wp2
            go_round
            case rel => exact ⟨2, by omega, rfl, congrArg (Value.int .u64) (by simp [lowK])⟩
            case measure => simp [intOf]; omega
        · obtain rfl : n = k := by omega
          go_wp2
          go_ret2
          exact ⟨by rw [Hk.out, HB.out]; rfl, (by repeat (first | exact Below.refl _ _ | assumption | refine drewn ?_ _ | refine next ?_ (by assumption) | refine more ?_ _))⟩
    · have hB : lowB xs = false := by unfold lowB; simp [h.len, hn]
      have hk : lowN xs = 0 := by unfold lowN; rw [if_neg (by simp [hB])]
      have HB := Lib.hid hB
      have Hk := Lib.hid hk
      clear hk hB h0
      have hn' : 2 < n := by omega
      go_enter Try.func19, Try.ntmps19
      go_wp2_with (first
        | (go_at_call 21; refine (natCheck_any ao n c xs _ (h.alloc _)).mono ?_; rintro e w1 ⟨rfl, hb1⟩; obtain ⟨hc1, hf1⟩ := bcell hb1; have hz1 : w.heap.size < w1.heap.size := by have := hb1.size; simp at this; omega))
      go_ret2
      exact ⟨by rw [Hk.out, HB.out]; rfl, (by repeat (first | exact Below.refl _ _ | assumption | refine next ?_ (by assumption) | refine more ?_ _))⟩
  · have h0b : (chk xs == 0) = false := by simp [h0]
    have h0c : (chk xs != 0) = true := by simp [h0]
    have hB : lowB xs = false := by unfold lowB; simp [h0]
    have hk : lowN xs = 0 := by unfold lowN; rw [if_neg (by simp [hB])]
    have HB := Lib.hid hB
    have Hk := Lib.hid hk
    clear hk hB
    go_enter Try.func19, Try.ntmps19
    go_wp2_with (go_at_call 21; refine (natCheck_any ao n c xs _ (h.alloc _)).mono ?_; rintro e w1 ⟨rfl, hb1⟩)
    go_ret2
    exact ⟨by rw [Hk.out, HB.out]; rfl, (by repeat (first | exact Below.refl _ _ | assumption | refine next ?_ (by assumption) | refine more ?_ _))⟩

end Go.Proofs.Ytaanaacgkioagaa
