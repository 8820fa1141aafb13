/-
  The walks of Bits and Low, of the program and of the reference, and of the reference's size and limb.
-/
import Derived.Test.YtnokabglkmiidaaDoorNatB
import Derived.Test.YtnokabglkmiidaaDoorBitsA
namespace Go.Proofs.YtnokabglkmiidaaDoor
open Go.RowKit Go.Lb

/-- How many bits a list has. -/
def szN (xs : List Nat) : Nat := if xs.length = 0 then 0 else 32 * (xs.length - 1) + Lib.bitLen (nth xs (xs.length - 1))

/-- What Bits answers. -/
def bitsN (xs : List Nat) : Int := if chk xs = 0 then (szN xs : Int) else 0

theorem szN_zero {xs : List Nat} (h : xs.length = 0) : szN xs = 0 := by unfold szN; rw [if_pos h]
theorem szN_pos {xs : List Nat} (h : xs.length ≠ 0) : szN xs = 32 * (xs.length - 1) + Lib.bitLen (nth xs (xs.length - 1)) := by unfold szN; rw [if_neg h]

theorem chk_zero_len {xs : List Nat} (h : chk xs = 0) : xs.length ≤ 16384 := by
  unfold chk at h
  split at h
  · cases h
  · omega

set_option maxHeartbeats 400000 in
theorem natBits_any (ao : Option Addr) (n c : Nat) (xs : List Nat) (w : World) (h : Sl w ao n c xs) :
    Calls Tryd.prog 86 #[.agg #[.slice ao n c]] w fun e w' => e = .returned (.tuple #[.int .i64 (bitsN xs), .int .i64 (chk xs)]) ∧ Below w.heap.size w w' := by
  by_cases h0 : chk xs = 0
  · have h0b : (chk xs == 0) = true := by simp [h0]
    have h0c : (chk xs != 0) = false := by simp [h0]
    have hlen := chk_zero_len h0
    have hl := h.len
    by_cases hn : n = 0
    · have hk : bitsN xs = 0 := by unfold bitsN; rw [if_pos h0, szN_zero (by omega)]; rfl
      have Hk := Lib.hid hk
      have H0 := Lib.hid h0
      clear hk h0 hl
      subst hn
      go_enter Tryd.func86, Tryd.ntmps86
      go_wp2_with (go_at_call 35; refine (natCheck_any ao 0 c xs _ (h.alloc _)).mono ?_; rintro e w1 ⟨rfl, hb1⟩; obtain ⟨hc1, hf1⟩ := bcell hb1; have hz1 : w.heap.size < w1.heap.size := by have := hb1.size; simp at this; omega)
      go_ret2
      exact ⟨by rw [Hk.out, H0.out]; rfl, (by repeat (first | exact Below.refl _ _ | assumption | refine next ?_ (by assumption) | refine more ?_ _))⟩
    · obtain ⟨b, o, rfl, hb, hc⟩ := h.at_ (by omega)
      have hlt := nth_lt h.ok (n - 1)
      have hcell := hc (n - 1) (by omega)
      have hk : bitsN xs = 32 * (n : Int) - (32 - (Lib.bitLen (nth xs (n - 1)) : Int)) := by unfold bitsN; rw [if_pos h0, szN_pos (by omega), hl]; omega
      have hbl := bitLen_le32 _ hlt
      have hn1 : n ≤ 16384 := by omega
      have hn0 : 0 < n := by omega
      have Hk := Lib.hid hk
      have H0 := Lib.hid h0
      clear hk h0 hc hl
      have hbx : b < w.heap.size + 1 := by omega
      have hbz : ∀ w1 : World, w.heap.size < w1.heap.size → b < w1.heap.size := fun w1 _ => by omega
      go_enter Tryd.func86, Tryd.ntmps86
      go_wp2_with (first
        | (go_at_call 35; refine (natCheck_any _ n c xs _ (h.alloc _)).mono ?_; rintro e w1 ⟨rfl, hb1⟩; obtain ⟨hc1, hf1⟩ := bcell hb1; have hz1 : w.heap.size < w1.heap.size := by have := hb1.size; simp at this; omega)
        | (go_at_call 106; refine (lz32_any (nth xs (n - 1) : Int) _ (by omega) (by omega)).mono ?_; rintro e w2 ⟨rfl, rfl⟩))
      go_ret2
      exact ⟨by rw [Hk.out, H0.out]; rfl, (by repeat (first | exact Below.refl _ _ | assumption | refine next ?_ (by assumption) | refine more ?_ _))⟩
  · have h0b : (chk xs == 0) = false := by simp [h0]
    have h0c : (chk xs != 0) = true := by simp [h0]
    have hk : bitsN xs = 0 := by unfold bitsN; rw [if_neg h0]
    have Hk := Lib.hid hk
    clear hk
    go_enter Tryd.func86, Tryd.ntmps86
    go_wp2_with (go_at_call 35; refine (natCheck_any ao n c xs _ (h.alloc _)).mono ?_; rintro e w1 ⟨rfl, hb1⟩)
    go_ret2
    exact ⟨by rw [Hk.out]; rfl, (by repeat (first | exact Below.refl _ _ | assumption | refine next ?_ (by assumption) | refine more ?_ _))⟩

set_option maxHeartbeats 400000 in
theorem refSize_any (ao : Option Addr) (n c : Nat) (xs : List Nat) (w : World) (h : Sl w ao n c xs) (hsm : n ≤ 16384) :
    Calls Tryd.prog 114 #[.slice ao n c] w fun e w' => e = .returned (.int .i64 (szN xs)) ∧ Below w.heap.size w w' := by
  have hl := h.len
  by_cases hn : n = 0
  · have hk : szN xs = 0 := szN_zero (by omega)
    have Hk := Lib.hid hk
    clear hk hl
    subst hn
    go_enter Tryd.func114, Tryd.ntmps114
    go_wp2
    go_ret
    exact ⟨by rw [Hk.out]; rfl, Below.refl _ _⟩
  · obtain ⟨b, o, rfl, hb, hc⟩ := h.at_ (by omega)
    have hlt := nth_lt h.ok (n - 1)
    have hcell := hc (n - 1) (by omega)
    have hk := szN_pos (xs := xs) (by omega)
    rw [hl] at hk
    have Hk := Lib.hid hk
    obtain ⟨v0, hv0⟩ : ∃ v, v = nth xs (n - 1) := ⟨_, rfl⟩
    rw [← hv0] at hcell hlt
    have Hv := Lib.hid hv0
    clear hk hc hl hv0 h
    have hbl := bitLen_le32 _ hlt
    have hpos : 0 < n := by omega
    have hne : ((n : Int) == 0) = false := by simp; omega
    go_enter Tryd.func114, Tryd.ntmps114
    go_wp2
    go_loop [3, 4] (fun m v => ∃ k y : Nat, y < 4294967296 ∧ k ≤ 32 ∧ v = .int .u32 (y : Int) ∧ m = .int .i64 (32 * ((n : Int) - 1) + k) ∧ Hid (k + Lib.bitLen y = Lib.bitLen v0)) (fun _ v => (intOf v).toNat)
    case atStart => exact ⟨0, v0, hlt, by omega, rfl, by simp, Lib.hid (by simp)⟩
    case round =>
      obtain ⟨k, y, hy, hk, rfl, rfl, H⟩ := hrel
      by_cases hy0 : y = 0
      · subst hy0
        have hk2 : Lib.bitLen v0 = k := by have := H.out; have e : Lib.bitLen 0 = 0 := by decide
                                           omega
        have Hk2 := Lib.hid hk2
        clear hk2 H
        go_wp2
        go_ret
        exact ⟨by rw [Hk.out, ← Hv.out, Hk2.out]; simp; omega, Below.refl _ _⟩
      · have hyp : 0 < y := by omega
        have hh := Lib.bitLen_half y hy0 (by omega)
        have Hn := Lib.hid hh
        have hk31 : k < 32 := by have := H.out; omega
        clear hh
        go_wp2
        go_round
        case rel => exact ⟨k + 1, y / 2, by omega, by omega, by go_num, by go_num, Lib.hid (by have := H.out; have := Hn.out; omega)⟩
        case measure => simp [intOf]; omega

end Go.Proofs.YtnokabglkmiidaaDoor
