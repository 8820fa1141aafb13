/-
  The walks of math/bits.TrailingZeros32 (its table laid), exact.even and the reference's even: how many bits 0 a number has at its end.
-/
import Derived.Test.YtnokabglkmiidaaDoorNatB
import Derived.Test.YtnokabglkmiidaaDoorNatC
import Derived.Test.YtnokabglkmiidaaDoorNatD
import Derived.Test.YtnokabglkmiidaaDoorTz
import Derived.Lib.TrailingZeros
namespace Go.Proofs.YtnokabglkmiidaaDoor
open Go.RowKit Go.Lb

/-- The library's table in its variable. -/
def Tab (w : World) : Prop := ∀ j, j < 32 → w.cell? ⟨0, j, none⟩ = some (.int .u8 (Lib.deBruijn32tab.getD j 0))

theorem Tab.below {w w' : World} (h : Tab w) (hb : Below w.heap.size w w') : Tab w' := fun j hj => cellStay (h j hj) hb
theorem Tab.alloc {w : World} (h : Tab w) (o : Obj) : Tab (w.alloc o) := h.below ((Below.refl _ _).alloc (Nat.le_refl _) o)
theorem Tab.drew {w : World} (h : Tab w) : Tab w.drew := h
theorem Tab.drewN {w : World} (h : Tab w) (k : Nat) : Tab (w.drewN k) := fun j hj => by simpa using h j hj

set_option maxHeartbeats 1000000 in
theorem tz32_core (x k idx : Nat) (w : World) (hx0 : ((x : Int) == 0) = false)
    (key : bits BinOp.and IntKind.u32 (x : Int) (-(x : Int) % 4294967296) * 125613361 % 4294967296 / 134217728 = (idx : Int))
    (hi : idx < 32) (hk : k < 32) (hcell : w.cell? ⟨0, idx, none⟩ = some (.int .u8 k)) :
    Calls Tryd.prog 67 #[.int .u32 x] w fun e w' => e = .returned (.int .i64 k) ∧ w = w' := by
  go_enter Tryd.func67, Tryd.ntmps67
  go_wp2_with (simp only [key])
  go_ret
  exact ⟨rfl, rfl⟩

theorem tz32_key (x a : Nat) (hx : x < 4294967296) (hx0 : x ≠ 0) (hlow : x &&& (4294967296 - x) = a) :
    bits BinOp.and IntKind.u32 (x : Int) (-(x : Int) % 4294967296) * 125613361 % 4294967296 / 134217728 = ((a * 125613361 % 4294967296 / 134217728 : Nat) : Int) := by
  have e1 : -(x : Int) % 4294967296 = ((4294967296 - x : Nat) : Int) := by omega
  rw [e1, u32_and_nat x _ hx (by omega), hlow]
  omega

theorem tz32_any (x : Nat) (hx : x < 4294967296) (hx0 : x ≠ 0) (w : World) (hT : Tab w) :
    Calls Tryd.prog 67 #[.int .u32 x] w fun e w' => e = .returned (.int .i64 (Lib.ctz 32 x)) ∧ w = w' := by
  obtain ⟨hlow, hk⟩ := Lib.lowest_bit 32 x hx0 hx
  obtain ⟨hi, htab⟩ := Lib.deBruijn32_at _ hk
  have hcell := hT _ hi
  rw [htab] at hcell
  exact tz32_core x _ _ w (by simp; omega) (tz32_key x _ hx hx0 hlow) hi hk hcell

set_option maxRecDepth 100000 in
set_option maxHeartbeats 1000000 in
theorem exEven_any (ao : Option Addr) (n c : Nat) (ys : List Nat) (w : World) (h : Sl w ao n c ys) (h0 : val ys ≠ 0) (hn : n ≤ 16384) (hT : Tab w) :
    Calls Tryd.prog 37 #[.agg #[.slice ao n c]] w fun e w' => e = .returned (.int .i64 (tz (val ys))) ∧ Below w.heap.size w w' := by
  have hl := h.len
  go_enter Tryd.func37, Tryd.ntmps37
  go_wp2
  go_loop [3] (fun i => ∃ k : Nat, 32 * k ≤ tz (val ys) ∧ i = .int .i64 (32 * (k : Int))) (fun i => tz (val ys) + 1 - (intOf i).toNat)
  case atStart => exact ⟨0, by omega, rfl⟩
  case round =>
    obtain ⟨k, hk, rfl⟩ := hrel
    have ht := tz_lt h.ok h0
    have hkn : k < n := by omega
    obtain ⟨b, o, rfl, hb, hc⟩ := h.at_ (by omega)
    have hcell := hc k hkn
    have q : (32 * (k : Int)) / 32 = (k : Int) := by omega
    clear hc
    by_cases h2 : nth ys k = 0
    · have hnx := tz_next h.ok h0 hk h2
      rw [h2] at hcell
      clear h2
      go_wp2
      go_round
      case rel => exact ⟨k + 1, by omega, by go_num⟩
      case measure => simp [intOf]; omega
    · have hh := tz_here h.ok h0 hk h2
      have hlt := nth_lt h.ok k
      have hne : ((nth ys k : Int) == 0) = false := by simp; omega
      have Hh := Lib.hid hh
      have hcl : Lib.ctz 32 (nth ys k) < 32 := (Lib.lowest_bit 32 _ h2 hlt).2
      clear hh
      go_wp2_with (go_at_call 67; refine (tz32_any (nth ys k) hlt h2 _ (hT.alloc _)).mono ?_; rintro e w1 ⟨rfl, rfl⟩)
      go_ret
      exact ⟨by rw [Hh.out, Int.natCast_add, Int.natCast_mul]; rfl, more (Below.refl _ _) _⟩

theorem refLimb_e (ao : Option Addr) (n c i : Nat) (x : Int) (hx : x = (i : Int)) (xs : List Nat) (w : World) (h : Sl w ao n c xs) :
    Calls Tryd.prog 100 #[.slice ao n c, .int .i64 x] w fun e w' => e = .returned (.int .u64 (nth xs i)) ∧ w = w' := by
  subst hx
  exact refLimb_any ao n c i xs w h

theorem bit_and {y s : Nat} (hy : y < 4294967296) : (bits BinOp.and IntKind.u64 ((y : Int) / 2 ^ s) 1 == 1) = decide (y / 2 ^ s % 2 = 1) := by
  have e : (y : Int) / 2 ^ s = ((y / 2 ^ s : Nat) : Int) := by rw [Int.natCast_ediv, Int.natCast_pow]; rfl
  have hlt : y / 2 ^ s < 4294967296 := Nat.lt_of_le_of_lt (Nat.div_le_self _ _) hy
  rw [e, u64_and_one _ (by omega), Bool.eq_iff_iff]
  simp
  omega

set_option maxRecDepth 100000 in
set_option maxHeartbeats 1000000 in
theorem refBit_any (ao : Option Addr) (n c i : Nat) (ys : List Nat) (w : World) (h : Sl w ao n c ys) (hc : chk ys = 0) (hi : i ≤ 9223372036854775807) :
    Calls Tryd.prog 64 #[.agg #[.slice ao n c], .int .i64 i] w fun e w' => e = .returned (.tuple #[.bool (decide (bitL ys i = 1)), .int .i64 0]) ∧ Below w.heap.size w w' := by
  have hcB : (chk ys != 0) = false := by simp [hc]
  have hdiv : ((i : Int) / 32) = ((i / 32 : Nat) : Int) := by omega
  have Hd := Lib.hid hdiv
  clear hc hdiv
  go_enter Tryd.func64, Tryd.ntmps64
  go_wp2_with (first
      | (go_at_call 30; refine (refCheck_any _ n c ys _ (h.alloc _)).mono ?_; rintro e w1 ⟨rfl, hb1⟩; obtain ⟨hc1, hf1⟩ := bcell hb1; have hz1 := bsz1 hb1; have hW := next (more (Below.refl _ _) _) hb1; have S1 := (h.alloc _).below hb1)
      | (go_at_call 100; refine (refLimb_e _ n c (i / 32) _ Hd.out ys _ S1).mono ?_; rintro e w2 ⟨rfl, rfl⟩))
  go_ret2
  have E := bit_and (s := i % 32) (nth_lt h.ok (i / 32))
  exact ⟨congrArg (fun q => Ending.returned (.tuple #[.bool q, .int .i64 0])) E, hW⟩

set_option maxRecDepth 100000 in
set_option maxHeartbeats 1000000 in
theorem refEven_any (ao : Option Addr) (n c : Nat) (ys : List Nat) (w : World) (h : Sl w ao n c ys) (h0 : val ys ≠ 0) (hc : chk ys = 0) :
    Calls Tryd.prog 32 #[.agg #[.slice ao n c]] w fun e w' => e = .returned (.int .i64 (tz (val ys))) ∧ Below w.heap.size w w' := by
  have hl := chk_zero_len hc
  have ht := tz_lt h.ok h0
  go_enter Tryd.func32, Tryd.ntmps32
  go_wp2
  go_loopw [3] (fun i wr => ∃ k : Nat, k ≤ tz (val ys) ∧ i = .int .i64 k ∧ Below w.heap.size w wr ∧ Sl wr ao n c ys ∧ wr.cell? ⟨w.heap.size, 0, none⟩ = some (.slice ao n c)) (fun i _ => tz (val ys) + 1 - (intOf i).toNat)
  case atStart => exact ⟨0, by omega, rfl, more (Below.refl _ _) _, h.alloc _, by simp⟩
  case round =>
    obtain ⟨k, hk, rfl, hW, hS, hbx⟩ := hrel
    by_cases h2 : k = tz (val ys)
    · subst h2
      have hb : decide (bitL ys (tz (val ys)) = 1) = true := decide_eq_true (bitL_tz h.ok h0)
      go_wp2_with (go_at_call 64; refine (refBit_any _ n c _ ys _ hS hc (by omega)).mono ?_; rintro e w1 ⟨rfl, hb1⟩; rw [hb]; replace hW := next hW hb1)
      go_ret
      exact ⟨rfl, hW⟩
    · have hb : decide (bitL ys k = 1) = false := by rw [bitL_low h.ok h0 (by omega)]; rfl
      go_wp2_with (go_at_call 64; refine (refBit_any _ n c k ys _ hS hc (by omega)).mono ?_; rintro e w1 ⟨rfl, hb1⟩; rw [hb]; replace hW := next hW hb1; replace hS := hS.below hb1; replace hbx := cellStay hbx hb1)
      go_roundw
      case rel => exact ⟨k + 1, by omega, by go_num, hW, hS, hbx⟩
      case measure => simp [intOf]; omega

end Go.Proofs.YtnokabglkmiidaaDoor
