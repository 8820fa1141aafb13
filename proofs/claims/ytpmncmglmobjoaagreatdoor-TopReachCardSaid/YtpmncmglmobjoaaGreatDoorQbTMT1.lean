/-
  The walks of nat's small functions: Check, Bits, Low (they only read). The walks of the small readers of numbers: the reference's Check, none, far; exact.Check and the reference's. The walks of math/bits.Len32 and LeadingZeros32, over the library's own text. The walks of Bits and Low, of the program and of the reference, and of the reference's size and limb. The walks of the reference's Bits, limb and Low, and of nat.Low.
-/
import Derived.Test.YtpmncmglmobjoaaGreatDoorRows
import Derived.Test.YtpmncmglmobjoaaGreatDoorQbTBase
import Derived.Lib.BitFns
import Derived.Handy
import Derived.Lib.Strings
import Derived.Lib.Slices
import Derived.Lib.Small
import Derived.Lib.Walk
set_option maxHeartbeats 4000000
set_option maxRecDepth 100000
namespace Go.Proofs.YtpmncmglmobjoaaGreatDoor
open Go.RowKit Go.Lb
def chk (xs : List Nat) : Int := if 16384 < xs.length then 4 else if 0 < xs.length ∧ nth xs (xs.length - 1) = 0 then 10 else 0
theorem natCheck_any (ao : Option Addr) (n c : Nat) (xs : List Nat) (w : World) (h : Sl w ao n c xs) :
 Calls Tryz.prog 67 #[.agg #[.slice ao n c]] w fun e w' => e = .returned (.int .i64 (chk xs)) ∧ Below w.heap.size w w' := by
 have hl := h.len
 have hle := h.le
 have hcap := h.cap
 by_cases h1 : 16384 < n
 · have hk : chk xs = 4 := by unfold chk; rw [if_pos (by omega)]
   have Hk := Lib.hid hk
   clear h hl hk
   go_enter Tryz.func67, Tryz.ntmps67
   go_wp2
   go_ret
   exact ⟨by rw [Hk.out]; rfl, (Below.refl _ _).alloc (Nat.le_refl _) _⟩
 · by_cases h0 : n = 0
   · have hk : chk xs = 0 := by unfold chk; rw [if_neg (by omega), if_neg (by omega)]
     have Hk := Lib.hid hk
     clear h hl hk
     subst h0
     go_enter Tryz.func67, Tryz.ntmps67
     go_wp2
     go_ret
     exact ⟨by rw [Hk.out]; rfl, (Below.refl _ _).alloc (Nat.le_refl _) _⟩
   · obtain ⟨b, o, rfl, hb, hc⟩ := h.at_ (by omega)
     have hcell := hc (n - 1) (by omega)
     by_cases h2 : nth xs (n - 1) = 0
     · have hk : chk xs = 10 := by unfold chk; rw [if_neg (by omega), if_pos ⟨by omega, by rw [hl]; exact h2⟩]
       have Hk := Lib.hid hk
       rw [h2] at hcell
       clear h hl hk hc h2
       go_enter Tryz.func67, Tryz.ntmps67
       go_wp2
       go_ret
       exact ⟨by rw [Hk.out]; rfl, (Below.refl _ _).alloc (Nat.le_refl _) _⟩
     · have hk : chk xs = 0 := by unfold chk; rw [if_neg (by omega), if_neg (by rw [hl]; exact fun x => h2 x.2)]
       have Hk := Lib.hid hk
       clear h hl hk hc
       go_enter Tryz.func67, Tryz.ntmps67
       go_wp2
       go_ret
       exact ⟨by rw [Hk.out]; rfl, (Below.refl _ _).alloc (Nat.le_refl _) _⟩
def noneB (n : Nat) : Bool := decide (n = 0)
theorem none_any (ao : Option Addr) (n c : Nat) (w : World) :
 Calls Tryz.prog 68 #[.agg #[.slice ao n c]] w fun e w' => e = .returned (.bool (noneB n)) ∧ Below w.heap.size w w' := by
 have e : noneB n = ((n : Int) == 0) := by unfold noneB; rw [Bool.eq_iff_iff]; simp
 have E := Lib.hid e
 clear e
 go_enter Tryz.func68, Tryz.ntmps68
 go_wp2
 go_ret
 exact ⟨by rw [E.out]; rfl, (Below.refl _ _).alloc (Nat.le_refl _) _⟩
def farB (e : Int) : Bool := decide (e < -1073741824 ∨ 1073741824 < e)
theorem far_any (x : Int) (w : World) :
 Calls Tryz.prog 70 #[.int .i64 x] w fun e w' => e = .returned (.bool (farB x)) ∧ Below w.heap.size w w' := by
 have e : farB x = (decide (x < -1073741824) || decide (1073741824 < x)) := by unfold farB; rw [Bool.eq_iff_iff]; simp
 have E := Lib.hid e
 clear e
 by_cases h : x < -1073741824
 all_goals
  go_enter Tryz.func70, Tryz.ntmps70
  go_wp2
  go_ret
  exact ⟨by rw [E.out]; first | (simp [h]; done) | (simp; omega), Below.refl _ _⟩
def dchk (neg : Bool) (xs : List Nat) (x : Int) : Int :=
 if chk xs ≠ 0 then chk xs else if xs.length = 0 then (if neg = true ∨ x ≠ 0 then 40 else 0) else (if nth xs 0 % 2 = 0 ∨ farB x = true then 40 else 0)
theorem dyCheck_any (neg : Bool) (ao : Option Addr) (n c : Nat) (x : Int) (xs : List Nat) (w : World) (h : Sl w ao n c xs) :
 Calls Tryz.prog 40 #[.agg #[.bool neg, .slice ao n c, .int .i64 x]] w fun e w' => e = .returned (.int .i64 (dchk neg xs x)) ∧ Below w.heap.size w w' := by
 by_cases h0 : chk xs = 0
 · have h0b : (chk xs == 0) = true := by simp [h0]
   have h0c : (chk xs != 0) = false := by simp [h0]
   by_cases hn : n = 0
   · have hk : dchk neg xs x = if neg = true ∨ x ≠ 0 then 40 else 0 := by unfold dchk; rw [if_neg (by simp [h0]), if_pos (by rw [h.len]; exact hn)]
     have Hk := Lib.hid hk
     clear hk h0
     subst hn
     have hnb : noneB 0 = true := rfl
     go_enter Tryz.func40, Tryz.ntmps40
     go_wp2_with (first
      | (go_at_call 67; refine (natCheck_any ao 0 c xs _ (h.alloc _)).mono ?_; rintro e w1 ⟨rfl, hb1⟩; obtain ⟨hc1, hf1⟩ := bcell hb1; have hz1 : w.heap.size < w1.heap.size := by have := hb1.size; simp at this; omega)
      | (go_at_call 68; refine (none_any ao 0 c _).mono ?_; rintro e w2 ⟨rfl, hb2⟩; obtain ⟨hc2, hf2⟩ := bcell hb2; have hz2 : w.heap.size < w2.heap.size := by have := hb2.size; omega))
     all_goals (go_ret; refine ⟨?_, (by repeat (first | exact Below.refl _ _ | assumption | refine next ?_ (by assumption) | refine more ?_ _))⟩; rw [Hk.out]; clear Hk; simp_all; done)
   · obtain ⟨b, o, rfl, hb, hc⟩ := h.at_ (by omega)
     have hlt := nth_lt h.ok 0
     have hcell : w.cell? ⟨b, o, none⟩ = some (.int .u32 (nth xs 0 : Int)) := by simpa using hc 0 (by omega)
     have hnb : noneB n = false := by unfold noneB; simp [hn]
     have hk : dchk neg xs x = if nth xs 0 % 2 = 0 ∨ farB x = true then 40 else 0 := by unfold dchk; rw [if_neg (by simp [h0]), if_neg (by rw [h.len]; exact hn)]
     have Hk := Lib.hid hk
     clear hk h0 hc
     have hbx : b < w.heap.size + 1 := by omega
     have hbz : ∀ w1 : World, w.heap.size < w1.heap.size → b < w1.heap.size := fun w1 _ => by omega
     by_cases h2 : nth xs 0 % 2 = 0
     · have Hk := Lib.hid (Hk.out.trans (if_pos (Or.inl h2)))
       have h3 := Lib.hid h2
       clear h2
       have hand : bits BinOp.and IntKind.u32 (nth xs 0 : Int) 1 = 0 := by rw [u32_and_one _ hlt, h3.out]; rfl
       go_enter Tryz.func40, Tryz.ntmps40
       go_wp2_with (first
        | (go_at_call 67; refine (natCheck_any _ n c xs _ (h.alloc _)).mono ?_; rintro e w1 ⟨rfl, hb1⟩; obtain ⟨hc1, hf1⟩ := bcell hb1; have hz1 : w.heap.size < w1.heap.size := by have := hb1.size; simp at this; omega)
        | (go_at_call 68; refine (none_any _ n c _).mono ?_; rintro e w2 ⟨rfl, hb2⟩; obtain ⟨hc2, hf2⟩ := bcell hb2; have hz2 : w.heap.size < w2.heap.size := by have := hb2.size; omega)
        | (go_at_call 70; refine (far_any x _).mono ?_; rintro e w3 ⟨rfl, hb3⟩))
       all_goals (go_ret; refine ⟨?_, (by repeat (first | exact Below.refl _ _ | assumption | refine next ?_ (by assumption) | refine more ?_ _))⟩; rw [Hk.out]; clear Hk; simp_all; done)
     · have Hk : Hid (dchk neg xs x = if farB x = true then 40 else 0) := Lib.hid (Hk.out.trans (by simp [h2]))
       have h3 := Lib.hid h2
       clear h2
       have hand : bits BinOp.and IntKind.u32 (nth xs 0 : Int) 1 = 1 := by have := h3.out; rw [u32_and_one _ hlt]; omega
       go_enter Tryz.func40, Tryz.ntmps40
       go_wp2_with (first
        | (go_at_call 67; refine (natCheck_any _ n c xs _ (h.alloc _)).mono ?_; rintro e w1 ⟨rfl, hb1⟩; obtain ⟨hc1, hf1⟩ := bcell hb1; have hz1 : w.heap.size < w1.heap.size := by have := hb1.size; simp at this; omega)
        | (go_at_call 68; refine (none_any _ n c _).mono ?_; rintro e w2 ⟨rfl, hb2⟩; obtain ⟨hc2, hf2⟩ := bcell hb2; have hz2 : w.heap.size < w2.heap.size := by have := hb2.size; omega)
        | (go_at_call 70; refine (far_any x _).mono ?_; rintro e w3 ⟨rfl, hb3⟩))
       all_goals (go_ret; refine ⟨?_, (by repeat (first | exact Below.refl _ _ | assumption | refine next ?_ (by assumption) | refine more ?_ _))⟩; rw [Hk.out]; clear Hk; simp_all; done)
 · have h0b : (chk xs == 0) = false := by simp [h0]
   have h0c : (chk xs != 0) = true := by simp [h0]
   have hk : dchk neg xs x = chk xs := by unfold dchk; rw [if_pos h0]
   have Hk := Lib.hid hk
   clear hk
   go_enter Tryz.func40, Tryz.ntmps40
   go_wp2_with (go_at_call 67; refine (natCheck_any ao n c xs _ (h.alloc _)).mono ?_; rintro e w1 ⟨rfl, hb1⟩; obtain ⟨hc1, hf1⟩ := bcell hb1; have hz1 : w.heap.size < w1.heap.size := by have := hb1.size; simp at this; omega)
   go_ret
   exact ⟨by rw [Hk.out]; rfl, (by repeat (first | exact Below.refl _ _ | assumption | refine next ?_ (by assumption) | refine more ?_ _))⟩
theorem len8fin : ∀ n : Fin 256, (Lib.len8tab[n.val]'(by rw [Lib.len8tab_size]; exact n.isLt)).toNat = Lib.bitLen n.val := by decide +kernel
theorem len8at (i : Nat) (h : i < 256) {h' : i < Lib.len8tab.size} : (Lib.len8tab[i]'h').toNat = Lib.bitLen i := len8fin ⟨i, h⟩
theorem len32_any (x : Int) (w : World) (h0 : 0 ≤ x) (h1 : x ≤ 4294967295) :
 Calls Tryz.prog 139 #[.int .u32 x] w fun e w' => e = .returned (.int .i64 (Lib.bitLen x.toNat)) ∧ w = w' := by
 have hs : Lib.len8tab.size = 256 := by decide +kernel
 go_enter Tryz.func139, Tryz.ntmps139
 go_wp2
 all_goals (go_ret; refine ⟨congrArg Ending.returned (congrArg (Value.int IntKind.i64) ?_), rfl⟩)
 · have e : (x / 65536 / 256).toNat = x.toNat / 16777216 := by omega
   have l := Lib.bitLen_le8' (x / 65536 / 256) (by omega) (by omega)
   have s := Lib.bitLen_shift24 x.toNat (by omega) (by omega)
   rw [len8at _ (by omega)]
   rw [e] at l ⊢
   rw [wrap64_nat (Lib.bitLen _) (by omega)]
   first | rw [wrap64_nat (Lib.bitLen _) (by omega)] | (rw [IntWalk.wrap64_in _ ⟨by omega, by omega⟩]; omega)
 · have e : (x / 65536).toNat = x.toNat / 65536 := by omega
   have l := Lib.bitLen_le8' (x / 65536) (by omega) (by omega)
   have s := Lib.bitLen_shift16 x.toNat (by omega) (by omega)
   rw [len8at _ (by omega)]
   rw [e] at l ⊢
   rw [wrap64_nat (Lib.bitLen _) (by omega)]
   first | rw [wrap64_nat (Lib.bitLen _) (by omega)] | (rw [IntWalk.wrap64_in _ ⟨by omega, by omega⟩]; omega)
 · have e : (x / 256).toNat = x.toNat / 256 := by omega
   have l := Lib.bitLen_le8' (x / 256) (by omega) (by omega)
   have s := Lib.bitLen_shift8 x.toNat (by omega) (by omega)
   rw [len8at _ (by omega)]
   rw [e] at l ⊢
   rw [wrap64_nat (Lib.bitLen _) (by omega)]
   first | rw [wrap64_nat (Lib.bitLen _) (by omega)] | (rw [IntWalk.wrap64_in _ ⟨by omega, by omega⟩]; omega)
 · have l := Lib.bitLen_le8' x (by omega) (by omega)
   rw [len8at _ (by omega)]
   rw [wrap64_nat (Lib.bitLen _) (by omega)]
   first | rw [wrap64_nat (Lib.bitLen _) (by omega)] | (rw [IntWalk.wrap64_in _ ⟨by omega, by omega⟩]; omega)
theorem bitLen_le32 (x : Nat) (h : x < 4294967296) : Lib.bitLen x ≤ 32 := Lib.bitLen_le x 32 (by decide) h
theorem lz32_any (x : Int) (w : World) (h0 : 0 ≤ x) (h1 : x ≤ 4294967295) :
 Calls Tryz.prog 120 #[.int .u32 x] w fun e w' => e = .returned (.int .i64 (32 - (Lib.bitLen x.toNat : Int))) ∧ w = w' := by
 have l := bitLen_le32 x.toNat (by omega)
 go_enter Tryz.func120, Tryz.ntmps120
 go_wp2_with (go_at_call 139; refine (len32_any x _ h0 h1).mono ?_; rintro e w' ⟨rfl, rfl⟩)
 go_ret
 exact ⟨rfl, rfl⟩
def szN (xs : List Nat) : Nat := if xs.length = 0 then 0 else 32 * (xs.length - 1) + Lib.bitLen (nth xs (xs.length - 1))
def bitsN (xs : List Nat) : Int := if chk xs = 0 then (szN xs : Int) else 0
theorem szN_zero {xs : List Nat} (h : xs.length = 0) : szN xs = 0 := by unfold szN; rw [if_pos h]
theorem szN_pos {xs : List Nat} (h : xs.length ≠ 0) : szN xs = 32 * (xs.length - 1) + Lib.bitLen (nth xs (xs.length - 1)) := by unfold szN; rw [if_neg h]
theorem chk_zero_len {xs : List Nat} (h : chk xs = 0) : xs.length ≤ 16384 := by
 unfold chk at h
 split at h
 · cases h
 · omega
theorem natBits_any (ao : Option Addr) (n c : Nat) (xs : List Nat) (w : World) (h : Sl w ao n c xs) :
 Calls Tryz.prog 79 #[.agg #[.slice ao n c]] w fun e w' => e = .returned (.tuple #[.int .i64 (bitsN xs), .int .i64 (chk xs)]) ∧ Below w.heap.size w w' := by
 by_cases h0 : chk xs = 0
 · have h0b : (chk xs == 0) = true := by simp [h0]
   have h0c : (chk xs != 0) = false := by simp [h0]
   have hlen := chk_zero_len h0
   have hl := h.len
   by_cases hn : n = 0
   · have hk : bitsN xs = 0 := by unfold bitsN; rw [if_pos h0, szN_zero (by omega)]; rfl
     have Hk := Lib.hid hk
     have H0 := Lib.hid h0
     clear hk h0 hl
     subst hn
     go_enter Tryz.func79, Tryz.ntmps79
     go_wp2_with (go_at_call 67; refine (natCheck_any ao 0 c xs _ (h.alloc _)).mono ?_; rintro e w1 ⟨rfl, hb1⟩; obtain ⟨hc1, hf1⟩ := bcell hb1; have hz1 : w.heap.size < w1.heap.size := by have := hb1.size; simp at this; omega)
     go_ret2
     exact ⟨by rw [Hk.out, H0.out]; rfl, (by repeat (first | exact Below.refl _ _ | assumption | refine next ?_ (by assumption) | refine more ?_ _))⟩
   · obtain ⟨b, o, rfl, hb, hc⟩ := h.at_ (by omega)
     have hlt := nth_lt h.ok (n - 1)
     have hcell := hc (n - 1) (by omega)
     have hk : bitsN xs = 32 * (n : Int) - (32 - (Lib.bitLen (nth xs (n - 1)) : Int)) := by unfold bitsN; rw [if_pos h0, szN_pos (by omega), hl]; omega
     have hbl := bitLen_le32 _ hlt
     have hn1 : n ≤ 16384 := by omega
     have hn0 : 0 < n := by omega
     have Hk := Lib.hid hk
     have H0 := Lib.hid h0
     clear hk h0 hc hl
     have hbx : b < w.heap.size + 1 := by omega
     have hbz : ∀ w1 : World, w.heap.size < w1.heap.size → b < w1.heap.size := fun w1 _ => by omega
     go_enter Tryz.func79, Tryz.ntmps79
     go_wp2_with (first
      | (go_at_call 67; refine (natCheck_any _ n c xs _ (h.alloc _)).mono ?_; rintro e w1 ⟨rfl, hb1⟩; obtain ⟨hc1, hf1⟩ := bcell hb1; have hz1 : w.heap.size < w1.heap.size := by have := hb1.size; simp at this; omega)
      | (go_at_call 120; refine (lz32_any (nth xs (n - 1) : Int) _ (by omega) (by omega)).mono ?_; rintro e w2 ⟨rfl, rfl⟩))
     go_ret2
     exact ⟨by rw [Hk.out, H0.out]; rfl, (by repeat (first | exact Below.refl _ _ | assumption | refine next ?_ (by assumption) | refine more ?_ _))⟩
 · have h0b : (chk xs == 0) = false := by simp [h0]
   have h0c : (chk xs != 0) = true := by simp [h0]
   have hk : bitsN xs = 0 := by unfold bitsN; rw [if_neg h0]
   have Hk := Lib.hid hk
   clear hk
   go_enter Tryz.func79, Tryz.ntmps79
   go_wp2_with (go_at_call 67; refine (natCheck_any ao n c xs _ (h.alloc _)).mono ?_; rintro e w1 ⟨rfl, hb1⟩)
   go_ret2
   exact ⟨by rw [Hk.out]; rfl, (by repeat (first | exact Below.refl _ _ | assumption | refine next ?_ (by assumption) | refine more ?_ _))⟩
theorem u64_zero_or (a : Nat) (ha : a < 18446744073709551616) : bits .or .u64 0 (a : Int) = (a : Int) := by
 have h1 : (BitVec.ofInt 64 (a : Int)).toNat = a := by
  rw [BitVec.ofInt_natCast, BitVec.toNat_ofNat]; exact Nat.mod_eq_of_lt (by omega)
 show IntKind.u64.wrap ((BitVec.ofInt 64 0 ||| BitVec.ofInt 64 (a : Int)).toNat : Int) = _
 rw [BitVec.toNat_or, h1, show (BitVec.ofInt 64 0).toNat = 0 from rfl, Nat.zero_or, IntKind.wrap_u64]
 omega
theorem u64_or_high (a y : Nat) (ha : a < 4294967296) (hy : y < 4294967296) : bits .or .u64 (a : Int) ((y : Int) * 4294967296) = ((a + 4294967296 * y : Nat) : Int) := by
 have h1 : (BitVec.ofInt 64 (a : Int)).toNat = a := by
  rw [BitVec.ofInt_natCast, BitVec.toNat_ofNat]; exact Nat.mod_eq_of_lt (by omega)
 have h2 : (BitVec.ofInt 64 ((y : Int) * 4294967296)).toNat = 2 ^ 32 * y := by
  rw [show ((y : Int) * 4294967296) = ((y * 4294967296 : Nat) : Int) by omega, BitVec.ofInt_natCast, BitVec.toNat_ofNat, Nat.mod_eq_of_lt (by omega)]; omega
 show IntKind.u64.wrap ((BitVec.ofInt 64 (a : Int) ||| BitVec.ofInt 64 ((y : Int) * 4294967296)).toNat : Int) = _
 rw [BitVec.toNat_or, h1, h2, Nat.or_comm, ← Nat.two_pow_add_eq_or_of_lt (show a < 2 ^ 32 by omega), IntKind.wrap_u64]
 omega
end Go.Proofs.YtpmncmglmobjoaaGreatDoor
namespace Go.Lb
open Go.RowKit
structure Fr (e : TypeId) (w : World) (base : Nat) (ao : Option Addr) (n c : Nat) (xs : List Nat) : Prop where
 sl : Sl w ao n c xs
 blk : (ao = none ∧ n = 0 ∧ c = 0) ∨ ∃ g cur, ao = some ⟨g, 0, none⟩ ∧ base ≤ g ∧ w.heap[g]? = some (.cells cur e (0, 0)) ∧ c ≤ cur.size
theorem sl_none (w : World) : Sl w none 0 0 [] := ⟨rfl, Nat.le_refl _, by decide, ok_nil, fun h => absurd h (by decide)⟩
theorem fr_nil (e : TypeId) (w : World) (base : Nat) : Fr e w base none 0 0 [] := ⟨sl_none w, .inl ⟨rfl, rfl, rfl⟩⟩
theorem Fr.other {e : TypeId} {w w' : World} {base : Nat} {ao : Option Addr} {n c : Nat} {xs : List Nat} (h : Fr e w base ao n c xs) (hs : w.heap.size ≤ w'.heap.size) (hk : ∀ k, base ≤ k → k < w.heap.size → w'.heap[k]? = w.heap[k]?) : Fr e w' base ao n c xs := by
 obtain ⟨h1, h2⟩ := h
 rcases h2 with ⟨rfl, rfl, rfl⟩ | ⟨g, cur, rfl, hg, hh, hc⟩
 · exact ⟨⟨h1.len, h1.le, h1.cap, h1.ok, fun hn => absurd hn (by decide)⟩, .inl ⟨rfl, rfl, rfl⟩⟩
 · have hl := (Array.getElem?_eq_some_iff.1 hh).1
   have hb := hk g hg hl
   refine ⟨⟨h1.len, h1.le, h1.cap, h1.ok, fun hn => ?_⟩, .inr ⟨g, cur, rfl, hg, hb.trans hh, hc⟩⟩
   obtain ⟨b, o, e1, _, hcell⟩ := h1.at_ hn
   cases e1
   exact ⟨g, 0, rfl, Nat.lt_of_lt_of_le hl hs, fun j hj => (World.cell?_of_block hb).trans (hcell j hj)⟩
theorem Fr.setCell {e : TypeId} {w : World} {base : Nat} {ao : Option Addr} {n c : Nat} {xs : List Nat} (h : Fr e w base ao n c xs) {p : Addr} (hp : p.block < base) (v : Value) : Fr e (w.setCell p v) base ao n c xs :=
 h.other (by simp) fun k hk _ => Below.heap_setCell w p v k (by omega)
theorem Fr.below {e : TypeId} {w w' : World} {base : Nat} {ao : Option Addr} {n c : Nat} {xs : List Nat} (h : Fr e w base ao n c xs) (hb : Below w.heap.size w w') : Fr e w' base ao n c xs := by
 refine ⟨h.sl.below hb, h.blk.imp id ?_⟩
 rintro ⟨g, cur, h1, h2, h3, h4⟩
 exact ⟨g, cur, h1, h2, (hb.block g (Array.getElem?_eq_some_iff.1 h3).1).trans h3, h4⟩
theorem Fr.drew {e : TypeId} {w : World} {base : Nat} {ao : Option Addr} {n c : Nat} {xs : List Nat} (h : Fr e w base ao n c xs) : Fr e w.drew base ao n c xs := ⟨h.sl.drew, h.blk⟩
theorem Fr.alloc {e : TypeId} {w : World} {base : Nat} {ao : Option Addr} {n c : Nat} {xs : List Nat} (h : Fr e w base ao n c xs) (o : Obj) : Fr e (w.alloc o) base ao n c xs :=
 h.below ((Below.refl _ _).alloc (Nat.le_refl _) o)
theorem Fr.mono {e : TypeId} {w : World} {base base' : Nat} {ao : Option Addr} {n c : Nat} {xs : List Nat} (h : Fr e w base ao n c xs) (hb : base' ≤ base) : Fr e w base' ao n c xs :=
 ⟨h.sl, h.blk.imp id fun ⟨g, cur, h1, h2, h3⟩ => ⟨g, cur, h1, Nat.le_trans hb h2, h3⟩⟩
theorem fr_own {w : World} {base e g n cap : Nat} {ys : List Nat} (h : w.ownsRow base e 1 (.slice (some ⟨g, 0, none⟩) n cap) n (lvs ys)) (hok : Ok ys) {k c : Nat} (hk : k ≤ n) (hkc : k ≤ c) (hc : c ≤ cap) : Fr e w base (some ⟨g, 0, none⟩) k c (ys.take k) := by
 have hl : ys.length = n := by have := h.1; simpa [lvs] using this
 obtain ⟨c1, c2⟩ := own_cap h
 refine ⟨⟨by rw [List.length_take]; omega, hkc, by omega, ok_take hok k, fun _ => ⟨g, 0, rfl, (h.lt g rfl).2, fun j hj => ?_⟩⟩, .inr ?_⟩
 · rw [Nat.zero_add, own_cell h (by omega)]
   unfold nth
   rw [List.getD_eq_getElem?_getD, List.getD_eq_getElem?_getD, List.getElem?_take, if_pos hj]
 · rcases h.2 with ⟨h', _⟩ | ⟨g', cap', cur, h', hb, hh, _, _, hs, _⟩
   · cases h'
   · cases h'
     exact ⟨g, cur, rfl, hb, hh, by omega⟩
theorem own_sl {w : World} {base e g n cap : Nat} {ys : List Nat} (h : w.ownsRow base e 1 (.slice (some ⟨g, 0, none⟩) n cap) n (lvs ys)) (hok : Ok ys) : Sl w (some ⟨g, 0, none⟩) n cap ys := by
 have hl : ys.length = n := by have := h.1; simpa [lvs] using this
 have := (fr_own (k := n) (c := cap) h hok (Nat.le_refl _) (own_cap h).1 (Nat.le_refl _)).sl
 rw [List.take_of_length_le (by omega)] at this
 exact this
theorem fr_own_any {w : World} {base e n : Nat} {v : Value} {ys : List Nat} (h : w.ownsRow base e 1 v n (lvs ys)) (hok : Ok ys) : ∃ ao c, v = .slice ao n c ∧ Fr e w base ao n c ys := by
 rcases h.2 with ⟨rfl, rfl⟩ | ⟨g, cap, cur, rfl, hb, hh, h1, h2, hs, ht⟩
 · have : ys = [] := by have := h.1; simpa [lvs] using this
   subst this
   exact ⟨none, 0, rfl, fr_nil _ _ _⟩
 · have hl : ys.length = n := by have := h.1; simpa [lvs] using this
   have := fr_own (k := n) (c := cap) h hok (Nat.le_refl _) h1 (Nat.le_refl _)
   rw [List.take_of_length_le (by omega)] at this
   exact ⟨_, _, rfl, this⟩
theorem Sl.drop {w : World} {b o n c : Nat} {xs : List Nat} (h : Sl w (some ⟨b, o, none⟩) n c xs) {i : Nat} (hi : i < n) : Sl w (some ⟨b, o + i, none⟩) (n - i) (c - i) (xs.drop i) := by
 obtain ⟨b', o', e, hb, hc⟩ := h.at_ (by omega)
 cases e
 refine ⟨by rw [List.length_drop, h.len], by have := h.le; omega, by have := h.cap; omega, ok_drop h.ok i, fun _ => ⟨b, o + i, rfl, hb, fun j hj => ?_⟩⟩
 rw [Nat.add_assoc, hc (i + j) (by omega)]
 unfold nth
 rw [List.getD_eq_getElem?_getD, List.getD_eq_getElem?_getD, List.getElem?_drop]
structure Box1 (w : World) (b : Nat) (u : Value) : Prop where
 c0 : w.cell? ⟨b, 0, none⟩ = some u
 z0 : w.frozen? ⟨b, 0, none⟩ = false
structure Box3 (w : World) (b : Nat) (u v x : Value) : Prop where
 c0 : w.cell? ⟨b, 0, none⟩ = some u
 c1 : w.cell? ⟨b, 1, none⟩ = some v
 c2 : w.cell? ⟨b, 2, none⟩ = some x
 z0 : w.frozen? ⟨b, 0, none⟩ = false
 z1 : w.frozen? ⟨b, 1, none⟩ = false
 z2 : w.frozen? ⟨b, 2, none⟩ = false
theorem Box1.stay {wp w' : World} {b : Nat} {u : Value} (h : Box1 wp b u) (k : Below wp.heap.size wp w') : Box1 w' b u := ⟨(cfStay ⟨h.c0, h.z0⟩ k).1, (cfStay ⟨h.c0, h.z0⟩ k).2⟩
theorem Box1.alloc {w : World} {b : Nat} {u : Value} (h : Box1 w b u) (o : Obj) : Box1 (w.alloc o) b u := h.stay ((Below.refl _ _).alloc (Nat.le_refl _) o)
theorem Box1.lt {w : World} {b : Nat} {u : Value} (h : Box1 w b u) : b < w.heap.size := World.block_lt_of_cell? w ⟨b, 0, none⟩ h.c0
theorem box1_new (w : World) (u : Value) (t : TypeId) : Box1 (w.alloc (.cells #[u] t)) w.heap.size u := ⟨by simp, by simp [go_sem]⟩
theorem Box1.set {w : World} {b : Nat} {u : Value} (h : Box1 w b u) (v : Value) : (w.setCell ⟨b, 0, none⟩ v).cell? ⟨b, 0, none⟩ = some v := World.cell?_setCell_same _ _ _ h.c0
theorem Box3.stay {wp w' : World} {b : Nat} {u v x : Value} (h : Box3 wp b u v x) (k : Below wp.heap.size wp w') : Box3 w' b u v x :=
 ⟨(cfStay ⟨h.c0, h.z0⟩ k).1, (cfStay ⟨h.c1, h.z1⟩ k).1, (cfStay ⟨h.c2, h.z2⟩ k).1, (cfStay ⟨h.c0, h.z0⟩ k).2, (cfStay ⟨h.c1, h.z1⟩ k).2, (cfStay ⟨h.c2, h.z2⟩ k).2⟩
theorem Box3.alloc {w : World} {b : Nat} {u v x : Value} (h : Box3 w b u v x) (o : Obj) : Box3 (w.alloc o) b u v x := h.stay ((Below.refl _ _).alloc (Nat.le_refl _) o)
theorem Box3.lt {w : World} {b : Nat} {u v x : Value} (h : Box3 w b u v x) : b < w.heap.size := World.block_lt_of_cell? w ⟨b, 0, none⟩ h.c0
theorem box3_new (w : World) (u v x : Value) (t : TypeId) : Box3 (w.alloc (.cells #[u, v, x] t)) w.heap.size u v x := ⟨by simp, by simp, by simp, by simp [go_sem], by simp [go_sem], by simp [go_sem]⟩
theorem Box3.set {w : World} {b : Nat} {u v x : Value} (h : Box3 w b u v x) (p q r : Value) :
 (((w.setCell ⟨b, 0, none⟩ p).setCell ⟨b, 1, none⟩ q).setCell ⟨b, 2, none⟩ r).cell? ⟨b, 0, none⟩ = some p ∧
 (((w.setCell ⟨b, 0, none⟩ p).setCell ⟨b, 1, none⟩ q).setCell ⟨b, 2, none⟩ r).cell? ⟨b, 1, none⟩ = some q ∧
 (((w.setCell ⟨b, 0, none⟩ p).setCell ⟨b, 1, none⟩ q).setCell ⟨b, 2, none⟩ r).cell? ⟨b, 2, none⟩ = some r := set3 p q r h.c0 h.c1 h.c2
structure Box2 (w : World) (b : Nat) (u v : Value) : Prop where
 c0 : w.cell? ⟨b, 0, none⟩ = some u
 c1 : w.cell? ⟨b, 1, none⟩ = some v
theorem Box2.stay {wp w' : World} {b : Nat} {u v : Value} (h : Box2 wp b u v) (k : Below wp.heap.size wp w') : Box2 w' b u v := ⟨cellStay h.c0 k, cellStay h.c1 k⟩
theorem Box2.alloc {w : World} {b : Nat} {u v : Value} (h : Box2 w b u v) (o : Obj) : Box2 (w.alloc o) b u v := h.stay ((Below.refl _ _).alloc (Nat.le_refl _) o)
theorem Box2.lt {w : World} {b : Nat} {u v : Value} (h : Box2 w b u v) : b < w.heap.size := World.block_lt_of_cell? w ⟨b, 0, none⟩ h.c0
theorem box2_new (w : World) (u v : Value) (t : TypeId) : Box2 (w.alloc (.cells #[u, v] t)) w.heap.size u v := ⟨by simp, by simp⟩
def cellOf (w : World) (b j : Nat) : Value := (w.cell? ⟨b, j, none⟩).getD undef
theorem cellOf_of {w : World} {b j : Nat} {u : Value} (h : w.cell? ⟨b, j, none⟩ = some u) : w.cell? ⟨b, j, none⟩ = some (cellOf w b j) := by
 unfold cellOf
 rw [h]
 rfl
structure Res3 (w : World) (b : Nat) : Prop where
 c0 : w.cell? ⟨b, 0, none⟩ = some (cellOf w b 0)
 c1 : w.cell? ⟨b, 1, none⟩ = some (cellOf w b 1)
 c2 : w.cell? ⟨b, 2, none⟩ = some (cellOf w b 2)
 z0 : w.frozen? ⟨b, 0, none⟩ = false
 z1 : w.frozen? ⟨b, 1, none⟩ = false
 z2 : w.frozen? ⟨b, 2, none⟩ = false
theorem Box3.res {w : World} {b : Nat} {u v x : Value} (h : Box3 w b u v x) : Res3 w b := ⟨cellOf_of h.c0, cellOf_of h.c1, cellOf_of h.c2, h.z0, h.z1, h.z2⟩
theorem Res3.box {w : World} {b : Nat} (h : Res3 w b) : Box3 w b (cellOf w b 0) (cellOf w b 1) (cellOf w b 2) := ⟨h.c0, h.c1, h.c2, h.z0, h.z1, h.z2⟩
theorem Res3.stay {wp w' : World} {b : Nat} (h : Res3 wp b) (k : Below wp.heap.size wp w') : Res3 w' b := (h.box.stay k).res
theorem Res3.drew {w : World} {b : Nat} (h : Res3 w b) : Res3 w.drew b := h.stay ((Below.refl _ _).drew)
theorem Res3.set {w : World} {b : Nat} (h : Res3 w b) (p q r : Value) : Res3 (((w.setCell ⟨b, 0, none⟩ p).setCell ⟨b, 1, none⟩ q).setCell ⟨b, 2, none⟩ r) b := by
 obtain ⟨t0, t1, t2⟩ := h.box.set p q r
 exact ⟨cellOf_of t0, cellOf_of t1, cellOf_of t2, by simp [h.z0], by simp [h.z1], by simp [h.z2]⟩
theorem cell_set3 {w : World} {b p j : Nat} (hne : p ≠ b) (u v x : Value) : (((w.setCell ⟨b, 0, none⟩ u).setCell ⟨b, 1, none⟩ v).setCell ⟨b, 2, none⟩ x).cell? ⟨p, j, none⟩ = w.cell? ⟨p, j, none⟩ := by
 have hn : ∀ i : Nat, (⟨b, i, none⟩ : Addr) ≠ ⟨p, j, none⟩ := fun i e => hne (congrArg Addr.block e).symm
 rw [World.cell?_setCell_other _ _ _ _ (hn 2), World.cell?_setCell_other _ _ _ _ (hn 1), World.cell?_setCell_other _ _ _ _ (hn 0)]
end Go.Lb
