/-
  The walks of nat's small functions: Check, Bits, Low (they only read). The walks of the small readers of numbers: the reference's Check, none, far; exact.Check and the reference's. The walks of math/bits.Len32 and LeadingZeros32, over the library's own text. The walks of Bits and Low, of the program and of the reference, and of the reference's size and limb. The walks of the reference's Bits, limb and Low, and of nat.Low.
-/
import Derived.Test.YtfjgmpfpadfknaaGreatDoorRows
import Derived.Test.YtfjgmpfpadfknaaGreatDoorQbNBase
import Derived.Lib.BitFns
import Derived.Handy
import Derived.Lib.Strings
import Derived.Lib.Slices
import Derived.Lib.Small
import Derived.Lib.Walk
set_option maxHeartbeats 4000000
set_option maxRecDepth 100000
namespace Go.Proofs.YtfjgmpfpadfknaaGreatDoor
open Go.RowKit Go.Lb
def chk (xs : List Nat) : Int := if 16384 < xs.length then 4 else if 0 < xs.length ∧ nth xs (xs.length - 1) = 0 then 10 else 0
theorem natCheck_any (ao : Option Addr) (n c : Nat) (xs : List Nat) (w : World) (h : Sl w ao n c xs) :
 Calls Tryz.prog 116 #[.agg #[.slice ao n c]] w fun e w' => e = .returned (.int .i64 (chk xs)) ∧ Below w.heap.size w w' := by
 have hl := h.len
 have hle := h.le
 have hcap := h.cap
 by_cases h1 : 16384 < n
 · have hk : chk xs = 4 := by unfold chk; rw [if_pos (by omega)]
   have Hk := Lib.hid hk
   clear h hl hk
   go_enter Tryz.func116, Tryz.ntmps116
   go_wp2
   go_ret
   exact ⟨by rw [Hk.out]; rfl, (Below.refl _ _).alloc (Nat.le_refl _) _⟩
 · by_cases h0 : n = 0
   · have hk : chk xs = 0 := by unfold chk; rw [if_neg (by omega), if_neg (by omega)]
     have Hk := Lib.hid hk
     clear h hl hk
     subst h0
     go_enter Tryz.func116, Tryz.ntmps116
     go_wp2
     go_ret
     exact ⟨by rw [Hk.out]; rfl, (Below.refl _ _).alloc (Nat.le_refl _) _⟩
   · obtain ⟨b, o, rfl, hb, hc⟩ := h.at_ (by omega)
     have hcell := hc (n - 1) (by omega)
     by_cases h2 : nth xs (n - 1) = 0
     · have hk : chk xs = 10 := by unfold chk; rw [if_neg (by omega), if_pos ⟨by omega, by rw [hl]; exact h2⟩]
       have Hk := Lib.hid hk
       rw [h2] at hcell
       clear h hl hk hc h2
       go_enter Tryz.func116, Tryz.ntmps116
       go_wp2
       go_ret
       exact ⟨by rw [Hk.out]; rfl, (Below.refl _ _).alloc (Nat.le_refl _) _⟩
     · have hk : chk xs = 0 := by unfold chk; rw [if_neg (by omega), if_neg (by rw [hl]; exact fun x => h2 x.2)]
       have Hk := Lib.hid hk
       clear h hl hk hc
       go_enter Tryz.func116, Tryz.ntmps116
       go_wp2
       go_ret
       exact ⟨by rw [Hk.out]; rfl, (Below.refl _ _).alloc (Nat.le_refl _) _⟩
theorem refCheck_any (ao : Option Addr) (n c : Nat) (xs : List Nat) (w : World) (h : Sl w ao n c xs) :
 Calls Tryz.prog 178 #[.agg #[.slice ao n c]] w fun e w' => e = .returned (.int .i64 (chk xs)) ∧ Below w.heap.size w w' := by
 have hl := h.len
 have hle := h.le
 have hcap := h.cap
 by_cases h1 : 16384 < n
 · have hk : chk xs = 4 := by unfold chk; rw [if_pos (by omega)]
   have Hk := Lib.hid hk
   clear h hl hk
   go_enter Tryz.func178, Tryz.ntmps178
   go_wp2
   go_ret
   exact ⟨by rw [Hk.out]; rfl, (Below.refl _ _).alloc (Nat.le_refl _) _⟩
 · by_cases h0 : n = 0
   · have hk : chk xs = 0 := by unfold chk; rw [if_neg (by omega), if_neg (by omega)]
     have Hk := Lib.hid hk
     clear h hl hk
     subst h0
     go_enter Tryz.func178, Tryz.ntmps178
     go_wp2
     go_ret
     exact ⟨by rw [Hk.out]; rfl, (Below.refl _ _).alloc (Nat.le_refl _) _⟩
   · obtain ⟨b, o, rfl, hb, hc⟩ := h.at_ (by omega)
     have hcell := hc (n - 1) (by omega)
     by_cases h2 : nth xs (n - 1) = 0
     · have hk : chk xs = 10 := by unfold chk; rw [if_neg (by omega), if_pos ⟨by omega, by rw [hl]; exact h2⟩]
       have Hk := Lib.hid hk
       rw [h2] at hcell
       clear h hl hk hc h2
       go_enter Tryz.func178, Tryz.ntmps178
       go_wp2
       go_ret
       exact ⟨by rw [Hk.out]; rfl, (Below.refl _ _).alloc (Nat.le_refl _) _⟩
     · have hk : chk xs = 0 := by unfold chk; rw [if_neg (by omega), if_neg (by rw [hl]; exact fun x => h2 x.2)]
       have Hk := Lib.hid hk
       clear h hl hk hc
       go_enter Tryz.func178, Tryz.ntmps178
       go_wp2
       go_ret
       exact ⟨by rw [Hk.out]; rfl, (Below.refl _ _).alloc (Nat.le_refl _) _⟩
def noneB (n : Nat) : Bool := decide (n = 0)
theorem none_any (ao : Option Addr) (n c : Nat) (w : World) :
 Calls Tryz.prog 117 #[.agg #[.slice ao n c]] w fun e w' => e = .returned (.bool (noneB n)) ∧ Below w.heap.size w w' := by
 have e : noneB n = ((n : Int) == 0) := by unfold noneB; rw [Bool.eq_iff_iff]; simp
 have E := Lib.hid e
 clear e
 go_enter Tryz.func117, Tryz.ntmps117
 go_wp2
 go_ret
 exact ⟨by rw [E.out]; rfl, (Below.refl _ _).alloc (Nat.le_refl _) _⟩
theorem refNone_any (ao : Option Addr) (n c : Nat) (w : World) :
 Calls Tryz.prog 166 #[.agg #[.slice ao n c]] w fun e w' => e = .returned (.bool (noneB n)) ∧ Below w.heap.size w w' := by
 have e : noneB n = ((n : Int) == 0) := by unfold noneB; rw [Bool.eq_iff_iff]; simp
 have E := Lib.hid e
 clear e
 go_enter Tryz.func166, Tryz.ntmps166
 go_wp2
 go_ret
 exact ⟨by rw [E.out]; rfl, (Below.refl _ _).alloc (Nat.le_refl _) _⟩
def farB (e : Int) : Bool := decide (e < -1073741824 ∨ 1073741824 < e)
theorem far_any (x : Int) (w : World) :
 Calls Tryz.prog 119 #[.int .i64 x] w fun e w' => e = .returned (.bool (farB x)) ∧ Below w.heap.size w w' := by
 have e : farB x = (decide (x < -1073741824) || decide (1073741824 < x)) := by unfold farB; rw [Bool.eq_iff_iff]; simp
 have E := Lib.hid e
 clear e
 by_cases h : x < -1073741824
 all_goals
  go_enter Tryz.func119, Tryz.ntmps119
  go_wp2
  go_ret
  exact ⟨by rw [E.out]; first | (simp [h]; done) | (simp; omega), Below.refl _ _⟩
theorem refFar_any (x : Int) (w : World) :
 Calls Tryz.prog 180 #[.int .i64 x] w fun e w' => e = .returned (.bool (farB x)) ∧ Below w.heap.size w w' := by
 have e : farB x = (decide (x < -1073741824) || decide (1073741824 < x)) := by unfold farB; rw [Bool.eq_iff_iff]; simp
 have E := Lib.hid e
 clear e
 by_cases h : x < -1073741824
 all_goals
  go_enter Tryz.func180, Tryz.ntmps180
  go_wp2
  go_ret
  exact ⟨by rw [E.out]; first | (simp [h]; done) | (simp; omega), Below.refl _ _⟩
def dchk (neg : Bool) (xs : List Nat) (x : Int) : Int :=
 if chk xs ≠ 0 then chk xs else if xs.length = 0 then (if neg = true ∨ x ≠ 0 then 40 else 0) else (if nth xs 0 % 2 = 0 ∨ farB x = true then 40 else 0)
theorem dyCheck_any (neg : Bool) (ao : Option Addr) (n c : Nat) (x : Int) (xs : List Nat) (w : World) (h : Sl w ao n c xs) :
 Calls Tryz.prog 104 #[.agg #[.bool neg, .slice ao n c, .int .i64 x]] w fun e w' => e = .returned (.int .i64 (dchk neg xs x)) ∧ Below w.heap.size w w' := by
 by_cases h0 : chk xs = 0
 · have h0b : (chk xs == 0) = true := by simp [h0]
   have h0c : (chk xs != 0) = false := by simp [h0]
   by_cases hn : n = 0
   · have hk : dchk neg xs x = if neg = true ∨ x ≠ 0 then 40 else 0 := by unfold dchk; rw [if_neg (by simp [h0]), if_pos (by rw [h.len]; exact hn)]
     have Hk := Lib.hid hk
     clear hk h0
     subst hn
     have hnb : noneB 0 = true := rfl
     go_enter Tryz.func104, Tryz.ntmps104
     go_wp2_with (first
      | (go_at_call 116; refine (natCheck_any ao 0 c xs _ (h.alloc _)).mono ?_; rintro e w1 ⟨rfl, hb1⟩; obtain ⟨hc1, hf1⟩ := bcell hb1; have hz1 : w.heap.size < w1.heap.size := by have := hb1.size; simp at this; omega)
      | (go_at_call 117; refine (none_any ao 0 c _).mono ?_; rintro e w2 ⟨rfl, hb2⟩; obtain ⟨hc2, hf2⟩ := bcell hb2; have hz2 : w.heap.size < w2.heap.size := by have := hb2.size; omega))
     all_goals (go_ret; refine ⟨?_, (by repeat (first | exact Below.refl _ _ | assumption | refine next ?_ (by assumption) | refine more ?_ _))⟩; rw [Hk.out]; clear Hk; simp_all; done)
   · obtain ⟨b, o, rfl, hb, hc⟩ := h.at_ (by omega)
     have hlt := nth_lt h.ok 0
     have hcell : w.cell? ⟨b, o, none⟩ = some (.int .u32 (nth xs 0 : Int)) := by simpa using hc 0 (by omega)
     have hnb : noneB n = false := by unfold noneB; simp [hn]
     have hk : dchk neg xs x = if nth xs 0 % 2 = 0 ∨ farB x = true then 40 else 0 := by unfold dchk; rw [if_neg (by simp [h0]), if_neg (by rw [h.len]; exact hn)]
     have Hk := Lib.hid hk
     clear hk h0 hc
     have hbx : b < w.heap.size + 1 := by omega
     have hbz : ∀ w1 : World, w.heap.size < w1.heap.size → b < w1.heap.size := fun w1 _ => by omega
     by_cases h2 : nth xs 0 % 2 = 0
     · have Hk := Lib.hid (Hk.out.trans (if_pos (Or.inl h2)))
       have h3 := Lib.hid h2
       clear h2
       have hand : bits BinOp.and IntKind.u32 (nth xs 0 : Int) 1 = 0 := by rw [u32_and_one _ hlt, h3.out]; rfl
       go_enter Tryz.func104, Tryz.ntmps104
       go_wp2_with (first
        | (go_at_call 116; refine (natCheck_any _ n c xs _ (h.alloc _)).mono ?_; rintro e w1 ⟨rfl, hb1⟩; obtain ⟨hc1, hf1⟩ := bcell hb1; have hz1 : w.heap.size < w1.heap.size := by have := hb1.size; simp at this; omega)
        | (go_at_call 117; refine (none_any _ n c _).mono ?_; rintro e w2 ⟨rfl, hb2⟩; obtain ⟨hc2, hf2⟩ := bcell hb2; have hz2 : w.heap.size < w2.heap.size := by have := hb2.size; omega)
        | (go_at_call 119; refine (far_any x _).mono ?_; rintro e w3 ⟨rfl, hb3⟩))
       all_goals (go_ret; refine ⟨?_, (by repeat (first | exact Below.refl _ _ | assumption | refine next ?_ (by assumption) | refine more ?_ _))⟩; rw [Hk.out]; clear Hk; simp_all; done)
     · have Hk : Hid (dchk neg xs x = if farB x = true then 40 else 0) := Lib.hid (Hk.out.trans (by simp [h2]))
       have h3 := Lib.hid h2
       clear h2
       have hand : bits BinOp.and IntKind.u32 (nth xs 0 : Int) 1 = 1 := by have := h3.out; rw [u32_and_one _ hlt]; omega
       go_enter Tryz.func104, Tryz.ntmps104
       go_wp2_with (first
        | (go_at_call 116; refine (natCheck_any _ n c xs _ (h.alloc _)).mono ?_; rintro e w1 ⟨rfl, hb1⟩; obtain ⟨hc1, hf1⟩ := bcell hb1; have hz1 : w.heap.size < w1.heap.size := by have := hb1.size; simp at this; omega)
        | (go_at_call 117; refine (none_any _ n c _).mono ?_; rintro e w2 ⟨rfl, hb2⟩; obtain ⟨hc2, hf2⟩ := bcell hb2; have hz2 : w.heap.size < w2.heap.size := by have := hb2.size; omega)
        | (go_at_call 119; refine (far_any x _).mono ?_; rintro e w3 ⟨rfl, hb3⟩))
       all_goals (go_ret; refine ⟨?_, (by repeat (first | exact Below.refl _ _ | assumption | refine next ?_ (by assumption) | refine more ?_ _))⟩; rw [Hk.out]; clear Hk; simp_all; done)
 · have h0b : (chk xs == 0) = false := by simp [h0]
   have h0c : (chk xs != 0) = true := by simp [h0]
   have hk : dchk neg xs x = chk xs := by unfold dchk; rw [if_pos h0]
   have Hk := Lib.hid hk
   clear hk
   go_enter Tryz.func104, Tryz.ntmps104
   go_wp2_with (go_at_call 116; refine (natCheck_any ao n c xs _ (h.alloc _)).mono ?_; rintro e w1 ⟨rfl, hb1⟩; obtain ⟨hc1, hf1⟩ := bcell hb1; have hz1 : w.heap.size < w1.heap.size := by have := hb1.size; simp at this; omega)
   go_ret
   exact ⟨by rw [Hk.out]; rfl, (by repeat (first | exact Below.refl _ _ | assumption | refine next ?_ (by assumption) | refine more ?_ _))⟩
theorem refDyCheck_any (neg : Bool) (ao : Option Addr) (n c : Nat) (x : Int) (xs : List Nat) (w : World) (h : Sl w ao n c xs) :
 Calls Tryz.prog 173 #[.agg #[.bool neg, .slice ao n c, .int .i64 x]] w fun e w' => e = .returned (.int .i64 (dchk neg xs x)) ∧ Below w.heap.size w w' := by
 by_cases h0 : chk xs = 0
 · have h0b : (chk xs == 0) = true := by simp [h0]
   have h0c : (chk xs != 0) = false := by simp [h0]
   by_cases hn : n = 0
   · have hk : dchk neg xs x = if neg = true ∨ x ≠ 0 then 40 else 0 := by unfold dchk; rw [if_neg (by simp [h0]), if_pos (by rw [h.len]; exact hn)]
     have Hk := Lib.hid hk
     clear hk h0
     subst hn
     have hnb : noneB 0 = true := rfl
     go_enter Tryz.func173, Tryz.ntmps173
     go_wp2_with (first
      | (go_at_call 178; refine (refCheck_any ao 0 c xs _ (h.alloc _)).mono ?_; rintro e w1 ⟨rfl, hb1⟩; obtain ⟨hc1, hf1⟩ := bcell hb1; have hz1 : w.heap.size < w1.heap.size := by have := hb1.size; simp at this; omega)
      | (go_at_call 166; refine (refNone_any ao 0 c _).mono ?_; rintro e w2 ⟨rfl, hb2⟩; obtain ⟨hc2, hf2⟩ := bcell hb2; have hz2 : w.heap.size < w2.heap.size := by have := hb2.size; omega))
     all_goals (go_ret; refine ⟨?_, (by repeat (first | exact Below.refl _ _ | assumption | refine next ?_ (by assumption) | refine more ?_ _))⟩; rw [Hk.out]; clear Hk; simp_all; done)
   · obtain ⟨b, o, rfl, hb, hc⟩ := h.at_ (by omega)
     have hlt := nth_lt h.ok 0
     have hcell : w.cell? ⟨b, o, none⟩ = some (.int .u32 (nth xs 0 : Int)) := by simpa using hc 0 (by omega)
     have hnb : noneB n = false := by unfold noneB; simp [hn]
     have hk : dchk neg xs x = if nth xs 0 % 2 = 0 ∨ farB x = true then 40 else 0 := by unfold dchk; rw [if_neg (by simp [h0]), if_neg (by rw [h.len]; exact hn)]
     have Hk := Lib.hid hk
     clear hk h0 hc
     have hbx : b < w.heap.size + 1 := by omega
     have hbz : ∀ w1 : World, w.heap.size < w1.heap.size → b < w1.heap.size := fun w1 _ => by omega
     by_cases h2 : nth xs 0 % 2 = 0
     · have Hk := Lib.hid (Hk.out.trans (if_pos (Or.inl h2)))
       have h3 := Lib.hid h2
       clear h2
       have hand : (nth xs 0 : Int) % 2 = 0 := by have := h3.out; omega
       go_enter Tryz.func173, Tryz.ntmps173
       go_wp2_with (first
        | (go_at_call 178; refine (refCheck_any _ n c xs _ (h.alloc _)).mono ?_; rintro e w1 ⟨rfl, hb1⟩; obtain ⟨hc1, hf1⟩ := bcell hb1; have hz1 : w.heap.size < w1.heap.size := by have := hb1.size; simp at this; omega)
        | (go_at_call 166; refine (refNone_any _ n c _).mono ?_; rintro e w2 ⟨rfl, hb2⟩; obtain ⟨hc2, hf2⟩ := bcell hb2; have hz2 : w.heap.size < w2.heap.size := by have := hb2.size; omega)
        | (go_at_call 180; refine (refFar_any x _).mono ?_; rintro e w3 ⟨rfl, hb3⟩))
       all_goals (go_ret; refine ⟨?_, (by repeat (first | exact Below.refl _ _ | assumption | refine next ?_ (by assumption) | refine more ?_ _))⟩; rw [Hk.out]; clear Hk; simp_all; done)
     · have Hk : Hid (dchk neg xs x = if farB x = true then 40 else 0) := Lib.hid (Hk.out.trans (by simp [h2]))
       have h3 := Lib.hid h2
       clear h2
       have hand : (nth xs 0 : Int) % 2 = 1 := by have := h3.out; omega
       go_enter Tryz.func173, Tryz.ntmps173
       go_wp2_with (first
        | (go_at_call 178; refine (refCheck_any _ n c xs _ (h.alloc _)).mono ?_; rintro e w1 ⟨rfl, hb1⟩; obtain ⟨hc1, hf1⟩ := bcell hb1; have hz1 : w.heap.size < w1.heap.size := by have := hb1.size; simp at this; omega)
        | (go_at_call 166; refine (refNone_any _ n c _).mono ?_; rintro e w2 ⟨rfl, hb2⟩; obtain ⟨hc2, hf2⟩ := bcell hb2; have hz2 : w.heap.size < w2.heap.size := by have := hb2.size; omega)
        | (go_at_call 180; refine (refFar_any x _).mono ?_; rintro e w3 ⟨rfl, hb3⟩))
       all_goals (go_ret; refine ⟨?_, (by repeat (first | exact Below.refl _ _ | assumption | refine next ?_ (by assumption) | refine more ?_ _))⟩; rw [Hk.out]; clear Hk; simp_all; done)
 · have h0b : (chk xs == 0) = false := by simp [h0]
   have h0c : (chk xs != 0) = true := by simp [h0]
   have hk : dchk neg xs x = chk xs := by unfold dchk; rw [if_pos h0]
   have Hk := Lib.hid hk
   clear hk
   go_enter Tryz.func173, Tryz.ntmps173
   go_wp2_with (go_at_call 178; refine (refCheck_any ao n c xs _ (h.alloc _)).mono ?_; rintro e w1 ⟨rfl, hb1⟩; obtain ⟨hc1, hf1⟩ := bcell hb1; have hz1 : w.heap.size < w1.heap.size := by have := hb1.size; simp at this; omega)
   go_ret
   exact ⟨by rw [Hk.out]; rfl, (by repeat (first | exact Below.refl _ _ | assumption | refine next ?_ (by assumption) | refine more ?_ _))⟩
theorem len8fin : ∀ n : Fin 256, (Lib.len8tab[n.val]'(by rw [Lib.len8tab_size]; exact n.isLt)).toNat = Lib.bitLen n.val := by decide +kernel
theorem len8at (i : Nat) (h : i < 256) {h' : i < Lib.len8tab.size} : (Lib.len8tab[i]'h').toNat = Lib.bitLen i := len8fin ⟨i, h⟩
theorem len32_any (x : Int) (w : World) (h0 : 0 ≤ x) (h1 : x ≤ 4294967295) :
 Calls Tryz.prog 97 #[.int .u32 x] w fun e w' => e = .returned (.int .i64 (Lib.bitLen x.toNat)) ∧ w = w' := by
 have hs : Lib.len8tab.size = 256 := by decide +kernel
 go_enter Tryz.func97, Tryz.ntmps97
 go_wp2
 all_goals (go_ret; refine ⟨congrArg Ending.returned (congrArg (Value.int IntKind.i64) ?_), rfl⟩)
 · have e : (x / 65536 / 256).toNat = x.toNat / 16777216 := by omega
   have l := Lib.bitLen_le8' (x / 65536 / 256) (by omega) (by omega)
   have s := Lib.bitLen_shift24 x.toNat (by omega) (by omega)
   rw [len8at _ (by omega)]
   rw [e] at l ⊢
   rw [wrap64_nat (Lib.bitLen _) (by omega)]
   first | rw [wrap64_nat (Lib.bitLen _) (by omega)] | (rw [IntWalk.wrap64_in _ ⟨by omega, by omega⟩]; omega)
 · have e : (x / 65536).toNat = x.toNat / 65536 := by omega
   have l := Lib.bitLen_le8' (x / 65536) (by omega) (by omega)
   have s := Lib.bitLen_shift16 x.toNat (by omega) (by omega)
   rw [len8at _ (by omega)]
   rw [e] at l ⊢
   rw [wrap64_nat (Lib.bitLen _) (by omega)]
   first | rw [wrap64_nat (Lib.bitLen _) (by omega)] | (rw [IntWalk.wrap64_in _ ⟨by omega, by omega⟩]; omega)
 · have e : (x / 256).toNat = x.toNat / 256 := by omega
   have l := Lib.bitLen_le8' (x / 256) (by omega) (by omega)
   have s := Lib.bitLen_shift8 x.toNat (by omega) (by omega)
   rw [len8at _ (by omega)]
   rw [e] at l ⊢
   rw [wrap64_nat (Lib.bitLen _) (by omega)]
   first | rw [wrap64_nat (Lib.bitLen _) (by omega)] | (rw [IntWalk.wrap64_in _ ⟨by omega, by omega⟩]; omega)
 · have l := Lib.bitLen_le8' x (by omega) (by omega)
   rw [len8at _ (by omega)]
   rw [wrap64_nat (Lib.bitLen _) (by omega)]
   first | rw [wrap64_nat (Lib.bitLen _) (by omega)] | (rw [IntWalk.wrap64_in _ ⟨by omega, by omega⟩]; omega)
theorem bitLen_le32 (x : Nat) (h : x < 4294967296) : Lib.bitLen x ≤ 32 := Lib.bitLen_le x 32 (by decide) h
theorem lz32_any (x : Int) (w : World) (h0 : 0 ≤ x) (h1 : x ≤ 4294967295) :
 Calls Tryz.prog 207 #[.int .u32 x] w fun e w' => e = .returned (.int .i64 (32 - (Lib.bitLen x.toNat : Int))) ∧ w = w' := by
 have l := bitLen_le32 x.toNat (by omega)
 go_enter Tryz.func207, Tryz.ntmps207
 go_wp2_with (go_at_call 97; refine (len32_any x _ h0 h1).mono ?_; rintro e w' ⟨rfl, rfl⟩)
 go_ret
 exact ⟨rfl, rfl⟩
def szN (xs : List Nat) : Nat := if xs.length = 0 then 0 else 32 * (xs.length - 1) + Lib.bitLen (nth xs (xs.length - 1))
def bitsN (xs : List Nat) : Int := if chk xs = 0 then (szN xs : Int) else 0
theorem szN_zero {xs : List Nat} (h : xs.length = 0) : szN xs = 0 := by unfold szN; rw [if_pos h]
theorem szN_pos {xs : List Nat} (h : xs.length ≠ 0) : szN xs = 32 * (xs.length - 1) + Lib.bitLen (nth xs (xs.length - 1)) := by unfold szN; rw [if_neg h]
theorem chk_zero_len {xs : List Nat} (h : chk xs = 0) : xs.length ≤ 16384 := by
 unfold chk at h
 split at h
 · cases h
 · omega
theorem natBits_any (ao : Option Addr) (n c : Nat) (xs : List Nat) (w : World) (h : Sl w ao n c xs) :
 Calls Tryz.prog 159 #[.agg #[.slice ao n c]] w fun e w' => e = .returned (.tuple #[.int .i64 (bitsN xs), .int .i64 (chk xs)]) ∧ Below w.heap.size w w' := by
 by_cases h0 : chk xs = 0
 · have h0b : (chk xs == 0) = true := by simp [h0]
   have h0c : (chk xs != 0) = false := by simp [h0]
   have hlen := chk_zero_len h0
   have hl := h.len
   by_cases hn : n = 0
   · have hk : bitsN xs = 0 := by unfold bitsN; rw [if_pos h0, szN_zero (by omega)]; rfl
     have Hk := Lib.hid hk
     have H0 := Lib.hid h0
     clear hk h0 hl
     subst hn
     go_enter Tryz.func159, Tryz.ntmps159
     go_wp2_with (go_at_call 116; refine (natCheck_any ao 0 c xs _ (h.alloc _)).mono ?_; rintro e w1 ⟨rfl, hb1⟩; obtain ⟨hc1, hf1⟩ := bcell hb1; have hz1 : w.heap.size < w1.heap.size := by have := hb1.size; simp at this; omega)
     go_ret2
     exact ⟨by rw [Hk.out, H0.out]; rfl, (by repeat (first | exact Below.refl _ _ | assumption | refine next ?_ (by assumption) | refine more ?_ _))⟩
   · obtain ⟨b, o, rfl, hb, hc⟩ := h.at_ (by omega)
     have hlt := nth_lt h.ok (n - 1)
     have hcell := hc (n - 1) (by omega)
     have hk : bitsN xs = 32 * (n : Int) - (32 - (Lib.bitLen (nth xs (n - 1)) : Int)) := by unfold bitsN; rw [if_pos h0, szN_pos (by omega), hl]; omega
     have hbl := bitLen_le32 _ hlt
     have hn1 : n ≤ 16384 := by omega
     have hn0 : 0 < n := by omega
     have Hk := Lib.hid hk
     have H0 := Lib.hid h0
     clear hk h0 hc hl
     have hbx : b < w.heap.size + 1 := by omega
     have hbz : ∀ w1 : World, w.heap.size < w1.heap.size → b < w1.heap.size := fun w1 _ => by omega
     go_enter Tryz.func159, Tryz.ntmps159
     go_wp2_with (first
      | (go_at_call 116; refine (natCheck_any _ n c xs _ (h.alloc _)).mono ?_; rintro e w1 ⟨rfl, hb1⟩; obtain ⟨hc1, hf1⟩ := bcell hb1; have hz1 : w.heap.size < w1.heap.size := by have := hb1.size; simp at this; omega)
      | (go_at_call 207; refine (lz32_any (nth xs (n - 1) : Int) _ (by omega) (by omega)).mono ?_; rintro e w2 ⟨rfl, rfl⟩))
     go_ret2
     exact ⟨by rw [Hk.out, H0.out]; rfl, (by repeat (first | exact Below.refl _ _ | assumption | refine next ?_ (by assumption) | refine more ?_ _))⟩
 · have h0b : (chk xs == 0) = false := by simp [h0]
   have h0c : (chk xs != 0) = true := by simp [h0]
   have hk : bitsN xs = 0 := by unfold bitsN; rw [if_neg h0]
   have Hk := Lib.hid hk
   clear hk
   go_enter Tryz.func159, Tryz.ntmps159
   go_wp2_with (go_at_call 116; refine (natCheck_any ao n c xs _ (h.alloc _)).mono ?_; rintro e w1 ⟨rfl, hb1⟩)
   go_ret2
   exact ⟨by rw [Hk.out]; rfl, (by repeat (first | exact Below.refl _ _ | assumption | refine next ?_ (by assumption) | refine more ?_ _))⟩
theorem refSize_any (ao : Option Addr) (n c : Nat) (xs : List Nat) (w : World) (h : Sl w ao n c xs) (hsm : n ≤ 16384) :
 Calls Tryz.prog 209 #[.slice ao n c] w fun e w' => e = .returned (.int .i64 (szN xs)) ∧ Below w.heap.size w w' := by
 have hl := h.len
 by_cases hn : n = 0
 · have hk : szN xs = 0 := szN_zero (by omega)
   have Hk := Lib.hid hk
   clear hk hl
   subst hn
   go_enter Tryz.func209, Tryz.ntmps209
   go_wp2
   go_ret
   exact ⟨by rw [Hk.out]; rfl, Below.refl _ _⟩
 · obtain ⟨b, o, rfl, hb, hc⟩ := h.at_ (by omega)
   have hlt := nth_lt h.ok (n - 1)
   have hcell := hc (n - 1) (by omega)
   have hk := szN_pos (xs := xs) (by omega)
   rw [hl] at hk
   have Hk := Lib.hid hk
   obtain ⟨v0, hv0⟩ : ∃ v, v = nth xs (n - 1) := ⟨_, rfl⟩
   rw [← hv0] at hcell hlt
   have Hv := Lib.hid hv0
   clear hk hc hl hv0 h
   have hbl := bitLen_le32 _ hlt
   have hpos : 0 < n := by omega
   have hne : ((n : Int) == 0) = false := by simp; omega
   go_enter Tryz.func209, Tryz.ntmps209
   go_wp2
   go_loop [3, 4] (fun m v => ∃ k y : Nat, y < 4294967296 ∧ k ≤ 32 ∧ v = .int .u32 (y : Int) ∧ m = .int .i64 (32 * ((n : Int) - 1) + k) ∧ Hid (k + Lib.bitLen y = Lib.bitLen v0)) (fun _ v => (intOf v).toNat)
   case atStart => exact ⟨0, v0, hlt, by omega, rfl, by simp, Lib.hid (by simp)⟩
   case round =>
    obtain ⟨k, y, hy, hk, rfl, rfl, H⟩ := hrel
    by_cases hy0 : y = 0
    · subst hy0
      have hk2 : Lib.bitLen v0 = k := by have := H.out; have e : Lib.bitLen 0 = 0 := by decide
                                         omega
      have Hk2 := Lib.hid hk2
      clear hk2 H
      go_wp2
      go_ret
      exact ⟨by rw [Hk.out, ← Hv.out, Hk2.out]; simp; omega, Below.refl _ _⟩
    · have hyp : 0 < y := by omega
      have hh := Lib.bitLen_half y hy0 (by omega)
      have Hn := Lib.hid hh
      have hk31 : k < 32 := by have := H.out; omega
      clear hh
      go_wp2
      go_round
      case rel => exact ⟨k + 1, y / 2, by omega, by omega, by go_num, by go_num, Lib.hid (by have := H.out; have := Hn.out; omega)⟩
      case measure => simp [intOf]; omega
theorem nth_out {xs : List Nat} {i : Nat} (h : xs.length ≤ i) : nth xs i = 0 := by
 unfold nth; rw [List.getD_eq_getElem?_getD, List.getElem?_eq_none h]; rfl
theorem refLimb_any (ao : Option Addr) (n c i : Nat) (xs : List Nat) (w : World) (h : Sl w ao n c xs) :
 Calls Tryz.prog 233 #[.slice ao n c, .int .i64 i] w fun e w' => e = .returned (.int .u64 (nth xs i : Int)) ∧ w = w' := by
 by_cases hi : i < n
 · obtain ⟨b, o, rfl, hb, hc⟩ := h.at_ (by omega)
   have hlt := nth_lt h.ok i
   have hcell := hc i hi
   clear hc h
   go_enter Tryz.func233, Tryz.ntmps233
   go_wp2
   go_ret
   exact ⟨rfl, rfl⟩
 · have hk : nth xs i = 0 := nth_out (by rw [h.len]; omega)
   have Hk := Lib.hid hk
   clear hk h
   have hi' : n ≤ i := by omega
   go_enter Tryz.func233, Tryz.ntmps233
   go_wp2
   go_ret
   exact ⟨by rw [Hk.out]; rfl, rfl⟩
theorem u64_zero_or (a : Nat) (ha : a < 18446744073709551616) : bits .or .u64 0 (a : Int) = (a : Int) := by
 have h1 : (BitVec.ofInt 64 (a : Int)).toNat = a := by
  rw [BitVec.ofInt_natCast, BitVec.toNat_ofNat]; exact Nat.mod_eq_of_lt (by omega)
 show IntKind.u64.wrap ((BitVec.ofInt 64 0 ||| BitVec.ofInt 64 (a : Int)).toNat : Int) = _
 rw [BitVec.toNat_or, h1, show (BitVec.ofInt 64 0).toNat = 0 from rfl, Nat.zero_or, IntKind.wrap_u64]
 omega
theorem u64_or_high (a y : Nat) (ha : a < 4294967296) (hy : y < 4294967296) : bits .or .u64 (a : Int) ((y : Int) * 4294967296) = ((a + 4294967296 * y : Nat) : Int) := by
 have h1 : (BitVec.ofInt 64 (a : Int)).toNat = a := by
  rw [BitVec.ofInt_natCast, BitVec.toNat_ofNat]; exact Nat.mod_eq_of_lt (by omega)
 have h2 : (BitVec.ofInt 64 ((y : Int) * 4294967296)).toNat = 2 ^ 32 * y := by
  rw [show ((y : Int) * 4294967296) = ((y * 4294967296 : Nat) : Int) by omega, BitVec.ofInt_natCast, BitVec.toNat_ofNat, Nat.mod_eq_of_lt (by omega)]; omega
 show IntKind.u64.wrap ((BitVec.ofInt 64 (a : Int) ||| BitVec.ofInt 64 ((y : Int) * 4294967296)).toNat : Int) = _
 rw [BitVec.toNat_or, h1, h2, Nat.or_comm, ← Nat.two_pow_add_eq_or_of_lt (show a < 2 ^ 32 by omega), IntKind.wrap_u64]
 omega
end Go.Proofs.YtfjgmpfpadfknaaGreatDoor
