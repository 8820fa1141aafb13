/-
  Plain laws: what both texts of Bits compute: the float that is worth a number, if there is one. The walk of exact.Bits, a theorem for each way through it. The walk of exact.Bits, the ways on which there is a float.
-/
import Derived.Test.YteoceoepakfgiaaDoorNats
import Derived.Test.YteoceoepakfgiaaDoorSplits
import Derived.Lib.ItoaNum
namespace Go.Proofs.YteoceoepakfgiaaDoor
open Go.RowKit Go.Lb

theorem bitLen_bounds {x : Nat} (hx : x < 4294967296) (h0 : x ≠ 0) : 1 ≤ Lib.bitLen x ∧ pw (Lib.bitLen x - 1) ≤ x ∧ x < pw (Lib.bitLen x) := by
  unfold pw
  exact Lib.bitLenAux_bounds 64 x (by omega) h0

/-- A number of few bits: its two lowest limbs are all of it, and its highest bit is the one that its size tells. -/
theorem low_size {xs : List Nat} (hok : Ok xs) (hc : chk xs = 0) (hn : xs.length ≠ 0) (hs : szN xs ≤ 64) : 1 ≤ szN xs ∧ pw (szN xs - 1) ≤ lowN xs ∧ lowN xs < pw (szN xs) := by
  have htop : nth xs (xs.length - 1) ≠ 0 := by
    intro h
    unfold chk at hc
    split at hc
    · cases hc
    · rw [if_pos ⟨by omega, h⟩] at hc; cases hc
  obtain ⟨b1, b2, b3⟩ := bitLen_bounds (nth_lt hok _) htop
  have hsz := szN_pos hn
  have hl : xs.length ≤ 2 := by omega
  have hB : lowB xs = true := by unfold lowB; simp [hc, hl]
  have hm : lowN xs = nth xs 0 + 4294967296 * nth xs 1 := by unfold lowN; rw [if_pos hB]
  rcases (by omega : xs.length = 1 ∨ xs.length = 2) with h1 | h2
  · rw [h1] at hsz b1 b2 b3
    have h0 : nth xs 1 = 0 := nth_out (by omega)
    simp only [Nat.sub_self, Nat.mul_zero, Nat.zero_add] at hsz b1 b2 b3
    rw [hm, h0, hsz]
    exact ⟨b1, by omega, by omega⟩
  · rw [h2] at hsz b1 b2 b3
    simp only [show 2 - 1 = 1 from rfl, Nat.mul_one] at hsz b1 b2 b3
    have l0 := nth_lt hok 0
    rw [hm, hsz, show 32 + Lib.bitLen (nth xs 1) - 1 = 32 + (Lib.bitLen (nth xs 1) - 1) by omega, pw_add, pw_add, pw32]
    refine ⟨by omega, ?_, ?_⟩
    · have := Nat.mul_le_mul_left 4294967296 b2; omega
    · have : 4294967296 * (nth xs 1 + 1) ≤ 4294967296 * pw (Lib.bitLen (nth xs 1)) := Nat.mul_le_mul_left _ b3
      omega

/-- The bits of a number that is not nought, of s bits, the two lowest limbs m, the exponent x; whether there are any. -/
def bitsP (e f : Nat) (neg : Bool) (s m : Nat) (x : Int) : Nat × Bool :=
  if f + 1 < s then (0, false)
  else if 1 ≤ x + s - 1 + biasN e then
    (if 2 * (biasN e : Int) < x + s - 1 + biasN e then (0, false) else (joinN e f neg (x + s - 1 + biasN e).toNat (m * pw (f + 1 - s) - pw f), true))
  else if x < 1 - (biasN e : Int) - f then (0, false) else (joinN e f neg 0 (m * pw (x - (1 - (biasN e : Int) - f)).toNat), true)

/-- The whole answer. -/
def bitsV (e f : Int) (neg : Bool) (xs : List Nat) (x : Int) : Nat :=
  if formE e f ≠ 0 ∨ dchk neg xs x ≠ 0 ∨ xs.length = 0 then 0 else (bitsP e.toNat f.toNat neg (szN xs) (lowN xs) x).1
def bitsIs (e f : Int) (neg : Bool) (xs : List Nat) (x : Int) : Bool :=
  if formE e f ≠ 0 ∨ dchk neg xs x ≠ 0 then false else if xs.length = 0 then true else (bitsP e.toNat f.toNat neg (szN xs) (lowN xs) x).2
def bitsE (e f : Int) (neg : Bool) (xs : List Nat) (x : Int) : Int := if formE e f ≠ 0 then formE e f else dchk neg xs x

theorem shift_top {s m k f : Nat} (h1 : 1 ≤ s) (hlo : pw (s - 1) ≤ m) (hhi : m < pw s) (hk : k + s = f + 1) : pw f ≤ m * pw k ∧ m * pw k < pw (f + 1) := by
  have e1 : pw f = pw (s - 1) * pw k := by rw [← pw_add]; congr 1; omega
  have e2 : pw (f + 1) = pw s * pw k := by rw [← pw_add]; congr 1; omega
  rw [e1, e2]
  exact ⟨Nat.mul_le_mul_right _ hlo, Nat.mul_lt_mul_of_pos_right hhi (pw_pos k)⟩

theorem shift_low {s m k f : Nat} (hhi : m < pw s) (hk : k + s ≤ f) : m * pw k < pw f := by
  have : m * pw k < pw s * pw k := Nat.mul_lt_mul_of_pos_right hhi (pw_pos k)
  rw [← pw_add] at this
  exact Nat.lt_of_lt_of_le this (pw_le (by omega))

end Go.Proofs.YteoceoepakfgiaaDoor

namespace Go.Proofs.YteoceoepakfgiaaDoor
open Go.RowKit Go.Lb

theorem bsz {w wp w1 : World} (hb : Below wp.heap.size wp w1) (h1 : w.heap.size < wp.heap.size) (h2 : w.heap.size + 1 < wp.heap.size) : w.heap.size < w1.heap.size ∧ w.heap.size + 1 < w1.heap.size := ⟨Nat.lt_of_lt_of_le h1 hb.size, Nat.lt_of_lt_of_le h2 hb.size⟩

theorem pw_wrapI_fin : ∀ e : Fin 12, IntKind.i64.wrap (2 ^ e.val) = ((2 ^ e.val : Nat) : Int) := by decide +kernel
theorem pw_wrapI {e : Nat} (h : e ≤ 11) : IntKind.i64.wrap (2 ^ e) = (pw e : Int) := by unfold pw; exact pw_wrapI_fin ⟨e, by omega⟩

theorem boxA (w : World) (c : Array Value) (t : TypeId) (o2 : Obj) (i : Nat) : ((w.alloc (.cells c t)).alloc o2).cell? ⟨w.heap.size, i, none⟩ = c[i]? :=
  (World.cell?_alloc_lt (w.alloc (.cells c t)) o2 ⟨w.heap.size, i, none⟩ (by simp)).trans (World.cell?_alloc_new w c t i)
theorem boxB (w : World) (c : Array Value) (t : TypeId) (o : Obj) (i : Nat) : ((w.alloc o).alloc (.cells c t)).cell? ⟨w.heap.size + 1, i, none⟩ = c[i]? := by
  have h := World.cell?_alloc_new (w.alloc o) c t i
  rwa [World.size_alloc] at h

theorem pw_wrap_fin : ∀ e : Fin 12, wrap64 (2 ^ e.val) = ((2 ^ e.val : Nat) : Int) := by decide +kernel
theorem pw_wrap {e : Nat} (h : e ≤ 11) : wrap64 (2 ^ e) = (pw e : Int) := by unfold pw; exact pw_wrap_fin ⟨e, by omega⟩

set_option maxHeartbeats 1000000 in
theorem exBits_form (e f : Int) (neg : Bool) (ao : Option Addr) (n c : Nat) (x : Int) (xs : List Nat) (w : World) (h : Sl w ao n c xs) (h0 : formE e f ≠ 0) :
    Calls Tryd.prog 11 #[.agg #[.int .i64 e, .int .i64 f], .agg #[.bool neg, .slice ao n c, .int .i64 x]] w fun en w' => en = .returned (.tuple #[.int .u64 0, .bool false, .int .i64 (formE e f)]) ∧ Below w.heap.size w w' := by
  have h0b : (formE e f == 0) = false := by simp [h0]
  have h0c : (formE e f != 0) = true := by simp [h0]
  clear h0
  go_enter Tryd.func11, Tryd.ntmps11
  go_wp2_with (first
    | (go_at_call 27; refine (formCheck_any e f _).mono ?_; rintro en w1 ⟨rfl, hb1⟩; obtain ⟨hc1, hz01⟩ := bcell hb1; obtain ⟨hz1, hy1⟩ := bsz2 hb1; have S1 := ((h.alloc _).alloc _).below hb1))
  go_ret3
  exact ⟨rfl, (by repeat (first | exact Below.refl _ _ | assumption | refine drewn ?_ _ | refine next ?_ (by assumption) | refine more ?_ _))⟩

set_option maxHeartbeats 1000000 in
theorem exBits_dy (e f : Nat) (he1 : 2 ≤ e) (he : e ≤ 11) (hf1 : 1 ≤ f) (hf : f ≤ 52) (neg : Bool) (ao : Option Addr) (n c : Nat) (x : Int) (xs : List Nat) (w : World) (h : Sl w ao n c xs) (h1 : dchk neg xs x ≠ 0) :
    Calls Tryd.prog 11 #[.agg #[.int .i64 e, .int .i64 f], .agg #[.bool neg, .slice ao n c, .int .i64 x]] w fun en w' => en = .returned (.tuple #[.int .u64 0, .bool false, .int .i64 (dchk neg xs x)]) ∧ Below w.heap.size w w' := by
  have hok : formE (e : Int) (f : Int) = 0 := formE_yes (by omega)
  have hokb : (formE (e : Int) (f : Int) == 0) = true := by simp [hok]
  clear hok
  have h1c : (dchk neg xs x != 0) = true := by simp [h1]
  clear h1
  go_enter Tryd.func11, Tryd.ntmps11
  go_wp2_with (first
    | (go_at_call 27; refine (formCheck_any (e : Int) (f : Int) _).mono ?_; rintro en w1 ⟨rfl, hb1⟩; obtain ⟨hc1, hz01⟩ := bcell hb1; obtain ⟨hz1, hy1⟩ := bsz2 hb1; have S1 := ((h.alloc _).alloc _).below hb1)
    | (go_at_call 17; refine (dyCheck_any neg ao n c x xs _ S1).mono ?_; rintro en w2 ⟨rfl, hb2⟩; obtain ⟨hc2, hz02⟩ := bcell hb2; obtain ⟨hz2, hy2⟩ := bsz hb2 hz1 hy1; have S2 := S1.below hb2))
  go_ret3
  exact ⟨rfl, (by repeat (first | exact Below.refl _ _ | assumption | refine drewn ?_ _ | refine next ?_ (by assumption) | refine more ?_ _))⟩

set_option maxHeartbeats 1000000 in
theorem exBits_none (e f : Nat) (he1 : 2 ≤ e) (he : e ≤ 11) (hf1 : 1 ≤ f) (hf : f ≤ 52) (neg : Bool) (ao : Option Addr) (n c : Nat) (x : Int) (xs : List Nat) (w : World) (h : Sl w ao n c xs) (h1 : dchk neg xs x = 0) (hn : noneB n = true) :
    Calls Tryd.prog 11 #[.agg #[.int .i64 e, .int .i64 f], .agg #[.bool neg, .slice ao n c, .int .i64 x]] w fun en w' => en = .returned (.tuple #[.int .u64 0, .bool true, .int .i64 0]) ∧ Below w.heap.size w w' := by
  have hok : formE (e : Int) (f : Int) = 0 := formE_yes (by omega)
  have hokb : (formE (e : Int) (f : Int) == 0) = true := by simp [hok]
  clear hok
  have h1c : (dchk neg xs x != 0) = false := by simp [h1]
  clear h1
  go_enter Tryd.func11, Tryd.ntmps11
  go_wp2_with (first
    | (go_at_call 27; refine (formCheck_any (e : Int) (f : Int) _).mono ?_; rintro en w1 ⟨rfl, hb1⟩; obtain ⟨hc1, hz01⟩ := bcell hb1; obtain ⟨hz1, hy1⟩ := bsz2 hb1; have S1 := ((h.alloc _).alloc _).below hb1)
    | (go_at_call 17; refine (dyCheck_any neg ao n c x xs _ S1).mono ?_; rintro en w2 ⟨rfl, hb2⟩; obtain ⟨hc2, hz02⟩ := bcell hb2; obtain ⟨hz2, hy2⟩ := bsz hb2 hz1 hy1; have S2 := S1.below hb2)
    | (go_at_call 28; refine (none_any ao n c _).mono ?_; rintro en w3 ⟨rfl, hb3⟩; obtain ⟨hc3, hz03⟩ := bcell hb3; obtain ⟨hz3, hy3⟩ := bsz hb3 hz2 hy2; have S3 := S2.below hb3))
  go_ret3
  exact ⟨rfl, (by repeat (first | exact Below.refl _ _ | assumption | refine drewn ?_ _ | refine next ?_ (by assumption) | refine more ?_ _))⟩

set_option maxRecDepth 100000 in
set_option maxHeartbeats 2000000 in
theorem exBits_big_sub (e f : Nat) (he1 : 2 ≤ e) (he : e ≤ 11) (hf1 : 1 ≤ f) (hf : f ≤ 52) (neg : Bool) (ao : Option Addr) (n c : Nat) (x : Int) (xs : List Nat) (w : World) (h : Sl w ao n c xs) (h1 : dchk neg xs x = 0) (hn : noneB n = false) (s m : Nat) (hs : bitsN xs = (s : Int)) (hsl : s ≤ 524288) (hm : lowN xs = m) (hx1 : -1073741824 ≤ x) (hx2 : x ≤ 1073741824) (hA : f + 1 < s) (hB : x + s - 1 + biasN e < 1) :
    Calls Tryd.prog 11 #[.agg #[.int .i64 e, .int .i64 f], .agg #[.bool neg, .slice ao n c, .int .i64 x]] w fun en w' => en = .returned (.tuple #[.int .u64 0, .bool false, .int .i64 0]) ∧ Below w.heap.size w w' := by
  have hok : formE (e : Int) (f : Int) = 0 := formE_yes (by omega)
  have hokb : (formE (e : Int) (f : Int) == 0) = true := by simp [hok]
  clear hok
  have h1c : (dchk neg xs x != 0) = false := by simp [h1]
  have hbias := bias_wrap he
  have hble := biasN_le he
  have hbpos := biasN_pos he1
  have hpwe := pw_wrap he
  have htwo := biasN_two he1
  have hple : pw e ≤ 2048 := by omega
  have h2b : pw e = 2 * biasN e + 2 := by omega
  have H2b := Lib.hid h2b
  clear h1 htwo h2b
  have hAd : decide ((f : Int) + 1 < s) = true := by simp; omega
  go_enter Tryd.func11, Tryd.ntmps11
  go_wp2_with (first
    | (go_at_call 27; refine (formCheck_any (e : Int) (f : Int) _).mono ?_; rintro en w1 ⟨rfl, hb1⟩; obtain ⟨hc1, hz01⟩ := bcell hb1; obtain ⟨hz1, hy1⟩ := bsz2 hb1; have S1 := ((h.alloc _).alloc _).below hb1)
    | (go_at_call 17; refine (dyCheck_any neg ao n c x xs _ S1).mono ?_; rintro en w2 ⟨rfl, hb2⟩; obtain ⟨hc2, hz02⟩ := bcell hb2; obtain ⟨hz2, hy2⟩ := bsz hb2 hz1 hy1; have S2 := S1.below hb2)
    | (go_at_call 28; refine (none_any ao n c _).mono ?_; rintro en w3 ⟨rfl, hb3⟩; obtain ⟨hc3, hz03⟩ := bcell hb3; obtain ⟨hz3, hy3⟩ := bsz hb3 hz2 hy2; have S3 := S2.below hb3)
    | (go_at_call 21; refine (natBits_any ao n c xs _ S3).mono ?_; rintro en w4 ⟨rfl, hb4⟩; obtain ⟨hc4, hz04⟩ := bcell hb4; obtain ⟨hz4, hy4⟩ := bsz hb4 hz3 hy3; have S4 := S3.below hb4)
    | (go_at_call 29; refine (natLow_any ao n c xs _ S4).mono ?_; rintro en w5 ⟨rfl, hb5⟩; obtain ⟨hc5, hz05⟩ := bcell hb5; obtain ⟨hz5, hy5⟩ := bsz hb5 hz4 hy4))
  go_region
  all_goals go_wp2
  all_goals go_quiet (fail)
  all_goals go_wp2
  all_goals go_ret3
  all_goals exact ⟨rfl, (by repeat (first | exact Below.refl _ _ | assumption | refine drewn ?_ _ | refine Below.drew ?_ | refine next ?_ (by assumption) | refine more ?_ _ | refine Below.setCell ?_ (by simp; omega) _))⟩

set_option maxRecDepth 100000 in
set_option maxHeartbeats 2000000 in
theorem exBits_big_norm (e f : Nat) (he1 : 2 ≤ e) (he : e ≤ 11) (hf1 : 1 ≤ f) (hf : f ≤ 52) (neg : Bool) (ao : Option Addr) (n c : Nat) (x : Int) (xs : List Nat) (w : World) (h : Sl w ao n c xs) (h1 : dchk neg xs x = 0) (hn : noneB n = false) (s m : Nat) (hs : bitsN xs = (s : Int)) (hsl : s ≤ 524288) (hm : lowN xs = m) (hx1 : -1073741824 ≤ x) (hx2 : x ≤ 1073741824) (hA : f + 1 < s) (hB : 1 ≤ x + s - 1 + biasN e) :
    Calls Tryd.prog 11 #[.agg #[.int .i64 e, .int .i64 f], .agg #[.bool neg, .slice ao n c, .int .i64 x]] w fun en w' => en = .returned (.tuple #[.int .u64 0, .bool false, .int .i64 0]) ∧ Below w.heap.size w w' := by
  have hok : formE (e : Int) (f : Int) = 0 := formE_yes (by omega)
  have hokb : (formE (e : Int) (f : Int) == 0) = true := by simp [hok]
  clear hok
  have h1c : (dchk neg xs x != 0) = false := by simp [h1]
  have hbias := bias_wrap he
  have hble := biasN_le he
  have hbpos := biasN_pos he1
  have hpwe := pw_wrap he
  have htwo := biasN_two he1
  have hple : pw e ≤ 2048 := by omega
  have h2b : pw e = 2 * biasN e + 2 := by omega
  have H2b := Lib.hid h2b
  clear h1 htwo h2b
  have hAd : decide ((f : Int) + 1 < s) = true := by simp; omega
  go_enter Tryd.func11, Tryd.ntmps11
  go_wp2_with (first
    | (go_at_call 27; refine (formCheck_any (e : Int) (f : Int) _).mono ?_; rintro en w1 ⟨rfl, hb1⟩; obtain ⟨hc1, hz01⟩ := bcell hb1; obtain ⟨hz1, hy1⟩ := bsz2 hb1; have S1 := ((h.alloc _).alloc _).below hb1)
    | (go_at_call 17; refine (dyCheck_any neg ao n c x xs _ S1).mono ?_; rintro en w2 ⟨rfl, hb2⟩; obtain ⟨hc2, hz02⟩ := bcell hb2; obtain ⟨hz2, hy2⟩ := bsz hb2 hz1 hy1; have S2 := S1.below hb2)
    | (go_at_call 28; refine (none_any ao n c _).mono ?_; rintro en w3 ⟨rfl, hb3⟩; obtain ⟨hc3, hz03⟩ := bcell hb3; obtain ⟨hz3, hy3⟩ := bsz hb3 hz2 hy2; have S3 := S2.below hb3)
    | (go_at_call 21; refine (natBits_any ao n c xs _ S3).mono ?_; rintro en w4 ⟨rfl, hb4⟩; obtain ⟨hc4, hz04⟩ := bcell hb4; obtain ⟨hz4, hy4⟩ := bsz hb4 hz3 hy3; have S4 := S3.below hb4)
    | (go_at_call 29; refine (natLow_any ao n c xs _ S4).mono ?_; rintro en w5 ⟨rfl, hb5⟩; obtain ⟨hc5, hz05⟩ := bcell hb5; obtain ⟨hz5, hy5⟩ := bsz hb5 hz4 hy4))
  go_quiet (fail)
  go_wp2
  all_goals go_ret3
  all_goals exact ⟨rfl, (by repeat (first | exact Below.refl _ _ | assumption | refine drewn ?_ _ | refine Below.drew ?_ | refine next ?_ (by assumption) | refine more ?_ _ | refine Below.setCell ?_ (by simp; omega) _))⟩

set_option maxRecDepth 100000 in
set_option maxHeartbeats 2000000 in
theorem exBits_over (e f : Nat) (he1 : 2 ≤ e) (he : e ≤ 11) (hf1 : 1 ≤ f) (hf : f ≤ 52) (neg : Bool) (ao : Option Addr) (n c : Nat) (x : Int) (xs : List Nat) (w : World) (h : Sl w ao n c xs) (h1 : dchk neg xs x = 0) (hn : noneB n = false) (s m : Nat) (hs : bitsN xs = (s : Int)) (hsl : s ≤ 524288) (hm : lowN xs = m) (hx1 : -1073741824 ≤ x) (hx2 : x ≤ 1073741824) (hA : s ≤ f + 1) (hB : 1 ≤ x + s - 1 + biasN e) (hC : 2 * (biasN e : Int) < x + s - 1 + biasN e) :
    Calls Tryd.prog 11 #[.agg #[.int .i64 e, .int .i64 f], .agg #[.bool neg, .slice ao n c, .int .i64 x]] w fun en w' => en = .returned (.tuple #[.int .u64 0, .bool false, .int .i64 0]) ∧ Below w.heap.size w w' := by
  have hok : formE (e : Int) (f : Int) = 0 := formE_yes (by omega)
  have hokb : (formE (e : Int) (f : Int) == 0) = true := by simp [hok]
  clear hok
  have h1c : (dchk neg xs x != 0) = false := by simp [h1]
  have hbias := bias_wrap he
  have hble := biasN_le he
  have hbpos := biasN_pos he1
  have hpwe := pw_wrap he
  have htwo := biasN_two he1
  have hple : pw e ≤ 2048 := by omega
  have h2b : pw e = 2 * biasN e + 2 := by omega
  have H2b := Lib.hid h2b
  clear h1 htwo h2b
  have hAd : decide ((f : Int) + 1 < s) = false := by simp; omega
  have hBd : decide (x < x + s - 1 - f) = false := by simp; omega
  have hCd : decide ((pw e : Int) - 2 < x + s - 1 + biasN e) = true := by have := H2b.out; simp; omega
  go_enter Tryd.func11, Tryd.ntmps11
  go_wp2_with (first
    | (go_at_call 27; refine (formCheck_any (e : Int) (f : Int) _).mono ?_; rintro en w1 ⟨rfl, hb1⟩; obtain ⟨hc1, hz01⟩ := bcell hb1; obtain ⟨hz1, hy1⟩ := bsz2 hb1; have S1 := ((h.alloc _).alloc _).below hb1)
    | (go_at_call 17; refine (dyCheck_any neg ao n c x xs _ S1).mono ?_; rintro en w2 ⟨rfl, hb2⟩; obtain ⟨hc2, hz02⟩ := bcell hb2; obtain ⟨hz2, hy2⟩ := bsz hb2 hz1 hy1; have S2 := S1.below hb2)
    | (go_at_call 28; refine (none_any ao n c _).mono ?_; rintro en w3 ⟨rfl, hb3⟩; obtain ⟨hc3, hz03⟩ := bcell hb3; obtain ⟨hz3, hy3⟩ := bsz hb3 hz2 hy2; have S3 := S2.below hb3)
    | (go_at_call 21; refine (natBits_any ao n c xs _ S3).mono ?_; rintro en w4 ⟨rfl, hb4⟩; obtain ⟨hc4, hz04⟩ := bcell hb4; obtain ⟨hz4, hy4⟩ := bsz hb4 hz3 hy3; have S4 := S3.below hb4)
    | (go_at_call 29; refine (natLow_any ao n c xs _ S4).mono ?_; rintro en w5 ⟨rfl, hb5⟩; obtain ⟨hc5, hz05⟩ := bcell hb5; obtain ⟨hz5, hy5⟩ := bsz hb5 hz4 hy4))
  go_quiet (fail)
  go_wp2
  all_goals go_ret3
  all_goals exact ⟨rfl, (by repeat (first | exact Below.refl _ _ | assumption | refine drewn ?_ _ | refine Below.drew ?_ | refine next ?_ (by assumption) | refine more ?_ _ | refine Below.setCell ?_ (by simp; omega) _))⟩

set_option maxRecDepth 100000 in
set_option maxHeartbeats 2000000 in
theorem exBits_low (e f : Nat) (he1 : 2 ≤ e) (he : e ≤ 11) (hf1 : 1 ≤ f) (hf : f ≤ 52) (neg : Bool) (ao : Option Addr) (n c : Nat) (x : Int) (xs : List Nat) (w : World) (h : Sl w ao n c xs) (h1 : dchk neg xs x = 0) (hn : noneB n = false) (s m : Nat) (hs : bitsN xs = (s : Int)) (hsl : s ≤ 524288) (hm : lowN xs = m) (hx1 : -1073741824 ≤ x) (hx2 : x ≤ 1073741824) (hA : s ≤ f + 1) (hB : x + s - 1 + biasN e < 1) (hC : x < 1 - (biasN e : Int) - f) :
    Calls Tryd.prog 11 #[.agg #[.int .i64 e, .int .i64 f], .agg #[.bool neg, .slice ao n c, .int .i64 x]] w fun en w' => en = .returned (.tuple #[.int .u64 0, .bool false, .int .i64 0]) ∧ Below w.heap.size w w' := by
  have hok : formE (e : Int) (f : Int) = 0 := formE_yes (by omega)
  have hokb : (formE (e : Int) (f : Int) == 0) = true := by simp [hok]
  clear hok
  have h1c : (dchk neg xs x != 0) = false := by simp [h1]
  have hbias := bias_wrap he
  have hble := biasN_le he
  have hbpos := biasN_pos he1
  have hpwe := pw_wrap he
  have htwo := biasN_two he1
  have hple : pw e ≤ 2048 := by omega
  have h2b : pw e = 2 * biasN e + 2 := by omega
  have H2b := Lib.hid h2b
  clear h1 htwo h2b
  have hAd : decide ((f : Int) + 1 < s) = false := by simp; omega
  have hBd : decide (x < 1 - (biasN e : Int) - f) = true := by simp; omega
  go_enter Tryd.func11, Tryd.ntmps11
  go_wp2_with (first
    | (go_at_call 27; refine (formCheck_any (e : Int) (f : Int) _).mono ?_; rintro en w1 ⟨rfl, hb1⟩; obtain ⟨hc1, hz01⟩ := bcell hb1; obtain ⟨hz1, hy1⟩ := bsz2 hb1; have S1 := ((h.alloc _).alloc _).below hb1)
    | (go_at_call 17; refine (dyCheck_any neg ao n c x xs _ S1).mono ?_; rintro en w2 ⟨rfl, hb2⟩; obtain ⟨hc2, hz02⟩ := bcell hb2; obtain ⟨hz2, hy2⟩ := bsz hb2 hz1 hy1; have S2 := S1.below hb2)
    | (go_at_call 28; refine (none_any ao n c _).mono ?_; rintro en w3 ⟨rfl, hb3⟩; obtain ⟨hc3, hz03⟩ := bcell hb3; obtain ⟨hz3, hy3⟩ := bsz hb3 hz2 hy2; have S3 := S2.below hb3)
    | (go_at_call 21; refine (natBits_any ao n c xs _ S3).mono ?_; rintro en w4 ⟨rfl, hb4⟩; obtain ⟨hc4, hz04⟩ := bcell hb4; obtain ⟨hz4, hy4⟩ := bsz hb4 hz3 hy3; have S4 := S3.below hb4)
    | (go_at_call 29; refine (natLow_any ao n c xs _ S4).mono ?_; rintro en w5 ⟨rfl, hb5⟩; obtain ⟨hc5, hz05⟩ := bcell hb5; obtain ⟨hz5, hy5⟩ := bsz hb5 hz4 hy4))
  go_region
  all_goals go_wp2
  all_goals go_quiet (fail)
  all_goals go_wp2
  all_goals go_ret3
  all_goals exact ⟨rfl, (by repeat (first | exact Below.refl _ _ | assumption | refine drewn ?_ _ | refine Below.drew ?_ | refine next ?_ (by assumption) | refine more ?_ _ | refine Below.setCell ?_ (by simp; omega) _))⟩

end Go.Proofs.YteoceoepakfgiaaDoor

namespace Go.Proofs.YteoceoepakfgiaaDoor
open Go.RowKit Go.Lb

set_option maxRecDepth 100000 in
set_option maxHeartbeats 2000000 in
theorem exBits_norm (e f : Nat) (he1 : 2 ≤ e) (he : e ≤ 11) (hf1 : 1 ≤ f) (hf : f ≤ 52) (neg : Bool) (ao : Option Addr) (n c : Nat) (x : Int) (xs : List Nat) (w : World) (h : Sl w ao n c xs) (h1 : dchk neg xs x = 0) (hn : noneB n = false) (s m : Nat) (hs : bitsN xs = (s : Int)) (hsl : s ≤ 524288) (hm : lowN xs = m) (hx1 : -1073741824 ≤ x) (hx2 : x ≤ 1073741824) (hA : s ≤ f + 1) (hB : 1 ≤ x + s - 1 + biasN e) (hC : ¬ 2 * (biasN e : Int) < x + s - 1 + biasN e) (hs1 : 1 ≤ s) (hlo : pw (s - 1) ≤ m) (hhi : m < pw s) :
    Calls Tryd.prog 11 #[.agg #[.int .i64 e, .int .i64 f], .agg #[.bool neg, .slice ao n c, .int .i64 x]] w fun en w' => en = .returned (.tuple #[.int .u64 (joinN e f neg (x + s - 1 + biasN e).toNat (m * pw (f + 1 - s) - pw f) : Int), .bool true, .int .i64 0]) ∧ Below w.heap.size w w' := by
  have hmb : 2 * (biasN e : Int) ≤ maskN e := by have := biasN_two he1; rw [maskN_eq]; omega
  have Hmb := Lib.hid hmb
  clear hmb
  obtain ⟨q1, q2⟩ := shift_top (k := f + 1 - s) (f := f) hs1 hlo hhi (by omega)
  have hk : (x - (x + (s : Int) - 1 - (f : Int))).toNat = f + 1 - s := by omega
  obtain ⟨fr, hfr0⟩ : ∃ fr, fr = m * pw (f + 1 - s) - pw f := ⟨_, rfl⟩
  have hT : bits BinOp.andNot IntKind.u64 (IntKind.u64.wrap ((m : Int) * 2 ^ (x - (x + (s : Int) - 1 - (f : Int))).toNat)) (IntKind.u64.wrap (2 ^ f)) = (fr : Int) := by
    rw [hk, shl_clear q2 (by omega), hfr0, Nat.mod_eq_sub_mod q1, Nat.mod_eq_of_lt (by rw [pw_succ] at q2; omega)]
  have hfr : fr ≤ maskN f := by rw [pw_succ] at q2; rw [maskN_eq]; omega
  have Hfr := Lib.hid hfr0
  have HT := Lib.hid hT
  have HF := Lib.hid hfr
  have HS := Lib.hid hs1
  clear hs1 hfr hT hk hfr0 q1 q2 hlo hhi
  have hok : formE (e : Int) (f : Int) = 0 := formE_yes (by omega)
  have hokb : (formE (e : Int) (f : Int) == 0) = true := by simp [hok]
  clear hok
  have h1c : (dchk neg xs x != 0) = false := by simp [h1]
  have hbias := bias_wrap he
  have hble := biasN_le he
  have hbpos := biasN_pos he1
  have hpwe := pw_wrap he
  have htwo := biasN_two he1
  have hple : pw e ≤ 2048 := by omega
  have h2b : pw e = 2 * biasN e + 2 := by omega
  have H2b := Lib.hid h2b
  clear h1 htwo h2b
  have hAd : decide ((f : Int) + 1 < s) = false := by simp; omega
  have hBd : decide (x < x + s - 1 - f) = false := by simp; omega
  have hCd : decide ((pw e : Int) - 2 < x + s - 1 + biasN e) = false := by have := H2b.out; simp; omega
  go_enter Tryd.func11, Tryd.ntmps11
  go_wp2_with (first
    | (go_at_call 27; refine (formCheck_any (e : Int) (f : Int) _).mono ?_; rintro en w1 ⟨rfl, hb1⟩; obtain ⟨hc1, hz01⟩ := bcell hb1; obtain ⟨hz1, hy1⟩ := bsz2 hb1; have S1 := ((h.alloc _).alloc _).below hb1)
    | (go_at_call 17; refine (dyCheck_any neg ao n c x xs _ S1).mono ?_; rintro en w2 ⟨rfl, hb2⟩; obtain ⟨hc2, hz02⟩ := bcell hb2; obtain ⟨hz2, hy2⟩ := bsz hb2 hz1 hy1; have S2 := S1.below hb2)
    | (go_at_call 28; refine (none_any ao n c _).mono ?_; rintro en w3 ⟨rfl, hb3⟩; obtain ⟨hc3, hz03⟩ := bcell hb3; obtain ⟨hz3, hy3⟩ := bsz hb3 hz2 hy2; have S3 := S2.below hb3)
    | (go_at_call 21; refine (natBits_any ao n c xs _ S3).mono ?_; rintro en w4 ⟨rfl, hb4⟩; obtain ⟨hc4, hz04⟩ := bcell hb4; obtain ⟨hz4, hy4⟩ := bsz hb4 hz3 hy3; have S4 := S3.below hb4)
    | (go_at_call 29; refine (natLow_any ao n c xs _ S4).mono ?_; rintro en w5 ⟨rfl, hb5⟩; obtain ⟨hc5, hz05⟩ := bcell hb5; obtain ⟨hz5, hy5⟩ := bsz hb5 hz4 hy4))
  go_quiet (fail)
  go_wp2
  go_region
  all_goals go_wp2_with (go_at_call 30; go_loud (rw [HT.out]); go_loud (with_reducible refine (Join_anyI e f neg _ fr _ he1 he hf1 hf (by omega) (Int.le_trans (by omega) Hmb.out) HF.out).mono ?_); rintro en w6 ⟨rfl, hb6⟩)
  all_goals go_ret3
  all_goals exact ⟨by rw [← Hfr.out]; rfl, (by repeat (first | exact Below.refl _ _ | assumption | refine drewn ?_ _ | refine Below.drew ?_ | refine next ?_ (by assumption) | refine more ?_ _ | refine Below.setCell ?_ (by simp; omega) _))⟩

set_option maxRecDepth 100000 in
set_option maxHeartbeats 2000000 in
theorem exBits_sub (e f : Nat) (he1 : 2 ≤ e) (he : e ≤ 11) (hf1 : 1 ≤ f) (hf : f ≤ 52) (neg : Bool) (ao : Option Addr) (n c : Nat) (x : Int) (xs : List Nat) (w : World) (h : Sl w ao n c xs) (h1 : dchk neg xs x = 0) (hn : noneB n = false) (s m : Nat) (hs : bitsN xs = (s : Int)) (hsl : s ≤ 524288) (hm : lowN xs = m) (hx1 : -1073741824 ≤ x) (hx2 : x ≤ 1073741824) (hA : s ≤ f + 1) (hB : x + s - 1 + biasN e < 1) (hC : ¬ x < 1 - (biasN e : Int) - f) (hhi : m < pw s) :
    Calls Tryd.prog 11 #[.agg #[.int .i64 e, .int .i64 f], .agg #[.bool neg, .slice ao n c, .int .i64 x]] w fun en w' => en = .returned (.tuple #[.int .u64 (joinN e f neg 0 (m * pw (x - (1 - (biasN e : Int) - f)).toNat) : Int), .bool true, .int .i64 0]) ∧ Below w.heap.size w w' := by
  have hble0 := biasN_le he
  have q2 := shift_low (k := (x - (1 - (biasN e : Int) - f)).toNat) (f := f) hhi (by omega)
  obtain ⟨fr, hfr0⟩ : ∃ fr, fr = m * pw (x - (1 - (biasN e : Int) - f)).toNat := ⟨_, rfl⟩
  have hT : bits BinOp.andNot IntKind.u64 (IntKind.u64.wrap ((m : Int) * 2 ^ (x - (1 - (biasN e : Int) - f)).toNat)) (IntKind.u64.wrap (2 ^ f)) = (fr : Int) := by
    rw [shl_clear (by rw [pw_succ]; omega) (by omega), hfr0, Nat.mod_eq_of_lt q2]
  have hfr : fr ≤ maskN f := by rw [maskN_eq]; omega
  have Hfr := Lib.hid hfr0
  have HT := Lib.hid hT
  have HF := Lib.hid hfr
  clear hfr hT hble0 hfr0 q2 hhi
  have hok : formE (e : Int) (f : Int) = 0 := formE_yes (by omega)
  have hokb : (formE (e : Int) (f : Int) == 0) = true := by simp [hok]
  clear hok
  have h1c : (dchk neg xs x != 0) = false := by simp [h1]
  have hbias := bias_wrap he
  have hble := biasN_le he
  have hbpos := biasN_pos he1
  have hpwe := pw_wrap he
  have htwo := biasN_two he1
  have hple : pw e ≤ 2048 := by omega
  have h2b : pw e = 2 * biasN e + 2 := by omega
  have H2b := Lib.hid h2b
  clear h1 htwo h2b
  have hAd : decide ((f : Int) + 1 < s) = false := by simp; omega
  have hBd : decide (x < 1 - (biasN e : Int) - f) = false := by simp; omega
  have hCd : decide ((pw e : Int) - 2 < 0) = false := by have := H2b.out; simp; omega
  go_enter Tryd.func11, Tryd.ntmps11
  go_wp2_with (first
    | (go_at_call 27; refine (formCheck_any (e : Int) (f : Int) _).mono ?_; rintro en w1 ⟨rfl, hb1⟩; obtain ⟨hc1, hz01⟩ := bcell hb1; obtain ⟨hz1, hy1⟩ := bsz2 hb1; have S1 := ((h.alloc _).alloc _).below hb1)
    | (go_at_call 17; refine (dyCheck_any neg ao n c x xs _ S1).mono ?_; rintro en w2 ⟨rfl, hb2⟩; obtain ⟨hc2, hz02⟩ := bcell hb2; obtain ⟨hz2, hy2⟩ := bsz hb2 hz1 hy1; have S2 := S1.below hb2)
    | (go_at_call 28; refine (none_any ao n c _).mono ?_; rintro en w3 ⟨rfl, hb3⟩; obtain ⟨hc3, hz03⟩ := bcell hb3; obtain ⟨hz3, hy3⟩ := bsz hb3 hz2 hy2; have S3 := S2.below hb3)
    | (go_at_call 21; refine (natBits_any ao n c xs _ S3).mono ?_; rintro en w4 ⟨rfl, hb4⟩; obtain ⟨hc4, hz04⟩ := bcell hb4; obtain ⟨hz4, hy4⟩ := bsz hb4 hz3 hy3; have S4 := S3.below hb4)
    | (go_at_call 29; refine (natLow_any ao n c xs _ S4).mono ?_; rintro en w5 ⟨rfl, hb5⟩; obtain ⟨hc5, hz05⟩ := bcell hb5; obtain ⟨hz5, hy5⟩ := bsz hb5 hz4 hy4))
  go_region
  all_goals go_wp2
  all_goals go_quiet (fail)
  all_goals go_wp2
  all_goals go_region
  all_goals go_wp2_with (go_at_call 30; go_loud (rw [HT.out]); go_loud (with_reducible refine (Join_anyI e f neg _ fr _ he1 he hf1 hf (by decide) (Int.natCast_nonneg _) HF.out).mono ?_); rintro en w6 ⟨rfl, hb6⟩)
  all_goals go_ret3
  all_goals exact ⟨by rw [← Hfr.out]; rfl, (by repeat (first | exact Below.refl _ _ | assumption | refine drewn ?_ _ | refine Below.drew ?_ | refine next ?_ (by assumption) | refine more ?_ _ | refine Below.setCell ?_ (by simp; omega) _))⟩

theorem bitsP_all (e f : Nat) (neg : Bool) (s m : Nat) (x : Int) (G : Nat → Bool → Prop)
    (g1 : f + 1 < s → x + s - 1 + biasN e < 1 → G 0 false) (g2 : f + 1 < s → 1 ≤ x + s - 1 + biasN e → G 0 false)
    (g3 : s ≤ f + 1 → 1 ≤ x + s - 1 + biasN e → 2 * (biasN e : Int) < x + s - 1 + biasN e → G 0 false)
    (g4 : s ≤ f + 1 → x + s - 1 + biasN e < 1 → x < 1 - (biasN e : Int) - f → G 0 false)
    (g5 : s ≤ f + 1 → 1 ≤ x + s - 1 + biasN e → ¬ 2 * (biasN e : Int) < x + s - 1 + biasN e → G (joinN e f neg (x + s - 1 + biasN e).toNat (m * pw (f + 1 - s) - pw f)) true)
    (g6 : s ≤ f + 1 → x + s - 1 + biasN e < 1 → ¬ x < 1 - (biasN e : Int) - f → G (joinN e f neg 0 (m * pw (x - (1 - (biasN e : Int) - f)).toNat)) true) :
    G (bitsP e f neg s m x).1 (bitsP e f neg s m x).2 := by
  unfold bitsP
  by_cases hA : f + 1 < s
  · rw [if_pos hA]
    by_cases hB : 1 ≤ x + s - 1 + biasN e
    · exact g2 hA hB
    · exact g1 hA (by omega)
  · rw [if_neg hA]
    by_cases hB : 1 ≤ x + s - 1 + biasN e
    · rw [if_pos hB]
      by_cases hC : 2 * (biasN e : Int) < x + s - 1 + biasN e
      · rw [if_pos hC]; exact g3 (by omega) hB hC
      · rw [if_neg hC]; exact g5 (by omega) hB hC
    · rw [if_neg hB]
      by_cases hC : x < 1 - (biasN e : Int) - f
      · rw [if_pos hC]; exact g4 (by omega) (by omega) hC
      · rw [if_neg hC]; exact g6 (by omega) (by omega) hC

theorem dchk_facts {neg : Bool} {xs : List Nat} {x : Int} (h : dchk neg xs x = 0) (hn : xs.length ≠ 0) : chk xs = 0 ∧ -1073741824 ≤ x ∧ x ≤ 1073741824 := by
  unfold dchk at h
  by_cases h0 : chk xs = 0
  · rw [if_neg (by simp [h0]), if_neg hn] at h
    split at h
    · cases h
    · rename_i hh
      have hf : farB x = false := by cases hb : farB x <;> simp_all
      unfold farB at hf
      simp only [decide_eq_false_iff_not] at hf
      exact ⟨h0, by omega, by omega⟩
  · rw [if_pos h0] at h; exact absurd h h0

theorem szN_le {xs : List Nat} (hok : Ok xs) (h : chk xs = 0) : szN xs ≤ 524288 := by
  have := chk_zero_len h
  by_cases hn : xs.length = 0
  · rw [szN_zero hn]; omega
  · rw [szN_pos hn]
    have := bitLen_le32 _ (nth_lt hok (xs.length - 1))
    omega

theorem bits_all (e f : Int) (neg : Bool) (n : Nat) (x : Int) (xs : List Nat) (hlen : xs.length = n) (hok : Ok xs) (G : Nat → Bool → Int → Prop)
    (g1 : formE e f ≠ 0 → G 0 false (formE e f))
    (g2 : ∀ e' f' : Nat, e = e' → f = f' → 2 ≤ e' → e' ≤ 11 → 1 ≤ f' → f' ≤ 52 → dchk neg xs x ≠ 0 → G 0 false (dchk neg xs x))
    (g3 : ∀ e' f' : Nat, e = e' → f = f' → 2 ≤ e' → e' ≤ 11 → 1 ≤ f' → f' ≤ 52 → dchk neg xs x = 0 → noneB n = true → G 0 true 0)
    (g4 : ∀ e' f' : Nat, e = e' → f = f' → 2 ≤ e' → e' ≤ 11 → 1 ≤ f' → f' ≤ 52 → dchk neg xs x = 0 → noneB n = false → bitsN xs = (szN xs : Int) → szN xs ≤ 524288 → -1073741824 ≤ x → x ≤ 1073741824 →
      (szN xs ≤ f' + 1 → 1 ≤ szN xs ∧ pw (szN xs - 1) ≤ lowN xs ∧ lowN xs < pw (szN xs)) → G (bitsP e' f' neg (szN xs) (lowN xs) x).1 (bitsP e' f' neg (szN xs) (lowN xs) x).2 0) :
    G (bitsV e f neg xs x) (bitsIs e f neg xs x) (bitsE e f neg xs x) := by
  by_cases h0 : formE e f = 0
  · obtain ⟨a1, a2, a3, a4⟩ := formE_ok h0
    obtain ⟨e, rfl⟩ := Int.eq_ofNat_of_zero_le (show 0 ≤ e by omega)
    obtain ⟨f, rfl⟩ := Int.eq_ofNat_of_zero_le (show 0 ≤ f by omega)
    have hE : bitsE (e : Int) (f : Int) neg xs x = dchk neg xs x := by unfold bitsE; rw [if_neg (by simp [h0])]
    by_cases h1 : dchk neg xs x = 0
    · by_cases hn : n = 0
      · have hb : noneB n = true := by unfold noneB; simp [hn]
        have hV : bitsV (e : Int) (f : Int) neg xs x = 0 := by unfold bitsV; rw [if_pos (by right; right; omega)]
        have hI : bitsIs (e : Int) (f : Int) neg xs x = true := by unfold bitsIs; rw [if_neg (by simp [h0, h1]), if_pos (by omega)]
        rw [hV, hI, hE, h1]
        exact g3 e f rfl rfl (by omega) (by omega) (by omega) (by omega) h1 hb
      · have hb : noneB n = false := by unfold noneB; simp [hn]
        obtain ⟨hc, x1, x2⟩ := dchk_facts h1 (by omega)
        have hV : bitsV (e : Int) (f : Int) neg xs x = (bitsP e f neg (szN xs) (lowN xs) x).1 := by unfold bitsV; rw [if_neg (by simp [h0, h1]; intro h; exact hn (by rw [← hlen, h]; rfl))]; rfl
        have hI : bitsIs (e : Int) (f : Int) neg xs x = (bitsP e f neg (szN xs) (lowN xs) x).2 := by unfold bitsIs; rw [if_neg (by simp [h0, h1]), if_neg (by omega)]; rfl
        rw [hV, hI, hE, h1]
        exact g4 e f rfl rfl (by omega) (by omega) (by omega) (by omega) h1 hb (by unfold bitsN; rw [if_pos hc]) (szN_le hok hc) x1 x2 (fun hs => low_size hok hc (by omega) (by omega))
    · have hV : bitsV (e : Int) (f : Int) neg xs x = 0 := by unfold bitsV; rw [if_pos (by right; left; exact h1)]
      have hI : bitsIs (e : Int) (f : Int) neg xs x = false := by unfold bitsIs; rw [if_pos (by right; exact h1)]
      rw [hV, hI, hE]
      exact g2 e f rfl rfl (by omega) (by omega) (by omega) (by omega) h1
  · have hE : bitsE e f neg xs x = formE e f := by unfold bitsE; rw [if_pos h0]
    have hV : bitsV e f neg xs x = 0 := by unfold bitsV; rw [if_pos (by left; exact h0)]
    have hI : bitsIs e f neg xs x = false := by unfold bitsIs; rw [if_pos (by left; exact h0)]
    rw [hV, hI, hE]
    exact g1 h0

theorem exBits_any (e f : Int) (neg : Bool) (ao : Option Addr) (n c : Nat) (x : Int) (xs : List Nat) (w : World) (h : Sl w ao n c xs) :
    Calls Tryd.prog 11 #[.agg #[.int .i64 e, .int .i64 f], .agg #[.bool neg, .slice ao n c, .int .i64 x]] w fun en w' => en = .returned (.tuple #[.int .u64 (bitsV e f neg xs x : Int), .bool (bitsIs e f neg xs x), .int .i64 (bitsE e f neg xs x)]) ∧ Below w.heap.size w w' := by
  refine bits_all e f neg n x xs h.len h.ok (fun v b r => Calls Tryd.prog 11 #[.agg #[.int .i64 e, .int .i64 f], .agg #[.bool neg, .slice ao n c, .int .i64 x]] w fun en w' => en = .returned (.tuple #[.int .u64 (v : Int), .bool b, .int .i64 r]) ∧ Below w.heap.size w w') ?_ ?_ ?_ ?_
  · exact fun h0 => exBits_form e f neg ao n c x xs w h h0
  · rintro e f rfl rfl a1 a2 a3 a4 h1; exact exBits_dy e f a1 a2 a3 a4 neg ao n c x xs w h h1
  · rintro e f rfl rfl a1 a2 a3 a4 h1 hn; exact exBits_none e f a1 a2 a3 a4 neg ao n c x xs w h h1 hn
  · rintro e f rfl rfl a1 a2 a3 a4 h1 hn hs hsl x1 x2 hl
    exact bitsP_all e f neg (szN xs) (lowN xs) x (fun v b => Calls Tryd.prog 11 #[.agg #[.int .i64 e, .int .i64 f], .agg #[.bool neg, .slice ao n c, .int .i64 x]] w fun en w' => en = .returned (.tuple #[.int .u64 (v : Int), .bool b, .int .i64 0]) ∧ Below w.heap.size w w')
      (fun hA hB => exBits_big_sub e f a1 a2 a3 a4 neg ao n c x xs w h h1 hn _ _ hs hsl rfl x1 x2 hA hB)
      (fun hA hB => exBits_big_norm e f a1 a2 a3 a4 neg ao n c x xs w h h1 hn _ _ hs hsl rfl x1 x2 hA hB)
      (fun hA hB hC => exBits_over e f a1 a2 a3 a4 neg ao n c x xs w h h1 hn _ _ hs hsl rfl x1 x2 hA hB hC)
      (fun hA hB hC => exBits_low e f a1 a2 a3 a4 neg ao n c x xs w h h1 hn _ _ hs hsl rfl x1 x2 hA hB hC)
      (fun hA hB hC => exBits_norm e f a1 a2 a3 a4 neg ao n c x xs w h h1 hn _ _ hs hsl rfl x1 x2 hA hB hC (hl hA).1 (hl hA).2.1 (hl hA).2.2)
      (fun hA hB hC => exBits_sub e f a1 a2 a3 a4 neg ao n c x xs w h h1 hn _ _ hs hsl rfl x1 x2 hA hB hC (hl hA).2.2)

end Go.Proofs.YteoceoepakfgiaaDoor
