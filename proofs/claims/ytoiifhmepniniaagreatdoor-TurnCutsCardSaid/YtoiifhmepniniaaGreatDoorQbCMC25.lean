/-
  The walks of soft's top, Neg, Abs and of the reference's sign, Neg, Abs. Where a float stands (rank), by numbers and by bits; the walk of soft.rank. The walks of forms.Class of bits that don't fit, forms.NaN, forms.Payload, kit.nan, and of the reference's Inf, NaN.
-/
import Derived.Test.YtoiifhmepniniaaGreatDoorQbCMC24
import Derived.Laws.Externs
set_option maxHeartbeats 2000000
set_option maxRecDepth 100000
namespace Go.Proofs.YtoiifhmepniniaaGreatDoor
open Go.RowKit Go.Lb
theorem fitsE_parts {e f : Int} {b : Nat} (h : fitsE e f b = 0) : formE e f = 0 ∧ b < pw (1 + e.toNat + f.toNat) := by
 unfold fitsE at h
 by_cases h0 : formE e f = 0
 · rw [if_neg (by simp [h0])] at h
   split at h
   · exact ⟨h0, by assumption⟩
   · cases h
 · rw [if_pos h0] at h
   exact absurd h h0
theorem pw_top {k : Nat} (h : k ≤ 63) : IntKind.u64.wrap (2 ^ k) = ((pw k : Nat) : Int) := by
 have hp : pw k ≤ 9223372036854775808 := by have := pw_le h; rw [show pw 63 = 9223372036854775808 by unfold pw; rfl] at this; exact this
 rw [show (2 : Int) ^ k = ((pw k : Nat) : Int) by unfold pw; rw [Int.natCast_pow]; rfl]
 exact IntWalk.u64_in _ (by omega)
def nanN (e f : Nat) : Nat := joinN e f false (maskN e) (pw (f - 1))
theorem or_zero (a : Nat) (ha : a < 18446744073709551616) : bits .or .u64 (a : Int) 0 = (a : Int) := by
 have h1 : (BitVec.ofInt 64 (a : Int)).toNat = a := by
  rw [BitVec.ofInt_natCast, BitVec.toNat_ofNat]; exact Nat.mod_eq_of_lt (by omega)
 show IntKind.u64.wrap ((BitVec.ofInt 64 (a : Int) ||| BitVec.ofInt 64 0).toNat : Int) = _
 rw [BitVec.toNat_or, h1, show (BitVec.ofInt 64 0).toNat = 0 from rfl, Nat.or_zero, IntKind.wrap_u64]
 omega
theorem formsNaN_zero (e f : Nat) (w : World) (h : formE (e : Int) (f : Int) = 0) :
 Calls Tryz.prog 71 #[.agg #[.int .i64 e, .int .i64 f], .bool false, .int .u64 0] w fun en w' => en = .returned (.tuple #[.int .u64 (nanN e f), .int .i64 0]) ∧ Below w.heap.size w w' := by
 obtain ⟨q1, q2, q3, q4⟩ := formE_ok h
 have hw := pw_top (k := f - 1) (by omega)
 have ht : ((f : Int) - 1).toNat = f - 1 := by omega
 have hn : ¬ ((f : Int) - 1 < 0) := by omega
 have hp := pw_lt (show f - 1 < 64 by omega)
 rw [show pw 64 = 18446744073709551616 by unfold pw; rfl] at hp
 have ho := or_zero (pw (f - 1)) hp
 have hlt : pw (f - 1) < pw f := pw_lt (by omega)
 have hp0 := pw_pos (f - 1)
 have hge : ¬ ((pw (f - 1) : Nat) : Int) ≤ 0 := by omega
 have hm : maskN e < pw e := by rw [maskN_eq]; have := pw_pos e; omega
 have hj := fun W => join_any e f false (maskN e) (pw (f - 1)) W (by omega) (by omega) (by omega) hm hlt
 change ∀ W, Calls Tryz.prog 111 #[.agg #[.int .i64 e, .int .i64 f], .bool false, .int .u64 (maskN e), .int .u64 (pw (f - 1))] W fun en w' => en = .returned (.int .u64 (nanN e f : Int)) ∧ Below W.heap.size W w' at hj
 generalize nanN e f = NN at hj ⊢
 generalize hP : pw (f - 1) = P at hw hp ho hp0 hge hj
 go_enter Tryz.func71, Tryz.ntmps71
 go_wp2_with (first
  | (go_at_call 67; refine (formCheck_any e f _).mono ?_; rintro en w1 ⟨rfl, hb1⟩; rw [h]; have A := (box2_new w _ _ _).stay hb1; have ⟨a0, a1⟩ := A; have hW := next (more (Below.refl _ _) _) hb1)
  )
 go_region_held3 (fun w' => w'.cell? ⟨w.heap.size, 0, none⟩ = some (.int .i64 e) ∧ w'.cell? ⟨w.heap.size, 1, none⟩ = some (.int .i64 f) ∧ Below w.heap.size w w')
  ((go_split_ands; refine ⟨?_, ?_, ?_⟩ <;> (first | assumption | exact Below.drew (by assumption) | exact cellStay (by assumption) hbB | exact next (by assumption) hbB | (go_keep; done))))
  (first | (go_at_call 110; (with_reducible refine (mask_any e _ (by omega)).mono ?_); rintro en wB ⟨rfl, rfl⟩) | (go_at_call 111; (with_reducible refine (hj _).mono ?_); rintro en wB ⟨rfl, hbB⟩))
 go_split_ands
 go_wp2
 go_ret2
 exact ⟨rfl, by assumption⟩
section
attribute [local go_sem] Go.World.cell?_alloc_some
theorem rdDyadic_form (ao : Option Addr) (n c m : Nat) (e f x : Int) (s neg : Bool) (w : World) (hf : formE e f = 5) :
 Calls Tryz.prog 75 #[.agg #[.int .i64 e, .int .i64 f], .agg #[.bool s, .slice ao n c, .int .i64 x], .bool neg, .int .u8 (m : Int)] w fun en w' => en = .returned (.tuple #[.int .u64 0, .int .u8 0, .int .i64 5]) ∧ Below w.heap.size w w' := by
 obtain ⟨W2, hW2⟩ : ∃ W2 : World, W2 = (w.alloc (.cells #[.int .i64 e, .int .i64 f] 31)).alloc (.cells #[.bool s, .slice ao n c, .int .i64 x] 132) := ⟨_, rfl⟩
 have hb2 : Below w.heap.size w W2 := hW2 ▸ more (more (Below.refl _ _) _) _
 have c0 : W2.cell? ⟨w.heap.size, 0, none⟩ = some (.int .i64 e) := by rw [hW2]; simp [World.cell?_alloc_some]
 have c1 : W2.cell? ⟨w.heap.size, 1, none⟩ = some (.int .i64 f) := by rw [hW2]; simp [World.cell?_alloc_some]
 have D2 : Box3 W2 (w.heap.size + 1) (.bool s) (.slice ao n c) (.int .i64 x) := by
  have := box3_new (w.alloc (.cells #[.int .i64 e, .int .i64 f] 31)) (.bool s) (.slice ao n c) (.int .i64 x) 132
  rw [World.size_alloc] at this
  exact hW2 ▸ this
 have hFc := formCheck_any e f W2
 rw [hf] at hFc
 clear hf
 go_enter Tryz.func75, Tryz.ntmps75
 go_wp2_with fail
 rw [← hW2]
 clear hW2
 refine hFc.mono ?_
 rintro en w3 ⟨rfl, hb3⟩
 go_wp2
 go_ret3
 exact ⟨rfl, next hb2 hb3⟩
theorem rdDyadic_two (ao : Option Addr) (n c m : Nat) (e f x : Int) (s neg : Bool) (xs : List Nat) (w : World) (h : Sl w ao n c xs) (hf : formE e f = 0) (hr : twoB s xs x = false) :
 Calls Tryz.prog 75 #[.agg #[.int .i64 e, .int .i64 f], .agg #[.bool s, .slice ao n c, .int .i64 x], .bool neg, .int .u8 (m : Int)] w fun en w' => en = .returned (.tuple #[.int .u64 0, .int .u8 0, .int .i64 40]) ∧ Below w.heap.size w w' := by
 obtain ⟨W2, hW2⟩ : ∃ W2 : World, W2 = (w.alloc (.cells #[.int .i64 e, .int .i64 f] 31)).alloc (.cells #[.bool s, .slice ao n c, .int .i64 x] 132) := ⟨_, rfl⟩
 have hb2 : Below w.heap.size w W2 := hW2 ▸ more (more (Below.refl _ _) _) _
 have c0 : W2.cell? ⟨w.heap.size, 0, none⟩ = some (.int .i64 e) := by rw [hW2]; simp [World.cell?_alloc_some]
 have c1 : W2.cell? ⟨w.heap.size, 1, none⟩ = some (.int .i64 f) := by rw [hW2]; simp [World.cell?_alloc_some]
 have D2 : Box3 W2 (w.heap.size + 1) (.bool s) (.slice ao n c) (.int .i64 x) := by
  have := box3_new (w.alloc (.cells #[.int .i64 e, .int .i64 f] 31)) (.bool s) (.slice ao n c) (.int .i64 x) 132
  rw [World.size_alloc] at this
  exact hW2 ▸ this
 have hFc := formCheck_any e f W2
 rw [hf] at hFc
 have hd : (dchk s xs x == 0) = false := by have := of_decide_eq_false hr; simpa using this
 have hRc : ∀ W, Below w.heap.size w W → Calls Tryz.prog 116 #[.agg #[.bool s, .slice ao n c, .int .i64 x]] W fun e w' => e = .returned (.int .i64 (dchk s xs x)) ∧ Below W.heap.size W w' := fun W hW => dyCheck_any s ao n c x xs W (h.below hW)
 generalize dchk s xs x = dk at *
 have hd' : (dk != 0) = true := by simpa using hd
 have ⟨d0, d1, d2, _, _, _⟩ := D2
 clear hf hr h
 go_enter Tryz.func75, Tryz.ntmps75
 go_wp2_with fail
 rw [← hW2]
 clear hW2
 refine hFc.mono ?_
 rintro en w3 ⟨rfl, hb3⟩
 have V3 := next hb2 hb3
 have ⟨e0, e1, e2, _, _, _⟩ := D2.stay hb3
 clear d0 d1 d2
 go_wp2_with fail
 refine (hRc w3 V3).mono ?_
 rintro en w4 ⟨rfl, hb4⟩
 go_wp2
 go_ret3
 exact ⟨rfl, next V3 hb4⟩
theorem rdDyadic_mode (ao : Option Addr) (n c m : Nat) (e f x : Int) (s neg : Bool) (xs : List Nat) (w : World) (h : Sl w ao n c xs) (hf : formE e f = 0) (hr : twoB s xs x = true) (hm : 4 < m) :
 Calls Tryz.prog 75 #[.agg #[.int .i64 e, .int .i64 f], .agg #[.bool s, .slice ao n c, .int .i64 x], .bool neg, .int .u8 (m : Int)] w fun en w' => en = .returned (.tuple #[.int .u64 0, .int .u8 0, .int .i64 7]) ∧ Below w.heap.size w w' := by
 obtain ⟨W2, hW2⟩ : ∃ W2 : World, W2 = (w.alloc (.cells #[.int .i64 e, .int .i64 f] 31)).alloc (.cells #[.bool s, .slice ao n c, .int .i64 x] 132) := ⟨_, rfl⟩
 have hb2 : Below w.heap.size w W2 := hW2 ▸ more (more (Below.refl _ _) _) _
 have c0 : W2.cell? ⟨w.heap.size, 0, none⟩ = some (.int .i64 e) := by rw [hW2]; simp [World.cell?_alloc_some]
 have c1 : W2.cell? ⟨w.heap.size, 1, none⟩ = some (.int .i64 f) := by rw [hW2]; simp [World.cell?_alloc_some]
 have D2 : Box3 W2 (w.heap.size + 1) (.bool s) (.slice ao n c) (.int .i64 x) := by
  have := box3_new (w.alloc (.cells #[.int .i64 e, .int .i64 f] 31)) (.bool s) (.slice ao n c) (.int .i64 x) 132
  rw [World.size_alloc] at this
  exact hW2 ▸ this
 have hFc := formCheck_any e f W2
 rw [hf] at hFc
 have hd : dchk s xs x = 0 := of_decide_eq_true hr
 have hRc : ∀ W, Below w.heap.size w W → Calls Tryz.prog 116 #[.agg #[.bool s, .slice ao n c, .int .i64 x]] W fun e w' => e = .returned (.int .i64 0) ∧ Below W.heap.size W w' := fun W hW => by
  have := dyCheck_any s ao n c x xs W (h.below hW)
  rwa [hd] at this
 have hm4 : (m : Int) > 4 := by omega
 have ⟨d0, d1, d2, _, _, _⟩ := D2
 clear hf hr h hd
 go_enter Tryz.func75, Tryz.ntmps75
 go_wp2_with fail
 rw [← hW2]
 clear hW2
 refine hFc.mono ?_
 rintro en w3 ⟨rfl, hb3⟩
 have V3 := next hb2 hb3
 have ⟨e0, e1, e2, _, _, _⟩ := D2.stay hb3
 clear d0 d1 d2
 go_wp2_with fail
 refine (hRc w3 V3).mono ?_
 rintro en w4 ⟨rfl, hb4⟩
 go_wp2
 go_ret3
 exact ⟨rfl, next V3 hb4⟩
theorem rdDyadic_any (ao : Option Addr) (n c m : Nat) (e f x : Int) (s neg : Bool) (xs : List Nat) (w : World) (h : Sl w ao n c xs) (l1 : n ≤ 400) :
 Calls Tryz.prog 75 #[.agg #[.int .i64 e, .int .i64 f], .agg #[.bool s, .slice ao n c, .int .i64 x], .bool neg, .int .u8 (m : Int)] w fun en w' => en = .returned (.tuple #[.int .u64 (dyBits e f s xs x neg m : Int), .int .u8 (dyFlags e f s xs x m : Int), .int .i64 (dyErr e f s xs x m)]) ∧ Below w.heap.size w w' := by
 unfold dyBits dyFlags
 by_cases hf : formE e f = 0
 · cases hr : twoB s xs x
   · have hE : dyErr e f s xs x m = 40 := by unfold dyErr; rw [if_neg (by simp [hf]), if_pos hr]
     rw [hE]
     exact rdDyadic_two ao n c m e f x s neg xs w h hf hr
   · by_cases hm : 4 < m
     · have hE : dyErr e f s xs x m = 7 := by unfold dyErr; rw [if_neg (by simp [hf]), if_neg (by simp [hr]), if_pos hm]
       rw [hE]
       exact rdDyadic_mode ao n c m e f x s neg xs w h hf hr hm
     · have hE : dyErr e f s xs x m = 0 := by unfold dyErr; rw [if_neg (by simp [hf]), if_neg (by simp [hr]), if_neg hm]
       obtain ⟨e1, e2, f1, f2⟩ := formE_ok hf
       rw [hE, if_pos rfl, if_pos rfl]
       obtain ⟨E, rfl⟩ : ∃ E : Nat, e = (E : Int) := ⟨e.toNat, by omega⟩
       obtain ⟨F, rfl⟩ : ∃ F : Nat, f = (F : Int) := ⟨f.toNat, by omega⟩
       simp only [Int.toNat_natCast]
       exact rdDyadic_ok ao n c E F m x s neg xs w h (by omega) l1 (by omega) (by omega) (by omega) (by omega) hf hr
 · have h5 : formE e f = 5 := by unfold formE at hf ⊢; split at hf <;> simp_all
   have hE : dyErr e f s xs x m = 5 := by unfold dyErr; rw [if_pos hf]
   rw [hE]
   exact rdDyadic_form ao n c m e f x s neg w h5
end
theorem ra_up (n : Nat) (X : Int) : raN (limbs n) X = upN n X ∧ raD X = upD X := by
 unfold raN raD upN upD
 rw [val_limbs', show (max 0 X).toNat = X.toNat by omega, show (max 0 (-X)).toNat = (-X).toNat by omega]
 exact ⟨rfl, rfl⟩
theorem ratA_up {n : Nat} {X : Int} {s : Bool} (hd : dchk s (limbs n) X = 0) (l1 : ln (upN n X) ≤ 34) (l2 : ln (upD X) ≤ 34) (w : World) : RatA s (limbs n) X w = Rtn s (upN n X) (upD X) 0 w := by
 obtain ⟨e1, e2⟩ := ra_up n X
 unfold ln at l1 l2
 have hB : raB s (limbs n) X = true := by
  unfold raB
  rw [e1, e2]
  exact decide_eq_true ⟨hd, (bigE_ok (by omega)).1, (bigE_ok (by omega)).1⟩
 unfold RatA raE
 rw [hB, if_pos rfl, if_pos rfl, if_pos rfl, e1, e2, if_neg (by simp [hd])]
 rfl
theorem dy_up {E F n m : Nat} {X : Int} {s : Bool} (hf : formE (E : Int) (F : Int) = 0) (hd : dchk s (limbs n) X = 0) (hm : m < 5) (h1 : -1074 ≤ X) (h2 : X ≤ 1023) (neg : Bool) :
 dyErr (E : Int) (F : Int) s (limbs n) X m = 0 ∧ dyBits (E : Int) (F : Int) s (limbs n) X neg m = sgBits E F (upN n X) (upD X) s neg m ∧ dyFlags (E : Int) (F : Int) s (limbs n) X m = sgFlags E F (upN n X) (upD X) s m := by
 have hE : dyErr (E : Int) (F : Int) s (limbs n) X m = 0 := by
  unfold dyErr twoB
  rw [if_neg (by simp [hf]), if_neg (by simp [hd]), if_neg (by omega)]
 unfold dyBits dyFlags
 rw [if_pos hE, if_pos hE, Int.toNat_natCast, Int.toNat_natCast, val_limbs']
 unfold dyN dyD
 rw [near_in h1 h2, Nat.one_mul]
 exact ⟨hE, rfl, rfl⟩
theorem ratB_low {s : Bool} {N D : Nat} (l1 : ln N ≤ 16384) (l2 : ln D ≤ 16384) (hD : D ≠ 0) (hG : Nat.gcd N D = 1) (hs : s = true → N ≠ 0) : ratB s (limbs N) (limbs D) = true := by
 have hz : ∀ N, ln N ≤ 16384 → chk (limbs N) = 0 := fun N h => by
  unfold chk
  rw [if_neg (by unfold ln at h; omega), if_neg]
  rintro ⟨h1, h2⟩
  exact fine_top (fine_limbs N) (by omega) h2
 refine decide_eq_true ⟨hz _ l1, hz _ l2, fun h => ?_, ?_, fun h => ?_⟩
 · have := val_limbs' D
   rw [List.eq_nil_of_length_eq_zero h] at this
   exact hD this.symm
 · rw [val_limbs', val_limbs']
   exact hG
 · rw [val_limbs']
   exact hs h
def naB (e f b : Nat) : Bool := decide (exN e f b = maskN e ∧ frN f b ≠ 0)
def enB (e f b : Nat) : Bool := decide (exN e f b = maskN e ∧ frN f b = 0)
def quB (f b : Nat) : Bool := decide (frN f b / pw (f - 1) = 1)
theorem low_parts (E F b : Nat) : b % 2 ^ (E + F) = exN E F b * 2 ^ F + frN F b := by
 unfold exN frN takeN
 rw [pw_is, pw_is, pw_is, Nat.pow_zero, Nat.div_one, Nat.add_comm E F, Nat.pow_add, Nat.mod_mul, Nat.mul_comm (2 ^ F) (_ % _), Nat.add_comm]
theorem ex_le (E F b : Nat) : exN E F b ≤ maskN E := by
 have h := takeN_lt b F E
 have h2 := pw_pos E
 rw [maskN_eq]
 unfold exN
 omega
theorem frN_lt2 (F b : Nat) : frN F b < 2 ^ F := by
 have h := takeN_lt b 0 F
 rw [pw_is] at h
 exact h
def toE (e f g h : Int) (b m : Nat) : Int := if formE e f ≠ 0 ∨ formE g h ≠ 0 then 5 else if fitsE e f b ≠ 0 then 6 else if 4 < m then 7 else 0
def toB (E F G H b m : Nat) : Nat := if naB E F b = true then nanN G H else if enB E F b = true then joinN G H (sgB E F b) (maskN G) 0 else dyBits (G : Int) (H : Int) (valS (E : Int) (F : Int) b) (limbs (valN (E : Int) (F : Int) b)) (valX (E : Int) (F : Int) b) (sgB E F b) m
def toG (E F G H b m : Nat) : Nat := if naB E F b = true then (if quB F b = true then 0 else 16) else if enB E F b = true then 0 else dyFlags (G : Int) (H : Int) (valS (E : Int) (F : Int) b) (limbs (valN (E : Int) (F : Int) b)) (valX (E : Int) (F : Int) b) m
def toBi (e f g h : Int) (b m : Nat) : Nat := if toE e f g h b m = 0 then toB e.toNat f.toNat g.toNat h.toNat b m else 0
def toGi (e f g h : Int) (b m : Nat) : Nat := if toE e f g h b m = 0 then toG e.toNat f.toNat g.toNat h.toNat b m else 0
theorem dy_worth {E F G H b m : Nat} (hE : 2 ≤ E) (h11 : E ≤ 11) (hF : F ≤ 52) (hg : formE (G : Int) (H : Int) = 0) (h : fitsE (E : Int) (F : Int) b = 0) (hb : b < pw (1 + E + F)) (hx : exN E F b ≠ maskN E) (hm : m < 5) (neg : Bool) :
 dyErr (G : Int) (H : Int) (valS (E : Int) (F : Int) b) (limbs (valN (E : Int) (F : Int) b)) (valX (E : Int) (F : Int) b) m = 0 ∧
 dyBits (G : Int) (H : Int) (valS (E : Int) (F : Int) b) (limbs (valN (E : Int) (F : Int) b)) (valX (E : Int) (F : Int) b) neg m = sgBits G H (wrQ E F b).num.natAbs (wrQ E F b).den (decide ((wrQ E F b).num < 0)) neg m ∧
 dyFlags (G : Int) (H : Int) (valS (E : Int) (F : Int) b) (limbs (valN (E : Int) (F : Int) b)) (valX (E : Int) (F : Int) b) m = sgFlags G H (wrQ E F b).num.natAbs (wrQ E F b).den (decide ((wrQ E F b).num < 0)) m ∧
 ln (wrQ E F b).num.natAbs ≤ 34 ∧ ln (wrQ E F b).den ≤ 34 ∧ (limbs (valN (E : Int) (F : Int) b)).length ≤ 34 := by
 obtain ⟨_, n, X, s, v1, v2, v3, hd, hn, hX1, hX2, hG, hs, _⟩ := worth_facts (m := m) hE h11 hF h hb hx
 obtain ⟨l1, l2⟩ := up_small hn hX1 hX2
 obtain ⟨q1, q2, q3⟩ := mk_low (upD_pos X) hG hs
 have hln : ln n ≤ 34 := ln_le (Nat.lt_of_lt_of_le hn (by decide +kernel))
 unfold wrQ
 rw [v1, v2, v3, q1, q2, q3]
 obtain ⟨d1, d2, d3⟩ := dy_up hg hd hm hX1 hX2 neg
 exact ⟨d1, d2, d3, l1, l2, hln⟩
def wuQ (E F b : Nat) : Rat := if exN E F b = 0 then (((frN F b : Nat) : Int) : Rat) * p2 (1 - (bsN E : Int) - F) else ((((frN F b : Nat) : Int) : Rat) + p2 (F : Int)) * p2 ((exN E F b : Int) - bsN E - F)
theorem worth_five {E F b : Nat} (hE : 2 ≤ E) (h11 : E ≤ 11) (hF : F ≤ 52) (hfit : fitsE (E : Int) (F : Int) b = 0) (hx : exN E F b ≠ maskN E) :
 wrQ E F b = if sgB E F b = true then -wuQ E F b else wuQ E F b := by
 obtain ⟨_, _, hm, hv⟩ := flt_of (F := F) (b := b) hE hx
 rw [worth_rat (M := vN E F b) (l := vX E F b + F) hE h11 hF hfit hx rfl (.inl ⟨rfl, by omega⟩), show vX E F b + (F : Int) - F = vX E F b by omega, hm, hv]
 unfold wuQ sgZ
 by_cases h0 : exN E F b = 0
 · rw [if_pos h0, if_pos h0, if_pos h0]
   split
   · rw [Rat.intCast_neg, Rat.neg_mul]
   · rfl
 · rw [if_neg h0, if_neg h0, if_neg h0]
   have e : (((2 ^ F + frN F b : Nat) : Int) : Rat) = (((frN F b : Nat) : Int) : Rat) + p2 (F : Int) := by
    rw [p2_cast, ← Rat.intCast_add, Rat.intCast_inj]
    omega
   split
   · rw [Rat.intCast_neg, Rat.neg_mul, e]
   · rw [e]
theorem ln_word {x : Nat} (h : x < 18446744073709551616) : ln (((x : Nat) : Int) : Rat).num.natAbs ≤ 2 ∧ ln (((x : Nat) : Int) : Rat).den ≤ 2 := by
 rw [Rat.num_intCast, Rat.den_intCast, Int.natAbs_natCast]
 exact ⟨ln_small2 h, by rw [ln_one]; decide⟩
theorem ln_pow2 {n : Int} (h1 : -4000 ≤ n) (h2 : n ≤ 4000) : ln (p2 n).num.natAbs ≤ 200 ∧ ln (p2 n).den ≤ 200 := by
 obtain ⟨a, b⟩ := p2_parts n
 rw [a, b, Int.natAbs_natCast]
 have c := ln_two n.toNat
 have d := ln_two (-n).toNat
 omega
theorem ln_sum {x F : Nat} (h : x < 18446744073709551616) (hF : F ≤ 52) : ln ((((x : Nat) : Int) : Rat) + p2 (F : Int)).num.natAbs ≤ 4 ∧ ln ((((x : Nat) : Int) : Rat) + p2 (F : Int)).den ≤ 4 := by
 have e : (((x : Nat) : Int) : Rat) + p2 (F : Int) = (((x + 2 ^ F : Nat) : Int) : Rat) := by
  rw [p2_cast, ← Rat.intCast_add, Rat.intCast_inj]
  omega
 rw [e, Rat.num_intCast, Rat.den_intCast, Int.natAbs_natCast]
 have h1 := ln_add' x (2 ^ F)
 have h2 := ln_two F
 have h3 : ln x ≤ 2 := ln_small2 h
 have h4 := ln_one
 have h5 : ln (2 ^ F) ≤ 2 := by omega
 refine ⟨?_, by omega⟩
 have h6 : x + 2 ^ F < 4294967296 ^ 3 := by
  have : 2 ^ F ≤ 2 ^ 52 := Nat.pow_le_pow_right (by decide) hF
  have e3 : (4294967296 : Nat) ^ 3 = 79228162514264337593543950336 := by decide
  omega
 have := ln_le h6
 omega
theorem class_nan {e f b : Nat} (hxm : exN e f b = maskN e) (he : 2 ≤ e) (hf0 : frN f b ≠ 0) : classN e (exN e f b) (frN f b) = 5 := by
 have h : maskN e ≠ 0 := by
  have := pw_le he
  rw [show pw 2 = 4 by unfold pw; rfl] at this
  rw [maskN_eq]
  omega
 unfold classN
 rw [hxm, if_neg h, if_pos rfl, if_neg hf0]
theorem class_inf {e f b : Nat} (hxm : exN e f b = maskN e) (he : 2 ≤ e) (hf0 : frN f b = 0) : classN e (exN e f b) (frN f b) = 4 := by
 have h : maskN e ≠ 0 := by
  have := pw_le he
  rw [show pw 2 = 4 by unfold pw; rfl] at this
  rw [maskN_eq]
  omega
 unfold classN
 rw [hxm, if_neg h, if_pos rfl, if_pos hf0]
theorem class_finite {e f b : Nat} (hxm : exN e f b ≠ maskN e) : classN e (exN e f b) (frN f b) ≠ 5 ∧ classN e (exN e f b) (frN f b) ≠ 4 := by
 unfold classN
 rw [if_neg hxm]
 repeat' split
 all_goals exact ⟨by decide, by decide⟩
theorem quiet_turn {f b : Nat} (hf : 1 ≤ f) (hf2 : f ≤ 52) (hb : b < 18446744073709551616) :
 (bits .and .u64 (b : Int) (maskN f : Int) != bits .and .u64 (bits .and .u64 (b : Int) (maskN f : Int)) (maskN (f - 1) : Int)) = quB f b := by
 have h1 := and_mask (b := b) (sz := f) (by omega) hb
 have hlt : b % pw f < pw f := Nat.mod_lt _ (pw_pos f)
 have hp : pw f = 2 * pw (f - 1) := by
  obtain ⟨k, rfl⟩ : ∃ k, f = k + 1 := ⟨f - 1, by omega⟩
  rw [pw_succ]
  rfl
 have hle := pw_le (show f ≤ 52 from hf2)
 rw [show pw 52 = 4503599627370496 by unfold pw; rfl] at hle
 rw [h1, and_mask (by omega) (by omega)]
 have hfr : frN f b = b % pw f := by unfold frN takeN; rw [pw_zero, Nat.div_one]
 unfold quB
 rw [hfr]
 have hpos := pw_pos (f - 1)
 generalize b % pw f = r at *
 generalize pw (f - 1) = P at *
 by_cases hr : r < P
 · rw [Nat.mod_eq_of_lt hr, Nat.div_eq_of_lt hr]
   simp
 · have hd : r / P = 1 := Nat.div_eq_of_lt_le (by omega) (by omega)
   have hmod : r % P = r - P := by rw [Nat.mod_eq_sub_mod (by omega), Nat.mod_eq_of_lt (by omega)]
   rw [hd, hmod]
   simp
   omega
theorem sg_word (E F b : Nat) : (b / 2 ^ (E + F) % 2 == 1) = sgB E F b := by
 have h : takeN b (F + E) 1 = b / 2 ^ (E + F) % 2 := by
  unfold takeN
  rw [pw_is, pw_is, Nat.add_comm F E, Nat.pow_one]
 unfold sgB
 rw [h]
 rcases Nat.mod_two_eq_zero_or_one (b / 2 ^ (E + F)) with h | h <;> rw [h] <;> rfl
theorem read_is (E F b : Nat) (hE : 2 ≤ E) : (Ieee.Format.mk E F).read b = if exN E F b = maskN E then (if frN F b = 0 then .infinity (sgB E F b) else .nan (sgB E F b) (frN F b)) else .number (sgB E F b) (vN E F b) (vX E F b) := by
 have hr := low_parts E F b
 have hx := ex_le E F b
 have hf := frN_lt2 F b
 have hP := Nat.two_pow_pos F
 have hinf : (2 ^ E - 1) * 2 ^ F = maskN E * 2 ^ F := by rw [maskN_eq, pw_is]
 have hb : (biasN E : Int) = (2 : Int) ^ (E - 1) - 1 := by
  have h1 := Nat.two_pow_pos (E - 1)
  unfold biasN
  rw [Int.natCast_sub h1]
  push_cast
  rfl
 unfold Ieee.Format.read Ieee.Format.signWeight Ieee.Format.binade Ieee.Format.infRung Ieee.Format.leastPlace Ieee.Format.binade
 simp only
 rw [sg_word, hr, hinf]
 have hm1 : 1 ≤ maskN E := by
  have := pw_le (j := 1) (k := E) (by omega)
  rw [show pw 1 = 2 by unfold pw; rfl] at this
  rw [maskN_eq]
  omega
 unfold vN vX
 rw [pw_is, hb]
 generalize exN E F b = x at *
 generalize frN F b = r at *
 generalize maskN E = k at *
 generalize sgB E F b = s at *
 by_cases h0 : x = 0
 · subst h0
   rw [if_pos (by omega), if_neg (by omega), if_pos rfl, if_pos rfl, Nat.zero_mul, Nat.zero_add]
   congr 1
   omega
 · have h1 : 2 ^ F ≤ x * 2 ^ F := Nat.le_mul_of_pos_left _ (by omega)
   rw [if_neg (by omega)]
   by_cases hk : x = k
   · subst hk
     rw [if_neg (by omega), if_pos rfl]
     by_cases hr0 : r = 0
     · rw [if_pos (by omega), if_pos hr0]
     · rw [if_neg (by omega), if_neg hr0]
       congr 1
       omega
   · have h2 : (x + 1) * 2 ^ F ≤ k * 2 ^ F := Nat.mul_le_mul_right _ (by omega)
     rw [Nat.succ_mul] at h2
     rw [if_pos (by omega), if_neg hk, if_neg h0, if_neg h0]
     have d1 : (x * 2 ^ F + r) % 2 ^ F = r := by rw [Nat.add_comm, Nat.add_mul_mod_self_right, Nat.mod_eq_of_lt hf]
     have d2 : (x * 2 ^ F + r) / 2 ^ F = x := by rw [Nat.mul_comm, Nat.mul_add_div hP, Nat.div_eq_of_lt hf, Nat.add_zero]
     rw [d1, d2]
     congr 1
     omega
def dQ (s : Bool) (m : Nat) (i : Int) : Rat := ((sgZ s m : Int) : Rat) * p2 i
theorem signed_is (s : Bool) (m u : Nat) : Ieee.signed s m u = sgZ s m * ((2 ^ u : Nat) : Int) := by
 unfold Ieee.signed sgZ
 rw [Nat.shiftLeft_eq]
 cases s
 · simp
 · simp [Int.neg_mul]
theorem dQ_at (s : Bool) (m : Nat) (i base : Int) (h : base ≤ i) : dQ s m i = ((Ieee.signed s m (i - base).toNat : Int) : Rat) * p2 base := by
 unfold dQ
 rw [signed_is, Rat.intCast_mul, Rat.mul_assoc, ← p2_cast, ← p2_add, show (((i - base).toNat : Nat) : Int) + base = i by omega]
theorem ord_num (s t : Bool) (m n : Nat) (i j : Int) : ∃ A B : Int, (Ieee.Datum.number s m i).order (.number t n j) = some (compare A B) ∧ (A < B ↔ dQ s m i < dQ t n j) := by
 refine ⟨_, _, rfl, ?_⟩
 rw [dQ_at s m i (min i j) (by omega), dQ_at t n j (min i j) (by omega)]
 have hp := p2_pos (min i j)
 generalize Ieee.signed s m (i - min i j).toNat = A
 generalize Ieee.signed t n (j - min i j).toNat = B
 rw [← Rat.intCast_lt_intCast]
 exact (Rat.mul_lt_mul_right hp).symm
theorem ord_lt (s t : Bool) (m n : Nat) (i j : Int) : ((Ieee.Datum.number s m i).order (.number t n j) == some .lt) = decide (dQ s m i < dQ t n j) := by
 obtain ⟨A, B, h1, h2⟩ := ord_num s t m n i j
 rw [h1]
 by_cases h : A < B
 · rw [decide_eq_true (h2.1 h), show compare A B = .lt from Int.compare_eq_lt.2 h]
   rfl
 · rw [decide_eq_false (fun hh => h (h2.2 hh))]
   have : compare A B ≠ .lt := fun hh => h (Int.compare_eq_lt.1 hh)
   cases hc : compare A B
   · exact absurd hc this
   · rfl
   · rfl
theorem ord_ge (s t : Bool) (m n : Nat) (i j : Int) : ((Ieee.Datum.number s m i).order (.number t n j) == some .gt || (Ieee.Datum.number s m i).order (.number t n j) == some .eq) = decide (dQ t n j ≤ dQ s m i) := by
 obtain ⟨A, B, h1, h2⟩ := ord_num s t m n i j
 rw [h1]
 by_cases h : A < B
 · rw [decide_eq_false (fun hh => Rat.not_lt.2 hh (h2.1 h)), show compare A B = .lt from Int.compare_eq_lt.2 h]
   rfl
 · rw [decide_eq_true (Rat.not_lt.1 (fun hh => h (h2.2 hh)))]
   have : compare A B ≠ .lt := fun hh => h (Int.compare_eq_lt.1 hh)
   cases hc : compare A B
   · exact absurd hc this
   · rfl
   · rfl
theorem cut_zero (s : Bool) (n d : Nat) : Ieee.Toward.zero.cut s n d = n / 2 ^ d := by
 unfold Ieee.Toward.cut
 simp only [Bool.toNat_false, Nat.add_zero]
 rw [Nat.shiftLeft_eq, Nat.one_mul]
 by_cases h : d ≤ n.log2 + 2
 · rw [Nat.min_eq_left h]
 · rw [Nat.min_eq_right (by omega)]
   have h1 : n < 2 ^ (n.log2 + 2) := Nat.lt_of_lt_of_le Nat.lt_log2_self (Nat.pow_le_pow_right (by decide) (by omega))
   have h2 : 2 ^ (n.log2 + 2) ≤ 2 ^ d := Nat.pow_le_pow_right (by decide) (by omega)
   rw [Nat.div_eq_of_lt h1, Nat.div_eq_of_lt (by omega)]
theorem cut_exact (s : Bool) {n d : Nat} (hd : d ≤ n.log2 + 2) (h : n % 2 ^ d = 0) : Ieee.Toward.even.cut s n d = n / 2 ^ d := by
 have hp := Nat.two_pow_pos d
 unfold Ieee.Toward.cut
 simp only
 rw [Nat.shiftLeft_eq, Nat.one_mul, Nat.min_eq_left hd, h]
 have e1 : decide (2 ^ d < 2 * 0) = false := decide_eq_false (by omega)
 have e2 : (2 ^ d == 2 * 0) = false := by simp
 rw [e1, e2]
 rfl
theorem write_whole {E F T : Nat} (s : Bool) (hE : 2 ≤ E) (h0 : T ≠ 0) (hk : T.log2 < 2 ^ (E - 1)) (hd : T.log2 ≤ F ∨ T % 2 ^ (T.log2 - F) = 0) :
 ∃ m i, (Ieee.Format.mk E F).read ((Ieee.Format.mk E F).write (.number s T 0)) = .number s m i ∧ dQ s m i = ((sgZ s T : Int) : Rat) := by
 have t1 := Nat.log2_self_le h0
 have t2 := Nat.lt_log2_self (n := T)
 have hPF := Nat.two_pow_pos F
 have hE2 : (2 : Nat) ^ E = 2 * 2 ^ (E - 1) := by
  rw [show 2 * 2 ^ (E - 1) = 2 ^ (E - 1) * 2 by omega, ← Nat.pow_succ]
  congr 1
  omega
 have hP1 : 2 ≤ 2 ^ (E - 1) := by
  have := Nat.pow_le_pow_right (n := 2) (by decide) (show 1 ≤ E - 1 by omega)
  omega
 have hpc : ((2 : Int) ^ (E - 1)) = ((2 ^ (E - 1) : Nat) : Int) := by push_cast; rfl
 -- the digits that are kept
 obtain ⟨q, c, hc, hq, hkept, hval⟩ : ∃ q c : Nat, c < 2 ^ F ∧ (q : Int) = (T.log2 : Int) - F - (2 - (2 : Int) ^ (E - 1) - F) ∧
  Ieee.Toward.even.cut s (T <<< (0 - ((T.log2 : Int) - F)).toNat) (((T.log2 : Int) - F) - 0).toNat = 2 ^ F + c ∧ ((2 ^ F + c : Nat) : Int) * ((2 ^ ((T.log2 : Int) - F).toNat : Nat) : Int) = (T : Int) * ((2 ^ (-((T.log2 : Int) - F)).toNat : Nat) : Int) := by
  generalize hl : T.log2 = k at *
  by_cases hkF : k ≤ F
  · have a1 : 2 ^ F ≤ T * 2 ^ (F - k) := by
     have := Nat.mul_le_mul_right (2 ^ (F - k)) t1
     rw [← Nat.pow_add, show k + (F - k) = F by omega] at this
     exact this
    have a2 : T * 2 ^ (F - k) < 2 * 2 ^ F := by
     have := Nat.mul_lt_mul_of_pos_right t2 (Nat.two_pow_pos (F - k))
     rw [← Nat.pow_add, show k + 1 + (F - k) = F + 1 by omega, Nat.pow_succ] at this
     omega
    refine ⟨((k : Int) - F - (2 - (2 : Int) ^ (E - 1) - F)).toNat, T * 2 ^ (F - k) - 2 ^ F, by omega, by omega, ?_, ?_⟩
    · rw [show (0 - ((k : Int) - F)).toNat = F - k by omega, show (((k : Int) - F) - 0).toNat = 0 by omega, Nat.shiftLeft_eq, cut_exact s (by omega) (by rw [Nat.pow_zero, Nat.mod_one]), Nat.pow_zero, Nat.div_one]
      omega
    · rw [show ((k : Int) - F).toNat = 0 by omega, show (-((k : Int) - F)).toNat = F - k by omega, Nat.pow_zero, show 2 ^ F + (T * 2 ^ (F - k) - 2 ^ F) = T * 2 ^ (F - k) by omega, Int.natCast_mul]
      omega
  · have hdv : T % 2 ^ (k - F) = 0 := by
     rcases hd with h | h
     · omega
     · exact h
    have hP := Nat.two_pow_pos (k - F)
    have hT : T / 2 ^ (k - F) * 2 ^ (k - F) = T := Nat.div_mul_cancel (Nat.dvd_of_mod_eq_zero hdv)
    have e1 : 2 ^ k = 2 ^ F * 2 ^ (k - F) := by rw [← Nat.pow_add]; congr 1; omega
    have a1 : 2 ^ F ≤ T / 2 ^ (k - F) := (Nat.le_div_iff_mul_le hP).2 (by rw [← e1]; exact t1)
    have a2 : T / 2 ^ (k - F) < 2 * 2 ^ F := (Nat.div_lt_iff_lt_mul hP).2 (by rw [Nat.mul_assoc, ← e1, Nat.mul_comm, ← Nat.pow_succ]; exact t2)
    refine ⟨((k : Int) - F - (2 - (2 : Int) ^ (E - 1) - F)).toNat, T / 2 ^ (k - F) - 2 ^ F, by omega, by omega, ?_, ?_⟩
    · rw [show (0 - ((k : Int) - F)).toNat = 0 by omega, show (((k : Int) - F) - 0).toNat = k - F by omega, Nat.shiftLeft_eq, Nat.pow_zero, Nat.mul_one, cut_exact s (by rw [hl]; omega) hdv]
      omega
    · rw [show ((k : Int) - F).toNat = k - F by omega, show (-((k : Int) - F)).toNat = 0 by omega, Nat.pow_zero, show 2 ^ F + (T / 2 ^ (k - F) - 2 ^ F) = T / 2 ^ (k - F) by omega, ← Int.natCast_mul, hT]
      omega
 refine ⟨2 ^ F + c, (T.log2 : Int) - F, ?_, ?_⟩
 · have hlt : q * 2 ^ F + (2 ^ F + c) < (2 ^ E - 1) * 2 ^ F := by
    have h1 : (q + 2) * 2 ^ F ≤ (2 ^ E - 1) * 2 ^ F := Nat.mul_le_mul_right _ (by omega)
    rw [Nat.add_mul] at h1
    omega
   have hlt2 : (2 ^ E - 1) * 2 ^ F < 2 ^ (E + F) := by
    rw [Nat.pow_add]
    exact Nat.mul_lt_mul_of_pos_right (by have := Nat.two_pow_pos E; omega) hPF
   have hw : (Ieee.Format.mk E F).write (.number s T 0) = (Ieee.Format.mk E F).word s (q * 2 ^ F + (2 ^ F + c)) := by
    unfold Ieee.Format.write Ieee.Format.nearest Ieee.Format.infRung Ieee.Format.leastPlace Ieee.Format.binade
    simp only
    rw [if_neg h0]
    have hmax : max ((0 : Int) + (T.log2 : Int) - (F : Int)) (2 - (2 : Int) ^ (E - 1) - (F : Int)) = (T.log2 : Int) - F := by omega
    rw [hmax, hkept, ← hq, Int.toNat_natCast, Nat.min_eq_left (Nat.le_of_lt hlt)]
   rw [hw]
   have hwd : (Ieee.Format.mk E F).word s (q * 2 ^ F + (2 ^ F + c)) / 2 ^ (E + F) % 2 = (if s = true then 1 else 0) ∧ (Ieee.Format.mk E F).word s (q * 2 ^ F + (2 ^ F + c)) % 2 ^ (E + F) = q * 2 ^ F + (2 ^ F + c) := by
    unfold Ieee.Format.word Ieee.Format.signWeight
    simp only
    have hb := Nat.two_pow_pos (E + F)
    generalize q * 2 ^ F + (2 ^ F + c) = R at *
    generalize 2 ^ (E + F) = S at *
    cases s
    · simp only [Bool.false_eq_true, if_false]
      exact ⟨by rw [Nat.div_eq_of_lt (by omega)], Nat.mod_eq_of_lt (by omega)⟩
    · simp only [if_true]
      exact ⟨by rw [Nat.add_div_left _ hb, Nat.div_eq_of_lt (by omega)], by rw [Nat.add_mod_left, Nat.mod_eq_of_lt (by omega)]⟩
   unfold Ieee.Format.read Ieee.Format.signWeight Ieee.Format.binade Ieee.Format.infRung Ieee.Format.leastPlace Ieee.Format.binade
   simp only
   rw [hwd.1, hwd.2]
   have hsb : ((if s = true then 1 else 0 : Nat) == 1) = s := by cases s <;> rfl
   rw [hsb, if_neg (by omega), if_pos hlt]
   have d1 : (q * 2 ^ F + (2 ^ F + c)) % 2 ^ F = c := by rw [← Nat.add_assoc, ← Nat.succ_mul, Nat.add_comm, Nat.add_mul_mod_self_right, Nat.mod_eq_of_lt hc]
   have d2 : (q * 2 ^ F + (2 ^ F + c)) / 2 ^ F = q + 1 := by rw [← Nat.add_assoc, ← Nat.succ_mul, Nat.mul_comm, Nat.mul_add_div hPF, Nat.div_eq_of_lt hc, Nat.add_zero]
   rw [d1, d2]
   congr 1
   omega
 · unfold dQ
   generalize (T.log2 : Int) - F = l at *
   have e : sgZ s (2 ^ F + c) * ((2 ^ l.toNat : Nat) : Int) = sgZ s T * ((2 ^ (-l).toNat : Nat) : Int) := by
    unfold sgZ
    cases s
    · simpa using hval
    · simp only [if_true]
      rw [Int.neg_mul, Int.neg_mul, hval]
   have e2 : p2 l = p2 (l.toNat : Int) * p2 (-((-l).toNat : Int)) := by rw [← p2_add]; congr 1; omega
   rw [e2, p2_cast, ← Rat.mul_assoc, ← Rat.intCast_mul, e, Rat.intCast_mul, ← p2_cast, Rat.mul_assoc, p2_back, Rat.mul_one]
theorem read_nil {E F : Nat} (s : Bool) : ∃ m i, (Ieee.Format.mk E F).read ((Ieee.Format.mk E F).write (.number s 0 0)) = .number s m i ∧ dQ s m i = ((sgZ s 0 : Int) : Rat) := by
 refine ⟨0, 2 - (2 : Int) ^ (E - 1) - F, ?_, ?_⟩
 · have hb := Nat.two_pow_pos (E + F)
   have hPF := Nat.two_pow_pos F
   have hwd : (Ieee.Format.mk E F).write (.number s 0 0) / 2 ^ (E + F) % 2 = (if s = true then 1 else 0) ∧ (Ieee.Format.mk E F).write (.number s 0 0) % 2 ^ (E + F) = 0 := by
    unfold Ieee.Format.write Ieee.Format.nearest Ieee.Format.word Ieee.Format.signWeight
    simp only
    cases s
    · simp
    · simp only [if_true, Nat.add_zero]
      exact ⟨by rw [Nat.div_self hb], Nat.mod_self _⟩
   unfold Ieee.Format.read Ieee.Format.signWeight Ieee.Format.binade Ieee.Format.infRung Ieee.Format.leastPlace Ieee.Format.binade
   simp only
   rw [hwd.1, hwd.2]
   have hsb : ((if s = true then 1 else 0 : Nat) == 1) = s := by cases s <;> rfl
   rw [hsb, if_pos hPF]
 · unfold dQ
   rw [show sgZ s 0 = 0 by cases s <;> rfl, Rat.intCast_zero, Rat.zero_mul]
theorem trunc_word {E F b : Nat} (hE : 2 ≤ E) (hEF : F < 2 ^ (E - 1)) (hx : exN E F b ≠ maskN E) :
 ∃ m i, (Ieee.Format.mk E F).read ((Ieee.Format.mk E F).write (((Ieee.Format.mk E F).read b).integral .zero)) = .number (sgB E F b) m i ∧
  dQ (sgB E F b) m i = ((sgZ (sgB E F b) (upN (vN E F b) (vX E F b) / upD (vX E F b)) : Int) : Rat) := by
 have hfl := flt_of (F := F) hE hx
 have h1 := hfl.hr
 have h2 := hfl.he
 have h3 := hfl.hm
 have h4 := hfl.hx
 rw [read_is E F b hE, if_neg hx]
 have hint : (Ieee.Datum.number (sgB E F b) (vN E F b) (vX E F b)).integral .zero = .number (sgB E F b) (upN (vN E F b) (vX E F b) / upD (vX E F b)) 0 := by
  unfold Ieee.Datum.integral
  simp only
  rw [cut_zero, Nat.shiftLeft_eq]
  rfl
 rw [hint]
 by_cases h0 : upN (vN E F b) (vX E F b) / upD (vX E F b) = 0
 · rw [h0]
   exact read_nil _
 · have hbs : bsN E + 1 = 2 ^ (E - 1) := by
    have := Nat.two_pow_pos (E - 1)
    unfold bsN
    omega
   have hb2 : 2 ^ 1 ≤ 2 ^ (E - 1) := Nat.pow_le_pow_right (by decide) (by omega)
   have hM : vN E F b < 2 ^ (F + 1) := by rw [Nat.pow_succ]; split at h3 <;> omega
   refine write_whole _ hE h0 ?_ ?_
   all_goals generalize vN E F b = M at *; generalize vX E F b = X at *
   · have hT : upN M X / upD X < 2 ^ (2 ^ (E - 1)) := by
      by_cases hX : 0 ≤ X
      · refine Nat.lt_of_le_of_lt (Nat.div_le_self _ _) ?_
        unfold upN
        refine Nat.lt_of_lt_of_le (Nat.mul_lt_mul_of_pos_right hM (Nat.two_pow_pos _)) ?_
        rw [← Nat.pow_add]
        exact Nat.pow_le_pow_right (by decide) (by split at h4 <;> omega)
      · refine Nat.lt_of_le_of_lt (Nat.div_le_self _ _) ?_
        unfold upN
        rw [show X.toNat = 0 by omega, Nat.pow_zero, Nat.mul_one]
        exact Nat.lt_of_lt_of_le hM (Nat.pow_le_pow_right (by decide) (by omega))
     exact (Nat.log2_lt h0).2 hT
   · by_cases hX : 0 ≤ X
     · have e : upN M X / upD X = M * 2 ^ X.toNat := by
        unfold upN upD
        rw [show (-X).toNat = 0 by omega, Nat.pow_zero, Nat.div_one]
       rw [e] at h0 ⊢
       have hk : (M * 2 ^ X.toNat).log2 < F + 1 + X.toNat := by
        refine (Nat.log2_lt h0).2 ?_
        rw [Nat.pow_add]
        exact Nat.mul_lt_mul_of_pos_right hM (Nat.two_pow_pos _)
       right
       refine Nat.mod_eq_zero_of_dvd ?_
       exact Nat.dvd_trans (Nat.pow_dvd_pow 2 (by omega)) (Nat.dvd_mul_left _ _)
     · left
       have hT : upN M X / upD X < 2 ^ (F + 1) := by
        refine Nat.lt_of_le_of_lt (Nat.div_le_self _ _) ?_
        unfold upN
        rw [show X.toNat = 0 by omega, Nat.pow_zero, Nat.mul_one]
        exact hM
       have := (Nat.log2_lt h0).2 hT
       omega
theorem toInt_whole {s : Bool} {m T : Nat} {i : Int} (h : dQ s m i = ((sgZ s T : Int) : Rat)) : (Ieee.Datum.number s m i).toInt .zero = some (sgZ s T) := by
 have e1 : (Ieee.Datum.number s m i).toInt .zero = some (Ieee.signed s (upN m i / upD i) 0) := by
  unfold Ieee.Datum.toInt Ieee.Datum.integral
  simp only
  rw [cut_zero, Nat.shiftLeft_eq]
  rfl
 have e2 : ((sgZ s m : Int) : Rat) * p2 i = ((sgZ s T : Int) : Rat) := h
 have e3 : sgZ s (upN m i) = sgZ s T * ((upD i : Nat) : Int) := by
  have h2 := (scale_iff _ _ _).1 e2
  have e4 : ((sgZ s (upN m i) : Int) : Rat) = ((sgZ s m : Int) : Rat) * p2 (i.toNat : Int) := by
   rw [p2_cast, ← Rat.intCast_mul, Rat.intCast_inj]
   unfold sgZ upN
   cases s
   · simp
   · simp [Int.neg_mul]
  have e5 : (((sgZ s T * ((upD i : Nat) : Int)) : Int) : Rat) = ((sgZ s T : Int) : Rat) * p2 ((-i).toNat : Int) := by
   rw [p2_cast, ← Rat.intCast_mul]
   rfl
  rw [← Rat.intCast_inj, e4, e5, h2, Rat.mul_assoc, ← p2_add]
  congr 2
  omega
 have e6 : upN m i = T * upD i := by
  unfold sgZ at e3
  have e7 : ((T * upD i : Nat) : Int) = (T : Int) * (upD i : Int) := Int.natCast_mul _ _
  cases s
  · simp only [Bool.false_eq_true, if_false] at e3
    omega
  · simp only [if_true] at e3
    rw [Int.neg_mul] at e3
    omega
 rw [e1, e6, Nat.mul_div_cancel _ (Nat.pos_of_ne_zero (upD_pos i)), signed_is, Nat.pow_zero]
 congr 1
 omega
theorem kept_is (s : Bool) {T : Nat} {place i : Int} (h0 : T ≠ 0) (hd : place ≤ i ∨ T % 2 ^ (place - i).toNat = 0) :
 ∃ K, Ieee.Toward.even.cut s (T <<< (i - place).toNat) (place - i).toNat = K ∧ K * 2 ^ (place - i).toNat = T * 2 ^ (i - place).toNat := by
 refine ⟨_, rfl, ?_⟩
 rw [Nat.shiftLeft_eq]
 by_cases hp : place ≤ i
 · rw [show (place - i).toNat = 0 by omega, cut_exact s (by omega) (by rw [Nat.pow_zero, Nat.mod_one]), Nat.pow_zero, Nat.div_one, Nat.mul_one]
 · have hd : T % 2 ^ (place - i).toNat = 0 := by
    rcases hd with h | h
    · omega
    · exact h
   have hdv := Nat.dvd_of_mod_eq_zero hd
   have hle := Nat.le_of_dvd (Nat.pos_of_ne_zero h0) hdv
   have hl : (place - i).toNat ≤ T.log2 := (Nat.le_log2 h0).2 hle
   rw [show (i - place).toNat = 0 by omega, Nat.pow_zero, Nat.mul_one, cut_exact s (by omega) hd]
   exact Nat.div_mul_cancel hdv
theorem word_read {E F R : Nat} (s : Bool) (h : R < 2 ^ (E + F)) : (Ieee.Format.mk E F).word s R / 2 ^ (E + F) % 2 = (if s = true then 1 else 0) ∧ (Ieee.Format.mk E F).word s R % 2 ^ (E + F) = R := by
 unfold Ieee.Format.word Ieee.Format.signWeight
 simp only
 have hb := Nat.two_pow_pos (E + F)
 generalize 2 ^ (E + F) = S at *
 cases s
 · simp only [Bool.false_eq_true, if_false]
   exact ⟨by rw [Nat.div_eq_of_lt (by omega)], Nat.mod_eq_of_lt (by omega)⟩
 · simp only [if_true]
   exact ⟨by rw [Nat.add_div_left _ hb, Nat.div_eq_of_lt (by omega)], by rw [Nat.add_mod_left, Nat.mod_eq_of_lt (by omega)]⟩
theorem dq_same (s : Bool) {K T : Nat} {place i : Int} (h : K * 2 ^ (place - i).toNat = T * 2 ^ (i - place).toNat) : dQ s K place = dQ s T i := by
 unfold dQ
 have e : sgZ s K * ((2 ^ (place - i).toNat : Nat) : Int) = sgZ s T * ((2 ^ (i - place).toNat : Nat) : Int) := by
  have hv : ((K : Nat) : Int) * ((2 ^ (place - i).toNat : Nat) : Int) = (T : Int) * ((2 ^ (i - place).toNat : Nat) : Int) := by
   rw [← Int.natCast_mul, ← Int.natCast_mul, h]
  unfold sgZ
  cases s
  · simpa using hv
  · simp only [if_true]
    rw [Int.neg_mul, Int.neg_mul, hv]
 have e2 : p2 place = p2 ((place - i).toNat : Int) * p2 (-((i - place).toNat : Int)) * p2 i := by
  rw [← p2_add, ← p2_add]
  congr 1
  omega
 rw [e2, p2_cast, ← Rat.mul_assoc, ← Rat.mul_assoc, ← Rat.intCast_mul, e, Rat.intCast_mul, ← p2_cast, Rat.mul_assoc, Rat.mul_assoc, ← Rat.mul_assoc (p2 _) (p2 _) (p2 i), p2_back, Rat.one_mul]
theorem write_nil (E F : Nat) (s : Bool) (i : Int) : (Ieee.Format.mk E F).write (.number s 0 i) = (Ieee.Format.mk E F).write (.number s 0 0) := by
 simp [Ieee.Format.write, Ieee.Format.nearest]
theorem nil_word (E F : Nat) (s : Bool) (i : Int) : ∃ m j, (Ieee.Format.mk E F).read ((Ieee.Format.mk E F).write (.number s 0 i)) = .number s m j ∧ dQ s m j = 0 := by
 rw [write_nil]
 obtain ⟨m, j, r1, r2⟩ := read_nil (E := E) (F := F) s
 refine ⟨m, j, r1, r2.trans ?_⟩
 rw [show sgZ s 0 = 0 by cases s <;> rfl]
 rfl
def plN (E F : Nat) (T : Nat) (i : Int) : Int := max (i + (T.log2 : Int) - F) (2 - (2 : Int) ^ (E - 1) - F)
theorem write_exact {E F T : Nat} {i : Int} (s : Bool) (hE : 2 ≤ E) (h0 : T ≠ 0) (hk : i + (T.log2 : Int) < (2 : Int) ^ (E - 1)) (hd : plN E F T i ≤ i ∨ T % 2 ^ (plN E F T i - i).toNat = 0) :
 ∃ m j, (Ieee.Format.mk E F).read ((Ieee.Format.mk E F).write (.number s T i)) = .number s m j ∧ dQ s m j = dQ s T i := by
 obtain ⟨K, hcut, hK⟩ := kept_is s h0 hd
 refine ⟨K, plN E F T i, ?_, dq_same s hK⟩
 have t1 := Nat.log2_self_le h0
 have t2 := Nat.lt_log2_self (n := T)
 have hPF := Nat.two_pow_pos F
 have hE2 : (2 : Nat) ^ E = 2 * 2 ^ (E - 1) := by
  rw [show 2 * 2 ^ (E - 1) = 2 ^ (E - 1) * 2 by omega, ← Nat.pow_succ]
  congr 1
  omega
 have hP1 : 2 ≤ 2 ^ (E - 1) := by
  have := Nat.pow_le_pow_right (n := 2) (by decide) (show 1 ≤ E - 1 by omega)
  omega
 have hpc : ((2 : Int) ^ (E - 1)) = ((2 ^ (E - 1) : Nat) : Int) := by push_cast; rfl
 have hpl : plN E F T i = max (i + (T.log2 : Int) - F) (2 - (2 : Int) ^ (E - 1) - F) := rfl
 have hw : (Ieee.Format.mk E F).write (.number s T i) = (Ieee.Format.mk E F).word s (min ((plN E F T i - (2 - (2 : Int) ^ (E - 1) - F)).toNat * 2 ^ F + K) ((2 ^ E - 1) * 2 ^ F)) := by
  unfold Ieee.Format.write Ieee.Format.nearest Ieee.Format.infRung Ieee.Format.leastPlace Ieee.Format.binade
  simp only
  rw [if_neg h0, ← hpl, hcut]
 rw [hw]
 generalize plN E F T i = p at *
 have up : K * 2 ^ (p - i).toNat < 2 ^ (T.log2 + 1 + (i - p).toNat) := by
  rw [hK, Nat.pow_add]
  exact Nat.mul_lt_mul_of_pos_right t2 (Nat.two_pow_pos _)
 have lo : 2 ^ (T.log2 + (i - p).toNat) ≤ K * 2 ^ (p - i).toNat := by
  rw [hK, Nat.pow_add]
  exact Nat.mul_le_mul_right _ t1
 clear hw hcut hK hd
 generalize T.log2 = l at *
 have hlt2 : (2 ^ E - 1) * 2 ^ F < 2 ^ (E + F) := by
  rw [Nat.pow_add]
  exact Nat.mul_lt_mul_of_pos_right (by have := Nat.two_pow_pos E; omega) hPF
 have hsb : ((if s = true then 1 else 0 : Nat) == 1) = s := by cases s <;> rfl
 by_cases hc : 2 - (2 : Int) ^ (E - 1) - F ≤ i + (l : Int) - F
 · have hp : p = i + (l : Int) - F := by omega
   have k1 : K < 2 * 2 ^ F := by
    rw [show l + 1 + (i - p).toNat = F + 1 + (p - i).toNat by omega, Nat.pow_add] at up
    have := Nat.lt_of_mul_lt_mul_right up
    rw [Nat.pow_succ] at this
    omega
   have k2 : 2 ^ F ≤ K := by
    rw [show l + (i - p).toNat = F + (p - i).toNat by omega, Nat.pow_add] at lo
    exact Nat.le_of_mul_le_mul_right lo (Nat.two_pow_pos _)
   obtain ⟨c, rfl⟩ : ∃ c, K = 2 ^ F + c := ⟨K - 2 ^ F, by omega⟩
   obtain ⟨q, hq⟩ : ∃ q, q = (p - (2 - (2 : Int) ^ (E - 1) - F)).toNat := ⟨_, rfl⟩
   rw [← hq]
   have hlt : q * 2 ^ F + (2 ^ F + c) < (2 ^ E - 1) * 2 ^ F := by
    have h1 : (q + 2) * 2 ^ F ≤ (2 ^ E - 1) * 2 ^ F := Nat.mul_le_mul_right _ (by omega)
    rw [Nat.add_mul] at h1
    omega
   rw [Nat.min_eq_left (Nat.le_of_lt hlt)]
   obtain ⟨w1, w2⟩ := word_read (E := E) (F := F) (R := q * 2 ^ F + (2 ^ F + c)) s (by omega)
   unfold Ieee.Format.read Ieee.Format.signWeight Ieee.Format.binade Ieee.Format.infRung Ieee.Format.leastPlace Ieee.Format.binade
   simp only
   rw [w1, w2, hsb, if_neg (by omega), if_pos hlt]
   have d1 : (q * 2 ^ F + (2 ^ F + c)) % 2 ^ F = c := by rw [← Nat.add_assoc, ← Nat.succ_mul, Nat.add_comm, Nat.add_mul_mod_self_right, Nat.mod_eq_of_lt (by omega)]
   have d2 : (q * 2 ^ F + (2 ^ F + c)) / 2 ^ F = q + 1 := by rw [← Nat.add_assoc, ← Nat.succ_mul, Nat.mul_comm, Nat.mul_add_div hPF, Nat.div_eq_of_lt (by omega), Nat.add_zero]
   rw [d1, d2]
   congr 1
   omega
 · have hp : p = 2 - (2 : Int) ^ (E - 1) - F := by omega
   have k1 : K < 2 ^ F := by
    have h2 : 2 ^ (l + 1 + (i - p).toNat) ≤ 2 ^ (F + (p - i).toNat) := Nat.pow_le_pow_right (by decide) (by omega)
    have h3 := Nat.lt_of_lt_of_le up h2
    rw [Nat.pow_add] at h3
    exact Nat.lt_of_mul_lt_mul_right h3
   rw [show (p - (2 - (2 : Int) ^ (E - 1) - F)).toNat = 0 by omega, Nat.zero_mul, Nat.zero_add]
   have hlt : K < (2 ^ E - 1) * 2 ^ F := Nat.lt_of_lt_of_le k1 (Nat.le_mul_of_pos_left _ (by omega))
   rw [Nat.min_eq_left (Nat.le_of_lt hlt)]
   obtain ⟨w1, w2⟩ := word_read (E := E) (F := F) (R := K) s (by omega)
   unfold Ieee.Format.read Ieee.Format.signWeight Ieee.Format.binade Ieee.Format.infRung Ieee.Format.leastPlace Ieee.Format.binade
   simp only
   rw [w1, w2, hsb, if_pos k1, hp]
theorem sg_up_same {s : Bool} {m k : Nat} {i j : Int} (h1 : ((sgZ s m : Int) : Rat) * p2 i = ((sgZ s k : Int) : Rat) * p2 j) : upN m i * upD j = upN k j * upD i := by
 have u : ∀ (n : Nat) (x : Int), ((sgZ s (upN n x) : Int) : Rat) = ((sgZ s n : Int) : Rat) * p2 x * (((upD x : Nat) : Int) : Rat) := fun n x => by
  unfold upN upD
  rw [← p2_cast, Rat.mul_assoc, ← p2_add]
  have e : sgZ s (n * 2 ^ x.toNat) = sgZ s n * ((2 ^ x.toNat : Nat) : Int) := by
   unfold sgZ
   cases s
   · simp
   · simp [Int.neg_mul]
  rw [e, Rat.intCast_mul, ← p2_cast]
  congr 2
  omega
 have e1 : ((sgZ s (upN m i) * ((upD j : Nat) : Int) : Int) : Rat) = ((sgZ s (upN k j) * ((upD i : Nat) : Int) : Int) : Rat) := by
  rw [Rat.intCast_mul, Rat.intCast_mul, u, u, h1, Rat.mul_assoc, Rat.mul_assoc, Rat.mul_comm (((upD i : Nat) : Int) : Rat), ← Rat.mul_assoc, ← Rat.mul_assoc]
 rw [Rat.intCast_inj] at e1
 unfold sgZ at e1
 have f1 : (((upN m i * upD j : Nat)) : Int) = (upN m i : Int) * (upD j : Int) := Int.natCast_mul _ _
 have f2 : (((upN k j * upD i : Nat)) : Int) = (upN k j : Int) * (upD i : Int) := Int.natCast_mul _ _
 cases s
 · simp only [Bool.false_eq_true, if_false] at e1
   omega
 · simp only [if_true] at e1
   rw [Int.neg_mul, Int.neg_mul] at e1
   omega
theorem cut_same {s : Bool} {m k : Nat} {i j : Int} (h : dQ s m i = dQ s k j) : upN m i / upD i = upN k j / upD j := by
 have d1 := upD_pos i
 have d2 := upD_pos j
 have hx : upN m i * upD j = upN k j * upD i := sg_up_same h
 have hp1 := Nat.pos_of_ne_zero d1
 have hp2 := Nat.pos_of_ne_zero d2
 generalize upN m i = a at *
 generalize upN k j = b at *
 generalize upD i = c at *
 generalize upD j = d at *
 rw [← Nat.mul_div_mul_right a c hp2, hx, Nat.mul_comm b c, Nat.mul_comm c d, ← Nat.mul_div_mul_left b d hp1, Nat.mul_comm c d]
def tcN (b : Nat) : Nat := FloatKind.f64.encode ((FloatKind.f64.decode b).integral .zero)
theorem dec_fin {b : Nat} (hx : exN 11 52 b ≠ maskN 11) : FloatKind.f64.decode b = .number (sgB 11 52 b) (vN 11 52 b) (vX 11 52 b) :=
 (read_is 11 52 b (by decide)).trans (if_neg hx)
theorem toIntegral_num {b : Nat} {s : Bool} {m : Nat} {i : Int} (h : FloatKind.f64.decode b = .number s m i) (name : String) :
 Extern.MathFloor.toIntegral name .zero #[.float .f64 b] = pure (.float .f64 (FloatKind.f64.encode ((Ieee.Datum.number s m i).integral .zero))) := by
 show (match FloatKind.f64.decode b with
  | .nan _ _ => _
  | d => (pure (Value.float FloatKind.f64 (FloatKind.f64.encode (d.integral Ieee.Toward.zero))) : Sem Value)) = _
 rw [h]
theorem arch_fin {b : Nat} (W : World) (hx : exN 11 52 b ≠ maskN 11) : (callFunc 132 #[.float .f64 b]).run Tryz.prog W = .ok (.value (.float .f64 (tcN b))) W :=
 (run_callFunc_extern Tryz.func132 (by kernel_rfl) (by kernel_rfl) (by kernel_rfl) (e := Extern.MathFloor.toIntegral "math.archTrunc" .zero) (by kernel_rfl) _ W).trans (by
   have h := dec_fin hx
   unfold tcN
   rw [toIntegral_num h, h]
   rfl)
theorem trunc_stand {b : Nat} (hx : exN 11 52 b ≠ maskN 11) : ∃ m i, FloatKind.f64.decode (tcN b) = .number (sgB 11 52 b) m i ∧
 dQ (sgB 11 52 b) m i = ((sgZ (sgB 11 52 b) (upN (vN 11 52 b) (vX 11 52 b) / upD (vX 11 52 b)) : Int) : Rat) := trunc_word (E := 11) (F := 52) (by decide) (by decide) hx
def tzN (b : Nat) : Int := sgZ (sgB 11 52 b) (upN (vN 11 52 b) (vX 11 52 b) / upD (vX 11 52 b))
theorem tc_order {b : Nat} (hx : exN 11 52 b ≠ maskN 11) {c : Nat} {s : Bool} {m : Nat} {i C : Int} (hc : FloatKind.f64.format.read c = .number s m i) (hC : dQ s m i = ((C : Int) : Rat)) :
 (FloatKind.f64.format.order (tcN b) c == some .lt) = decide (tzN b < C) ∧ (FloatKind.f64.format.order (tcN b) c == some .gt || FloatKind.f64.format.order (tcN b) c == some .eq) = decide (C ≤ tzN b) := by
 obtain ⟨m1, i1, h1, h2⟩ := trunc_stand hx
 have e : FloatKind.f64.format.order (tcN b) c = (Ieee.Datum.number (sgB 11 52 b) m1 i1).order (.number s m i) := by
  unfold Ieee.Format.order
  rw [hc, ← h1]
  rfl
 rw [e, ord_lt, ord_ge, h2, hC]
 constructor
 · rw [decide_eq_decide]
   exact Rat.intCast_lt_intCast
 · rw [decide_eq_decide]
   exact Rat.intCast_le_intCast
theorem dq_const (s : Bool) (m k : Nat) (C : Int) (h : sgZ s m * ((2 ^ k : Nat) : Int) = C) : dQ s m (k : Int) = ((C : Int) : Rat) := by
 unfold dQ
 rw [p2_cast, ← Rat.intCast_mul, h]
theorem ends_read : FloatKind.f64.format.read 14114281232179134464 = .number true 4503599627370496 11 ∧ FloatKind.f64.format.read 4890909195324358656 = .number false 4503599627370496 11 ∧ FloatKind.f64.format.read 4895412794951729152 = .number false 4503599627370496 12 ∧ FloatKind.f64.format.read 0 = .number false 0 (-1074) := by decide +kernel
theorem cut_ends {b : Nat} (hx : exN 11 52 b ≠ maskN 11) :
 (FloatKind.f64.format.order (tcN b) 14114281232179134464 == some .gt || FloatKind.f64.format.order (tcN b) 14114281232179134464 == some .eq) = decide (-9223372036854775808 ≤ tzN b) ∧
 (FloatKind.f64.format.order (tcN b) 4890909195324358656 == some .lt) = decide (tzN b < 9223372036854775808) ∧
 (FloatKind.f64.format.order (tcN b) 0 == some .gt || FloatKind.f64.format.order (tcN b) 0 == some .eq) = decide (0 ≤ tzN b) ∧
 (FloatKind.f64.format.order (tcN b) 4895412794951729152 == some .lt) = decide (tzN b < 18446744073709551616) := by
 obtain ⟨r1, r2, r3, r4⟩ := ends_read
 refine ⟨(tc_order hx r1 (dq_const true _ 11 _ (by decide))).2, (tc_order hx r2 (dq_const false _ 11 _ (by decide))).1, (tc_order hx r4 ?_).2, (tc_order hx r3 (dq_const false _ 12 _ (by decide))).1⟩
 unfold dQ
 rw [show sgZ false 0 = 0 from rfl, Rat.intCast_zero, Rat.zero_mul]
theorem cut_int {b : Nat} (hx : exN 11 52 b ≠ maskN 11) : (FloatKind.f64.decode (tcN b)).toInt .zero = some (tzN b) := by
 obtain ⟨m1, i1, h1, h2⟩ := trunc_stand hx
 rw [h1]
 exact toInt_whole h2
end Go.Proofs.YtoiifhmepniniaaGreatDoor
