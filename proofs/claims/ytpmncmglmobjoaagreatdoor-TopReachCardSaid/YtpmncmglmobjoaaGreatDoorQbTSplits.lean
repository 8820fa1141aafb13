/-
  The walks of the small functions of forms. The walks of forms.layout, join, Join and of the reference's May. The walk of math/bits.Len64, over the library's own text. The walks of forms.Fits and of the reference's May: may bits be a float of a form? The walks of forms.place.take, forms.Split, and of the reference's Fields: bits taken apart. The walks of forms.Split of bits that may not be, and of forms.Class. The walk of the reference's Fields: bits taken apart. The walks of nat.Of and the reference's Of: a number of 64 bits.
-/
import Derived.Deep.RegionHeld3
import Derived.Lib.ItoaNum
import Derived.Test.YtpmncmglmobjoaaGreatDoorQbTMakes
set_option maxHeartbeats 6000000
set_option maxRecDepth 100000
namespace Go.Proofs.YtpmncmglmobjoaaGreatDoor
open Go.RowKit Go.Lb
def formB (e f : Int) : Bool := decide (2 ≤ e ∧ e ≤ 11 ∧ 1 ≤ f ∧ f ≤ 52)
def formE (e f : Int) : Int := if formB e f = true then 0 else 5
theorem formE_ok {e f : Int} (h : formE e f = 0) : 2 ≤ e ∧ e ≤ 11 ∧ 1 ≤ f ∧ f ≤ 52 := by
 unfold formE at h
 split at h
 · rename_i hb; simpa [formB] using hb
 · cases h
theorem formE_yes {e f : Int} (h : 2 ≤ e ∧ e ≤ 11 ∧ 1 ≤ f ∧ f ≤ 52) : formE e f = 0 := by
 unfold formE formB; rw [if_pos (by simpa using h)]
theorem formE_no {e f : Int} (h : ¬(2 ≤ e ∧ e ≤ 11 ∧ 1 ≤ f ∧ f ≤ 52)) : formE e f = 5 := by
 unfold formE formB; rw [if_neg (by simpa using h)]
theorem formCheck_any (e f : Int) (w : World) :
 Calls Tryz.prog 45 #[.agg #[.int .i64 e, .int .i64 f]] w fun en w' => en = .returned (.int .i64 (formE e f)) ∧ Below w.heap.size w w' := by
 by_cases h1 : e < 2
 · have H := Lib.hid (formE_no (e := e) (f := f) (by omega))
   go_enter Tryz.func45, Tryz.ntmps45
   go_wp2
   go_ret
   exact ⟨by rw [H.out]; rfl, more (Below.refl _ _) _⟩
 · by_cases h2 : 11 < e
   · have H := Lib.hid (formE_no (e := e) (f := f) (by omega))
     go_enter Tryz.func45, Tryz.ntmps45
     go_wp2
     go_ret
     exact ⟨by rw [H.out]; rfl, more (Below.refl _ _) _⟩
   · by_cases h3 : f < 1
     · have H := Lib.hid (formE_no (e := e) (f := f) (by omega))
       go_enter Tryz.func45, Tryz.ntmps45
       go_wp2
       go_ret
       exact ⟨by rw [H.out]; rfl, more (Below.refl _ _) _⟩
     · by_cases h4 : 52 < f
       · have H := Lib.hid (formE_no (e := e) (f := f) (by omega))
         go_enter Tryz.func45, Tryz.ntmps45
         go_wp2
         go_ret
         exact ⟨by rw [H.out]; rfl, more (Below.refl _ _) _⟩
       · have H := Lib.hid (formE_yes (e := e) (f := f) (by omega))
         go_enter Tryz.func45, Tryz.ntmps45
         go_wp2
         go_ret
         exact ⟨by rw [H.out]; rfl, more (Below.refl _ _) _⟩
theorem bias_fin : ∀ e : Fin 12, wrap64 (wrap64 (2 ^ (e.val - 1)) - 1) = ((2 ^ (e.val - 1) - 1 : Nat) : Int) := by decide +kernel
theorem mask_any (k : Nat) (w : World) (h2 : k ≤ 64) :
 Calls Tryz.prog 66 #[.int .i64 k] w fun en w' => en = .returned (.int .u64 (maskN k : Int)) ∧ w = w' := by
 have H := Lib.hid (mask_bits h2)
 go_enter Tryz.func66, Tryz.ntmps66
 go_wp2
 go_ret
 exact ⟨by rw [← H.out]; simp, rfl⟩
theorem layout_any (e f : Nat) (w : World) (he : e ≤ 11) (hf : f ≤ 52) :
 Calls Tryz.prog 111 #[.agg #[.int .i64 e, .int .i64 f]] w fun en w' => en = .returned (.agg #[.int .i64 0, .int .i64 f, .int .i64 f, .int .i64 e, .int .i64 ((f + e : Nat) : Int), .int .i64 1]) ∧ Below w.heap.size w w' := by
 go_enter Tryz.func111, Tryz.ntmps111
 go_wp2
 refine bodyPost_ret (v := .agg #[.int .i64 0, .int .i64 f, .int .i64 f, .int .i64 e, .int .i64 ((f + e : Nat) : Int), .int .i64 1]) (by simp [results, Tryz.results111, go_sem]) rfl ⟨rfl, ?_⟩
 exact more (more (Below.refl _ _) _) _
theorem len64_any (x : Int) (w : World) (h0 : 0 ≤ x) (h1 : x ≤ 18446744073709551615) :
 Calls Tryz.prog 64 #[.int .u64 x] w fun e w' => e = .returned (.int .i64 (Lib.bitLen x.toNat)) ∧ w = w' := by
 have hs : Lib.len8tab.size = 256 := by decide +kernel
 go_enter Tryz.func64, Tryz.ntmps64
 go_wp2
 all_goals (go_ret; refine ⟨congrArg Ending.returned (congrArg (Value.int IntKind.i64) ?_), rfl⟩)
 · have e : (x / 4294967296 / 65536 / 256).toNat = x.toNat / 72057594037927936 := by omega
   have l := Lib.bitLen_le8' (x / 4294967296 / 65536 / 256) (by omega) (by omega)
   have s := Lib.bitLen_shift56 x.toNat (by omega) (by omega)
   rw [len8at _ (by omega)]
   rw [e] at l ⊢
   rw [wrap64_nat (Lib.bitLen _) (by omega)]
   first | rw [wrap64_nat (Lib.bitLen _) (by omega)] | (rw [IntWalk.wrap64_in _ ⟨by omega, by omega⟩]; omega)
 · have e : (x / 4294967296 / 65536).toNat = x.toNat / 281474976710656 := by omega
   have l := Lib.bitLen_le8' (x / 4294967296 / 65536) (by omega) (by omega)
   have s := Lib.bitLen_shift48 x.toNat (by omega) (by omega)
   rw [len8at _ (by omega)]
   rw [e] at l ⊢
   rw [wrap64_nat (Lib.bitLen _) (by omega)]
   first | rw [wrap64_nat (Lib.bitLen _) (by omega)] | (rw [IntWalk.wrap64_in _ ⟨by omega, by omega⟩]; omega)
 · have e : (x / 4294967296 / 256).toNat = x.toNat / 1099511627776 := by omega
   have l := Lib.bitLen_le8' (x / 4294967296 / 256) (by omega) (by omega)
   have s := Lib.bitLen_shift40 x.toNat (by omega) (by omega)
   rw [len8at _ (by omega)]
   rw [e] at l ⊢
   rw [wrap64_nat (Lib.bitLen _) (by omega)]
   first | rw [wrap64_nat (Lib.bitLen _) (by omega)] | (rw [IntWalk.wrap64_in _ ⟨by omega, by omega⟩]; omega)
 · have e : (x / 4294967296).toNat = x.toNat / 4294967296 := by omega
   have l := Lib.bitLen_le8' (x / 4294967296) (by omega) (by omega)
   have s := Lib.bitLen_shift32 x.toNat (by omega) (by omega)
   rw [len8at _ (by omega)]
   rw [e] at l ⊢
   rw [wrap64_nat (Lib.bitLen _) (by omega)]
   first | rw [wrap64_nat (Lib.bitLen _) (by omega)] | (rw [IntWalk.wrap64_in _ ⟨by omega, by omega⟩]; omega)
 · have e : (x / 65536 / 256).toNat = x.toNat / 16777216 := by omega
   have l := Lib.bitLen_le8' (x / 65536 / 256) (by omega) (by omega)
   have s := Lib.bitLen_shift24 x.toNat (by omega) (by omega)
   rw [len8at _ (by omega)]
   rw [e] at l ⊢
   rw [wrap64_nat (Lib.bitLen _) (by omega)]
   first | rw [wrap64_nat (Lib.bitLen _) (by omega)] | (rw [IntWalk.wrap64_in _ ⟨by omega, by omega⟩]; omega)
 · have e : (x / 65536).toNat = x.toNat / 65536 := by omega
   have l := Lib.bitLen_le8' (x / 65536) (by omega) (by omega)
   have s := Lib.bitLen_shift16 x.toNat (by omega) (by omega)
   rw [len8at _ (by omega)]
   rw [e] at l ⊢
   rw [wrap64_nat (Lib.bitLen _) (by omega)]
   first | rw [wrap64_nat (Lib.bitLen _) (by omega)] | (rw [IntWalk.wrap64_in _ ⟨by omega, by omega⟩]; omega)
 · have e : (x / 256).toNat = x.toNat / 256 := by omega
   have l := Lib.bitLen_le8' (x / 256) (by omega) (by omega)
   have s := Lib.bitLen_shift8 x.toNat (by omega) (by omega)
   rw [len8at _ (by omega)]
   rw [e] at l ⊢
   rw [wrap64_nat (Lib.bitLen _) (by omega)]
   first | rw [wrap64_nat (Lib.bitLen _) (by omega)] | (rw [IntWalk.wrap64_in _ ⟨by omega, by omega⟩]; omega)
 · have l := Lib.bitLen_le8' x (by omega) (by omega)
   rw [len8at _ (by omega)]
   rw [wrap64_nat (Lib.bitLen _) (by omega)]
   first | rw [wrap64_nat (Lib.bitLen _) (by omega)] | (rw [IntWalk.wrap64_in _ ⟨by omega, by omega⟩]; omega)
theorem bitLen_gt {b k : Nat} (hb : b < 18446744073709551616) (hk : k ≤ 64) : k < Lib.bitLen b ↔ 2 ^ k ≤ b := by
 constructor
 · intro h
   apply Nat.le_of_not_lt
   intro hlt
   have := Lib.bitLen_le b k hk hlt
   omega
 · intro h
   apply Nat.lt_of_not_le
   intro hle
   have h0 : b ≠ 0 := by have := Nat.two_pow_pos k; omega
   have h1 := Lib.bitLenAux_bounds 64 b hb h0
   have h2 : b < 2 ^ Lib.bitLen b := h1.2.2
   have h3 : 2 ^ Lib.bitLen b ≤ 2 ^ k := Nat.pow_le_pow_right (by decide) hle
   omega
def fitsE (e f : Int) (b : Nat) : Int := if formE e f ≠ 0 then formE e f else if b < pw (1 + e.toNat + f.toNat) then 0 else 6
theorem fitsE_form {e f : Int} {b : Nat} (h : formE e f ≠ 0) : fitsE e f b = formE e f := by unfold fitsE; rw [if_pos h]
theorem fitsE_bits {e f b : Nat} (h : formE e f = 0) (hb : ¬ b < pw (1 + e + f)) : fitsE e f b = 6 := by
 unfold fitsE; rw [if_neg (by simp [h])]; simp only [Int.toNat_natCast]; rw [if_neg hb]
theorem fitsE_ok {e f b : Nat} (h : formE e f = 0) (hb : b < pw (1 + e + f)) : fitsE e f b = 0 := by
 unfold fitsE; rw [if_neg (by simp [h])]; simp only [Int.toNat_natCast]; rw [if_pos hb]
theorem int_div_pow (b k : Nat) : (b : Int) / 2 ^ k = ((b / 2 ^ k : Nat) : Int) := by
 rw [Int.natCast_ediv, Int.natCast_pow]
 rfl
theorem fits_any (e f : Int) (b : Nat) (w : World) (hb : b < 18446744073709551616) :
 Calls Tryz.prog 32 #[.agg #[.int .i64 e, .int .i64 f], .int .u64 b] w fun en w' => en = .returned (.int .i64 (fitsE e f b)) ∧ Below w.heap.size w w' := by
 by_cases h : formE e f = 0
 · obtain ⟨h1, h2, h3, h4⟩ := formE_ok h
   obtain ⟨e, rfl⟩ := Int.eq_ofNat_of_zero_le (by omega : 0 ≤ e)
   obtain ⟨f, rfl⟩ := Int.eq_ofNat_of_zero_le (by omega : 0 ≤ f)
   have hz : (formE (e : Int) (f : Int) != 0) = false := by simp [h]
   have hgt := bitLen_gt (b := b) (k := 1 + e + f) hb (by omega)
   have hw1 : IntKind.i64.wrap (1 + (e : Int)) = 1 + (e : Int) := IntWalk.i64_in _ (by omega)
   have hw2 : IntKind.i64.wrap (1 + (e : Int) + (f : Int)) = 1 + (e : Int) + (f : Int) := IntWalk.i64_in _ (by omega)
   have hbn : (b : Int).toNat = b := Int.toNat_natCast b
   by_cases hp : 2 ^ (1 + e + f) ≤ b
   · have hd : decide (1 + (e : Int) + (f : Int) < (Lib.bitLen b : Int)) = true := by have := hgt; simp; omega
     have H := Lib.hid (fitsE_bits h (by unfold pw; omega : ¬ b < pw (1 + e + f)))
     clear hgt hp h h1 h2 h3 h4
     go_enter Tryz.func32, Tryz.ntmps32
     go_wp2_with (go_at_call 45; refine (formCheck_any e f _).mono ?_; rintro en w1 ⟨rfl, hb1⟩; have hc1 := (bcell hb1).1; have c0 : w1.cell? ⟨w.heap.size, 0, none⟩ = some (.int .i64 (e : Int)) := (hc1 _ _ (by simp)).trans (World.cell?_alloc_new _ _ _ _); have c1 : w1.cell? ⟨w.heap.size, 1, none⟩ = some (.int .i64 (f : Int)) := (hc1 _ _ (by simp)).trans (World.cell?_alloc_new _ _ _ _); have hW := next (more (Below.refl _ _) _) hb1)
     go_quiet ((go_at_call 64; exact quiet_l (fun W e' => len64_any _ W (by omega) (by omega)) _))
     go_wp2
     go_ret
     exact ⟨by rw [H.out]; rfl, drewn hW _⟩
   · have hd : decide (1 + (e : Int) + (f : Int) < (Lib.bitLen b : Int)) = false := by have := hgt; simp; omega
     have H := Lib.hid (fitsE_ok h (by unfold pw; omega : b < pw (1 + e + f)))
     clear hgt hp h h1 h2 h3 h4
     go_enter Tryz.func32, Tryz.ntmps32
     go_wp2_with (go_at_call 45; refine (formCheck_any e f _).mono ?_; rintro en w1 ⟨rfl, hb1⟩; have hc1 := (bcell hb1).1; have c0 : w1.cell? ⟨w.heap.size, 0, none⟩ = some (.int .i64 (e : Int)) := (hc1 _ _ (by simp)).trans (World.cell?_alloc_new _ _ _ _); have c1 : w1.cell? ⟨w.heap.size, 1, none⟩ = some (.int .i64 (f : Int)) := (hc1 _ _ (by simp)).trans (World.cell?_alloc_new _ _ _ _); have hW := next (more (Below.refl _ _) _) hb1)
     go_quiet ((go_at_call 64; exact quiet_l (fun W e' => len64_any _ W (by omega) (by omega)) _))
     go_wp2
     go_ret
     exact ⟨by rw [H.out]; rfl, drewn hW _⟩
 · have hz : (formE e f != 0) = true := by simp [h]
   have H := Lib.hid (fitsE_form (b := b) h)
   clear h
   go_enter Tryz.func32, Tryz.ntmps32
   go_wp2_with (go_at_call 45; refine (formCheck_any e f _).mono ?_; rintro en w1 ⟨rfl, hb1⟩; have hW := next (more (Below.refl _ _) _) hb1)
   go_ret
   exact ⟨by rw [H.out]; rfl, hW⟩
def takeN (b fr sz : Nat) : Nat := b / pw fr % pw sz
theorem and_mask {b sz : Nat} (hs : sz ≤ 64) (hb : b < 18446744073709551616) : bits BinOp.and IntKind.u64 (b : Int) (maskN sz : Int) = ((b % pw sz : Nat) : Int) := by
 have h64 : pw 64 = 18446744073709551616 := by unfold pw; rfl
 have hm : maskN sz < 18446744073709551616 := by
  have := pw_le hs
  have := pw_pos sz
  rw [maskN_eq]
  omega
 rw [u64_and_nat _ _ hb hm]
 unfold maskN pw
 rw [Nat.and_two_pow_sub_one_eq_mod]
theorem take_any (fr sz b : Nat) (w : World) (hs : fr + sz ≤ 64) (hb : b < 18446744073709551616) :
 Calls Tryz.prog 112 #[.agg #[.int .i64 fr, .int .i64 sz], .int .u64 b] w fun en w' => en = .returned (.int .u64 (takeN b fr sz : Int)) ∧ Below w.heap.size w w' := by
 have hq : b / 2 ^ fr < 18446744073709551616 := Nat.lt_of_le_of_lt (Nat.div_le_self _ _) hb
 have e1 := int_div_pow b fr
 have e2 := and_mask (b := b / 2 ^ fr) (sz := sz) (by omega) hq
 have E2 := Lib.hid e2
 have E1 := Lib.hid e1
 clear e1 e2
 go_enter Tryz.func112, Tryz.ntmps112
 go_wp2_with (go_at_call 66; refine (mask_any sz _ (by omega)).mono ?_; rintro en w1 ⟨rfl, rfl⟩)
 go_ret
 exact ⟨congrArg (fun q => Ending.returned (Value.int IntKind.u64 q)) (by rw [E1.out, E2.out]; unfold takeN pw; rfl), more (Below.refl _ _) _⟩
theorem takeN_lt (b fr sz : Nat) : takeN b fr sz < pw sz := Nat.mod_lt _ (pw_pos sz)
def sgB (e f b : Nat) : Bool := decide (takeN b (f + e) 1 ≠ 0)
def exN (e f b : Nat) : Nat := takeN b f e
def frN (f b : Nat) : Nat := takeN b 0 f
theorem take0_any (sz b : Nat) (w : World) (hs : sz ≤ 64) (hb : b < 18446744073709551616) :
 Calls Tryz.prog 112 #[.agg #[.int .i64 0, .int .i64 sz], .int .u64 b] w fun en w' => en = .returned (.int .u64 (frN sz b : Int)) ∧ Below w.heap.size w w' := take_any 0 sz b w (by omega) hb
theorem takeTop_any (e f b : Nat) (w : World) (hs : f + e + 1 ≤ 64) (hb : b < 18446744073709551616) :
 Calls Tryz.prog 112 #[.agg #[.int .i64 ((f : Int) + (e : Int)), .int .i64 1], .int .u64 b] w fun en w' => en = .returned (.int .u64 (takeN b (f + e) 1 : Int)) ∧ Below w.heap.size w w' := by
 have h := take_any (f + e) 1 b w hs hb
 rw [show ((f + e : Nat) : Int) = (f : Int) + (e : Int) from by omega] at h
 exact h
structure SplitK (e f h p : Nat) (w w' : World) : Prop where
 a0 : w'.cell? ⟨p, 0, none⟩ = some (.int .i64 0)
 a1 : w'.cell? ⟨p, 1, none⟩ = some (.int .i64 f)
 a2 : w'.cell? ⟨p, 2, none⟩ = some (.int .i64 f)
 a3 : w'.cell? ⟨p, 3, none⟩ = some (.int .i64 e)
 a4 : w'.cell? ⟨p, 4, none⟩ = some (.int .i64 (↑f + ↑e))
 a5 : w'.cell? ⟨p, 5, none⟩ = some (.int .i64 1)
 bel : Below w.heap.size w w'
 res : Res3 w' (h + 1)
 lt : h + 1 < p
 le : w.heap.size ≤ h
theorem SplitK.stay {e f h p : Nat} {w wp w' : World} (k : SplitK e f h p w wp) (hb : Below wp.heap.size wp w') : SplitK e f h p w w' :=
 ⟨cellStay k.a0 hb, cellStay k.a1 hb, cellStay k.a2 hb, cellStay k.a3 hb, cellStay k.a4 hb, cellStay k.a5 hb, next k.bel hb, k.res.stay hb, k.lt, k.le⟩
theorem SplitK.drew {e f h p : Nat} {w wp : World} (k : SplitK e f h p w wp) : SplitK e f h p w wp.drew := k.stay ((Below.refl _ _).drew)
theorem SplitK.set {e f h p : Nat} {w wp : World} (k : SplitK e f h p w wp) (u v x : Value) : SplitK e f h p w (((wp.setCell ⟨h + 1, 0, none⟩ u).setCell ⟨h + 1, 1, none⟩ v).setCell ⟨h + 1, 2, none⟩ x) := by
 have hne : p ≠ h + 1 := by have := k.lt; omega
 have hle := k.le
 exact ⟨(cell_set3 hne u v x).trans k.a0, (cell_set3 hne u v x).trans k.a1, (cell_set3 hne u v x).trans k.a2, (cell_set3 hne u v x).trans k.a3, (cell_set3 hne u v x).trans k.a4, (cell_set3 hne u v x).trans k.a5,
  ((k.bel.setCell (by simp; omega) _).setCell (by simp; omega) _).setCell (by simp; omega) _, k.res.set u v x, k.lt, k.le⟩
theorem SplitK.conj {e f h p : Nat} {w w' : World} (k : SplitK e f h p w w') :
 w'.cell? ⟨p, 0, none⟩ = some (.int .i64 0) ∧ w'.cell? ⟨p, 1, none⟩ = some (.int .i64 f) ∧ w'.cell? ⟨p, 2, none⟩ = some (.int .i64 f) ∧ w'.cell? ⟨p, 3, none⟩ = some (.int .i64 e) ∧ w'.cell? ⟨p, 4, none⟩ = some (.int .i64 (↑f + ↑e)) ∧ w'.cell? ⟨p, 5, none⟩ = some (.int .i64 1) ∧
 w'.cell? ⟨h + 1, 0, none⟩ = some (cellOf w' (h + 1) 0) ∧ w'.cell? ⟨h + 1, 1, none⟩ = some (cellOf w' (h + 1) 1) ∧ w'.cell? ⟨h + 1, 2, none⟩ = some (cellOf w' (h + 1) 2) ∧
 w'.frozen? ⟨h + 1, 0, none⟩ = false ∧ w'.frozen? ⟨h + 1, 1, none⟩ = false ∧ w'.frozen? ⟨h + 1, 2, none⟩ = false ∧ SplitK e f h p w w' :=
 ⟨k.a0, k.a1, k.a2, k.a3, k.a4, k.a5, k.res.c0, k.res.c1, k.res.c2, k.res.z0, k.res.z1, k.res.z2, k⟩
theorem split_any (e f b : Nat) (w : World) (h : formE (e : Int) (f : Int) = 0) (hb : b < 18446744073709551616) (hp : b < pw (1 + e + f)) :
 Calls Tryz.prog 65 #[.agg #[.int .i64 e, .int .i64 f], .int .u64 b] w fun en w' => en = .returned (.tuple #[.agg #[.bool (sgB e f b), .int .i64 (exN e f b), .int .u64 (frN f b)], .int .i64 0]) ∧ Below w.heap.size w w' := by
 obtain ⟨h1, h2, h3, h4⟩ := formE_ok h
 have g1 : 2 ≤ e := by omega
 have g2 : e ≤ 11 := by omega
 have g3 : f ≤ 52 := by omega
 have hfit := fitsE_ok h hp
 have hz : (fitsE (e : Int) (f : Int) b != 0) = false := by simp [hfit]
 clear h h1 h2 h3 h4 hfit
 go_enter Tryz.func65, Tryz.ntmps65
 go_wp2_with (first
  | (go_at_call 32; refine (fits_any e f b _ hb).mono ?_; rintro en w1 ⟨rfl, hb1⟩; have A := ((box2_new w (.int .i64 (e : Int)) (.int .i64 (f : Int)) 23).alloc _).stay hb1; have ⟨c0, c1⟩ := A; have B := (box3_new _ _ _ _ _).stay hb1; rw [World.size_alloc] at B; have hW := next (more (more (Below.refl _ _) _) _) hb1)
  | (go_at_call 111; refine (layout_any e f _ g2 g3).mono ?_; rintro en w2 ⟨rfl, hb2⟩; replace B := B.stay hb2; replace hW := next hW hb2))
 have hK : SplitK e f w.heap.size w2.heap.size w (w2.alloc (.cells #[.int .i64 0, .int .i64 f, .int .i64 f, .int .i64 e, .int .i64 (↑f + ↑e), .int .i64 1] 153)) := ⟨by simp, by simp, by simp, by simp, by simp, by simp, more hW _, (B.alloc _).res, B.lt, Nat.le_refl _⟩
 clear c0 c1 hb1 hb2 A B hW
 go_region_held3 (fun w' => w'.cell? ⟨w2.heap.size, 0, none⟩ = some (.int .i64 0) ∧ w'.cell? ⟨w2.heap.size, 1, none⟩ = some (.int .i64 f) ∧ w'.cell? ⟨w2.heap.size, 2, none⟩ = some (.int .i64 f) ∧ w'.cell? ⟨w2.heap.size, 3, none⟩ = some (.int .i64 e) ∧ w'.cell? ⟨w2.heap.size, 4, none⟩ = some (.int .i64 (↑f + ↑e)) ∧ w'.cell? ⟨w2.heap.size, 5, none⟩ = some (.int .i64 1) ∧ w'.cell? ⟨w.heap.size + 1, 0, none⟩ = some (cellOf w' (w.heap.size + 1) 0) ∧ w'.cell? ⟨w.heap.size + 1, 1, none⟩ = some (cellOf w' (w.heap.size + 1) 1) ∧ w'.cell? ⟨w.heap.size + 1, 2, none⟩ = some (cellOf w' (w.heap.size + 1) 2) ∧ w'.frozen? ⟨w.heap.size + 1, 0, none⟩ = false ∧ w'.frozen? ⟨w.heap.size + 1, 1, none⟩ = false ∧ w'.frozen? ⟨w.heap.size + 1, 2, none⟩ = false ∧ SplitK e f w.heap.size w2.heap.size w w')
  ((first | exact SplitK.conj hK.drew | (go_split_ands; exact SplitK.conj (SplitK.stay (by assumption) hbB)) | (go_split_ands; exact SplitK.conj (SplitK.set (by assumption) _ _ _)) | (go_keep; done)))
  (first | (go_at_call 112; (with_reducible refine (take0_any f b _ (by omega) hb).mono ?_); rintro en wB ⟨rfl, hbB⟩) | (go_at_call 112; (with_reducible refine (take_any f e b _ (by omega) hb).mono ?_); rintro en wB ⟨rfl, hbB⟩) | (go_at_call 112; (with_reducible refine (takeTop_any e f b _ (by omega) hb).mono ?_); rintro en wB ⟨rfl, hbB⟩))
 go_wp2
 have KB : SplitK e f w.heap.size w2.heap.size w wB := SplitK.stay (SplitK.stay (SplitK.stay hK.drew (by assumption)) (by assumption)) hbB
 have hex : IntKind.i64.wrap (takeN b f e : Int) = (exN e f b : Int) := IntWalk.i64_in _ (by have := takeN_lt b f e; have := pw_le g2; have e11 : pw 11 = 2048 := (by unfold pw; rfl); constructor <;> omega)
 have hsg : ((takeN b (f + e) 1 : Int) != 0) = sgB e f b := by unfold sgB; rw [Bool.eq_iff_iff]; simp
 have KS := KB.set (.bool ((takeN b (f + e) 1 : Int) != 0)) (.int .i64 (IntKind.i64.wrap (takeN b f e : Int))) (.int .u64 (frN f b : Int))
 obtain ⟨t0, t1, t2⟩ := KB.res.box.set (.bool ((takeN b (f + e) 1 : Int) != 0)) (.int .i64 (IntKind.i64.wrap (takeN b f e : Int))) (.int .u64 (frN f b : Int))
 refine bodyPost_ret (v := .tuple #[.agg #[.bool ((takeN b (f + e) 1 : Int) != 0), .int .i64 (IntKind.i64.wrap (takeN b f e : Int)), .int .u64 (frN f b : Int)], .int .i64 0]) ?_ rfl ⟨by rw [hex, hsg], KS.bel⟩
 clear KS
 simp only [results, Tryz.results65]
 simp [go_sem, t0, t1, t2]
theorem split_no (e f : Int) (b : Nat) (w : World) (h : fitsE e f b ≠ 0) (hb : b < 18446744073709551616) :
 Calls Tryz.prog 65 #[.agg #[.int .i64 e, .int .i64 f], .int .u64 b] w fun en w' => en = .returned (.tuple #[.agg #[.bool false, .int .i64 0, .int .u64 0], .int .i64 (fitsE e f b)]) ∧ Below w.heap.size w w' := by
 have hz : (fitsE e f b != 0) = true := by simp [h]
 clear h
 go_enter Tryz.func65, Tryz.ntmps65
 go_wp2_with (go_at_call 32; refine (fits_any e f b _ hb).mono ?_; rintro en w1 ⟨rfl, hb1⟩; have B := (box3_new _ _ _ _ _).stay hb1; rw [World.size_alloc] at B; have ⟨b0, b1, b2, z0, z1, z2⟩ := B; have hW := next (more (more (Below.refl _ _) _) _) hb1)
 obtain ⟨t0, t1, t2⟩ := B.set (.bool false) (.int .i64 0) (.int .u64 0)
 refine bodyPost_ret (v := .tuple #[.agg #[.bool false, .int .i64 0, .int .u64 0], .int .i64 (fitsE e f b)]) (by simp [results, Tryz.results65, go_sem, t0, t1, t2]) rfl ⟨rfl, ((hW.setCell (by simp) _).setCell (by simp) _).setCell (by simp) _⟩
def classN (e ex fr : Nat) : Nat := if ex = 0 then (if fr = 0 then 1 else 2) else if ex = maskN e then (if fr = 0 then 4 else 5) else 3
theorem exN_lt (e f b : Nat) : exN e f b < pw e := takeN_lt b f e
theorem maskN_lt11 {e : Nat} (h : e ≤ 11) : maskN e ≤ 2047 := by
 have := pw_le h
 have e11 : pw 11 = 2048 := by unfold pw; rfl
 rw [maskN_eq]; omega
theorem class_any (e f b : Nat) (w : World) (h : formE (e : Int) (f : Int) = 0) (hb : b < 18446744073709551616) (hp : b < pw (1 + e + f)) :
 Calls Tryz.prog 33 #[.agg #[.int .i64 e, .int .i64 f], .int .u64 b] w fun en w' => en = .returned (.tuple #[.int .u8 (classN e (exN e f b) (frN f b)), .int .i64 0]) ∧ Below w.heap.size w w' := by
 obtain ⟨h1, h2, h3, h4⟩ := formE_ok h
 have g2 : e ≤ 11 := by omega
 have hm := maskN_lt11 g2
 have hex : exN e f b ≤ 2047 := by have := exN_lt e f b; have := pw_le g2; have e11 : pw 11 = 2048 := (by unfold pw; rfl); omega
 have hw : IntKind.u64.wrap (exN e f b : Int) = (exN e f b : Int) := IntWalk.u64_in _ (by omega)
 have sp := split_any e f b
 obtain ⟨ex, hexd⟩ : ∃ ex, ex = exN e f b := ⟨_, rfl⟩
 obtain ⟨fr, hfrd⟩ : ∃ fr, fr = frN f b := ⟨_, rfl⟩
 rw [← hexd, ← hfrd] at sp
 rw [← hexd] at hex hw
 rw [← hexd, ← hfrd]
 clear hexd hfrd
 have way : ∀ k : Nat, classN e ex fr = k → (ex = 0 ∧ fr = 0 ∧ k = 1 ∨ ex = 0 ∧ fr ≠ 0 ∧ k = 2 ∨ ex ≠ 0 ∧ ex = maskN e ∧ fr = 0 ∧ k = 4 ∨ ex ≠ 0 ∧ ex = maskN e ∧ fr ≠ 0 ∧ k = 5 ∨ ex ≠ 0 ∧ ex ≠ maskN e ∧ k = 3) := fun k hk => by
  unfold classN at hk
  by_cases c1 : ex = 0
  · by_cases c2 : fr = 0
    · rw [if_pos c1, if_pos c2] at hk; omega
    · rw [if_pos c1, if_neg c2] at hk; omega
  · by_cases c3 : ex = maskN e
    · by_cases c2 : fr = 0
      · rw [if_neg c1, if_pos c3, if_pos c2] at hk; omega
      · rw [if_neg c1, if_pos c3, if_neg c2] at hk; omega
    · rw [if_neg c1, if_neg c3] at hk; omega
 obtain ⟨k, hk⟩ : ∃ k, k = classN e ex fr := ⟨_, rfl⟩
 have wy := way k hk.symm
 rw [← hk]
 clear way hk
 rcases wy with ⟨c1, c2, rfl⟩ | ⟨c1, c2, rfl⟩ | ⟨c1, c2, c3, rfl⟩ | ⟨c1, c2, c3, rfl⟩ | ⟨c1, c2, rfl⟩
 all_goals
  have hx0 : ((ex : Int) == 0) = decide (ex = 0) := by rw [Bool.eq_iff_iff]; simp
  have hxm : ((ex : Int) == (maskN e : Int)) = decide (ex = maskN e) := by rw [Bool.eq_iff_iff]; simp; omega
  have hf0 : ((fr : Int) == 0) = decide (fr = 0) := by rw [Bool.eq_iff_iff]; simp
 · rw [decide_eq_true c1] at hx0
   rw [decide_eq_true c2] at hf0
   clear hxm c1 c2
   go_enter Tryz.func33, Tryz.ntmps33
   go_wp2_with (first
    | (go_at_call 65; refine (sp _ h hb hp).mono ?_; rintro en w1 ⟨rfl, hb1⟩; have A := (box2_new w (.int .i64 (e : Int)) (.int .i64 (f : Int)) 23).stay hb1; have ⟨a0, a1⟩ := A; have hl := A.lt; have hW := next (more (Below.refl _ _) _) hb1)
    | (go_at_call 66; refine (mask_any e _ (by omega)).mono ?_; rintro en w2 ⟨rfl, rfl⟩))
   go_ret2
   exact ⟨rfl, more hW _⟩
 · rw [decide_eq_true c1] at hx0
   rw [decide_eq_false c2] at hf0
   clear hxm c1 c2
   go_enter Tryz.func33, Tryz.ntmps33
   go_wp2_with (first
    | (go_at_call 65; refine (sp _ h hb hp).mono ?_; rintro en w1 ⟨rfl, hb1⟩; have A := (box2_new w (.int .i64 (e : Int)) (.int .i64 (f : Int)) 23).stay hb1; have ⟨a0, a1⟩ := A; have hl := A.lt; have hW := next (more (Below.refl _ _) _) hb1)
    | (go_at_call 66; refine (mask_any e _ (by omega)).mono ?_; rintro en w2 ⟨rfl, rfl⟩))
   go_ret2
   exact ⟨rfl, more hW _⟩
 · rw [decide_eq_false c1] at hx0
   rw [decide_eq_true c2] at hxm
   rw [decide_eq_true c3] at hf0
   clear c1 c2 c3
   go_enter Tryz.func33, Tryz.ntmps33
   go_wp2_with (first
    | (go_at_call 65; refine (sp _ h hb hp).mono ?_; rintro en w1 ⟨rfl, hb1⟩; have A := (box2_new w (.int .i64 (e : Int)) (.int .i64 (f : Int)) 23).stay hb1; have ⟨a0, a1⟩ := A; have hl := A.lt; have hW := next (more (Below.refl _ _) _) hb1)
    | (go_at_call 66; refine (mask_any e _ (by omega)).mono ?_; rintro en w2 ⟨rfl, rfl⟩))
   go_ret2
   exact ⟨rfl, more hW _⟩
 · rw [decide_eq_false c1] at hx0
   rw [decide_eq_true c2] at hxm
   rw [decide_eq_false c3] at hf0
   clear c1 c2 c3
   go_enter Tryz.func33, Tryz.ntmps33
   go_wp2_with (first
    | (go_at_call 65; refine (sp _ h hb hp).mono ?_; rintro en w1 ⟨rfl, hb1⟩; have A := (box2_new w (.int .i64 (e : Int)) (.int .i64 (f : Int)) 23).stay hb1; have ⟨a0, a1⟩ := A; have hl := A.lt; have hW := next (more (Below.refl _ _) _) hb1)
    | (go_at_call 66; refine (mask_any e _ (by omega)).mono ?_; rintro en w2 ⟨rfl, rfl⟩))
   go_ret2
   exact ⟨rfl, more hW _⟩
 · rw [decide_eq_false c1] at hx0
   rw [decide_eq_false c2] at hxm
   clear hf0 c1 c2
   go_enter Tryz.func33, Tryz.ntmps33
   go_wp2_with (first
    | (go_at_call 65; refine (sp _ h hb hp).mono ?_; rintro en w1 ⟨rfl, hb1⟩; have A := (box2_new w (.int .i64 (e : Int)) (.int .i64 (f : Int)) 23).stay hb1; have ⟨a0, a1⟩ := A; have hl := A.lt; have hW := next (more (Below.refl _ _) _) hb1)
    | (go_at_call 66; refine (mask_any e _ (by omega)).mono ?_; rintro en w2 ⟨rfl, rfl⟩))
   go_ret2
   exact ⟨rfl, more hW _⟩
theorem val_two {n : Nat} (h : n < 18446744073709551616) : val [n % 4294967296, n / 4294967296 % 4294967296] = n := by
 simp only [val]
 omega
theorem ok_two (n : Nat) : Ok [n % 4294967296, n / 4294967296 % 4294967296] := fun x hx => by
 simp at hx
 omega
theorem lits_two (n : Nat) : [Value.int .u32 ((n : Int) % 4294967296), Value.int .u32 ((n : Int) / 4294967296 % 4294967296)] = lvs [n % 4294967296, n / 4294967296 % 4294967296] := by
 unfold lvs lv
 simp
theorem own_two (w : World) (n : Nat) {x y : Int} (hx : x = (n : Int) % 4294967296) (hy : y = (n : Int) / 4294967296 % 4294967296) : (w.alloc (.cells #[.int .u32 x, .int .u32 y] 40)).ownsRow w.heap.size 40 1 (.slice (some ⟨w.heap.size, 0, none⟩) 2 2) 2 (lvs [n % 4294967296, n / 4294967296 % 4294967296]) := by
 subst hx
 subst hy
 rw [← lits_two n]
 exact World.ownsRow_lit w #[.int .u32 ((n : Int) % 4294967296), .int .u32 ((n : Int) / 4294967296 % 4294967296)] 2 (Nat.le_refl _) (by decide) rfl
theorem natOf_any (n : Nat) (w : World) (hn : n < 18446744073709551616) :
 Calls Tryz.prog 36 #[.int .u64 n] w fun e w' => ∃ ao k c, e = .returned (.agg #[.slice ao k c]) ∧ Fr 40 w' w.heap.size ao k c (limbs n) ∧ Below w.heap.size w w' := by
 have hv := Lib.hid (val_two hn)
 go_enter Tryz.func36, Tryz.ntmps36
 go_wp2_with fail
 have ow := own_two (w.alloc (.cells #[.slice none 0 0] 27)) n (x := (n : Int) % 4294967296) (y := (n : Int) / 4294967296) rfl (by omega)
 rw [World.size_alloc] at ow
 refine (natTrimmed_own _ ow (ok_two n)).mono ?_
 rintro e w1 ⟨a1, k1, rfl, hF, hb1⟩
 rw [hv.out] at hF
 have B := ((box1_new w (.slice none 0 0) 27).alloc (.cells #[.int .u32 ((n : Int) % 4294967296), .int .u32 ((n : Int) / 4294967296)] 40)).stay hb1
 have ⟨b0, bz⟩ := B
 have hW := next (more (more (Below.refl _ _) _) _) hb1
 go_wp2
 refine bodyPost_ret (v := .agg #[.slice a1 k1 k1]) (by simp [results, Tryz.results36, go_sem, B.set]) rfl ⟨a1, k1, k1, rfl, (hF.setCell (by simp) _).mono (by omega), hW.setCell (by simp) _⟩
end Go.Proofs.YtpmncmglmobjoaaGreatDoor
