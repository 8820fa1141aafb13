/-
  The walks of numeral/turn: asked, below, To.
-/
import Derived.Test.YtoiifhmepniniaaGreatDoorQbCMC28
set_option maxHeartbeats 2000000
set_option maxRecDepth 100000
namespace Go.Proofs.YtoiifhmepniniaaGreatDoor
open Go.RowKit Go.Lb
section
attribute [local go_sem] Go.World.cell?_alloc_some
structure TwoF (w w1 : World) (e f g h : Int) : Prop where
 hW : Below w.heap.size w w1
 a0 : w1.cell? ⟨w.heap.size, 0, none⟩ = some (.int .i64 e)
 a1 : w1.cell? ⟨w.heap.size, 1, none⟩ = some (.int .i64 f)
 b0 : w1.cell? ⟨w.heap.size + 1, 0, none⟩ = some (.int .i64 g)
 b1 : w1.cell? ⟨w.heap.size + 1, 1, none⟩ = some (.int .i64 h)
theorem TwoF.go {w w1 w2 : World} {e f g h : Int} (H : TwoF w w1 e f g h) (hb : Below w1.heap.size w1 w2) : TwoF w w2 e f g h :=
 ⟨next H.hW hb, cellStay H.a0 hb, cellStay H.a1 hb, cellStay H.b0 hb, cellStay H.b1 hb⟩
theorem two_forms (w : World) (e f g h : Int) : TwoF w ((w.alloc (.cells #[.int .i64 e, .int .i64 f] 31)).alloc (.cells #[.int .i64 g, .int .i64 h] 31)) e f g h := by
 have A := (box2_new w (.int .i64 e) (.int .i64 f) 31).alloc (.cells #[.int .i64 g, .int .i64 h] 31)
 have B := box2_new (w.alloc (.cells #[.int .i64 e, .int .i64 f] 31)) (.int .i64 g) (.int .i64 h) 31
 rw [World.size_alloc] at B
 exact ⟨more (more (Below.refl _ _) _) _, A.c0, A.c1, B.c0, B.c1⟩
theorem fitsE_three (e f : Int) (b : Nat) : (formE e f = 5 ∧ fitsE e f b = 5) ∨ (formE e f = 0 ∧ (fitsE e f b = 0 ∨ fitsE e f b = 6)) := by
 unfold fitsE formE
 cases formB e f
 · exact .inl ⟨rfl, rfl⟩
 · refine .inr ⟨rfl, ?_⟩
   by_cases h : b < pw (1 + e.toNat + f.toNat)
   · simp [h]
   · simp [h]
theorem turnAsked_any (e f : Int) (b : Nat) (w : World) (hb : b < 18446744073709551616) :
 Calls Tryz.prog 68 #[.agg #[.int .i64 e, .int .i64 f], .int .u64 (b : Int)] w fun en w' => en = .returned (.int .i64 (fitsE e f b)) ∧ Below w.heap.size w w' := by
 have B := box2_new w (.int .i64 e) (.int .i64 f) 31
 have hW := more (Below.refl w.heap.size w) (.cells #[.int .i64 e, .int .i64 f] 31)
 have ⟨a0, a1⟩ := B
 have c1 := fun W => formCheck_any e f W
 have c2 := fun W => fits_any e f b W hb
 rcases fitsE_three e f b with ⟨h1, h2⟩ | ⟨h1, h2 | h2⟩
 · rw [h1] at c1
   rw [h2]
   go_enter Tryz.func68, Tryz.ntmps68
   go_wp2_with fail
   refine (c1 _).mono ?_
   rintro en w1 ⟨rfl, hb1⟩
   go_wp2
   go_ret
   exact ⟨rfl, next hW hb1⟩
 all_goals
  rw [h1] at c1
  rw [h2] at c2 ⊢
  go_enter Tryz.func68, Tryz.ntmps68
  go_wp2_with fail
  refine (c1 _).mono ?_
  rintro en w1 ⟨rfl, hb1⟩
  have ⟨d0, d1⟩ := B.stay hb1
  go_wp2_with fail
  refine (c2 _).mono ?_
  rintro en w2 ⟨rfl, hb2⟩
  go_wp2
  go_ret
  exact ⟨rfl, next (next hW hb1) hb2⟩
theorem shr_sign {E F b : Nat} (hb : b < pw (1 + E + F)) : ((b : Int) / 2 ^ (E + F) != 0) = sgB E F b := by
 rw [(bits_parts hb).2]
 have h : ((b : Int) / 2 ^ (E + F)) = ((b / 2 ^ (E + F) : Nat) : Int) := by simp
 rw [h, Bool.eq_iff_iff]
 have hp := Nat.two_pow_pos (E + F)
 constructor
 · intro hh
   refine decide_eq_true ?_
   rcases Nat.lt_or_ge b (2 ^ (E + F)) with h1 | h1
   · rw [Nat.div_eq_of_lt h1] at hh
     exact absurd hh (by decide)
   · exact h1
 · intro hh
   have h1 := of_decide_eq_true hh
   have h2 := Nat.div_pos h1 hp
   simp
   omega
theorem turnBelow_any (E F b : Nat) (w : World) (h11 : E ≤ 11) (hF : F ≤ 52) (hb : b < pw (1 + E + F)) :
 Calls Tryz.prog 69 #[.agg #[.int .i64 (E : Int), .int .i64 (F : Int)], .int .u64 (b : Int)] w fun en w' => en = .returned (.bool (sgB E F b)) ∧ Below w.heap.size w w' := by
 obtain ⟨k, hk⟩ : ∃ k : Nat, (E : Int) + (F : Int) = (k : Int) := ⟨E + F, by omega⟩
 have hkk : k = E + F := by omega
 have hk2 : k ≤ 63 := by omega
 have hS := shr_sign hb
 rw [← hkk] at hS
 have H := Lib.hid hS
 clear hS hkk
 go_enter Tryz.func69, Tryz.ntmps69
 go_wp2
 go_ret
 exact ⟨by rw [H.out]; rfl, more (Below.refl _ _) _⟩
theorem turPayload_any (e f b : Nat) (w : World) (h : formE (e : Int) (f : Int) = 0) (hb : b < 18446744073709551616) (hp : b < pw (1 + e + f)) (hxm : exN e f b = maskN e) (hf0 : frN f b ≠ 0) :
 Calls Tryz.prog 72 #[.agg #[.int .i64 e, .int .i64 f], .int .u64 b] w fun en w' => ∃ p : Int, en = .returned (.tuple #[.int .u64 p, .bool (quB f b), .int .i64 0]) ∧ Below w.heap.size w w' := by
 obtain ⟨q1, q2, q3, q4⟩ := formE_ok h
 have hC := class_nan hxm (by omega) hf0
 have hf1 : (f : Int) - 1 = ((f - 1 : Nat) : Int) := by omega
 have HQ := Lib.hid (quiet_turn (f := f) (b := b) (by omega) (by omega) hb)
 go_enter Tryz.func72, Tryz.ntmps72
 go_wp2_with (first
  | (go_at_call 70; refine (class_any e f b _ h hb hp).mono ?_; rintro en w1 ⟨rfl, hb1⟩; rw [hC]; have A := (box2_new w _ _ _).stay hb1; have ⟨a0, a1⟩ := A; have hW := next (more (Below.refl _ _) _) hb1)
  | (go_at_call 110; (with_reducible refine (mask_any f _ (by omega)).mono ?_); rintro en w2 ⟨rfl, rfl⟩)
  | (go_at_call 110; (with_reducible refine (mask_any (f - 1) _ (by omega)).mono ?_); rintro en w2 ⟨rfl, rfl⟩))
 refine bodyPost_ret (v := .tuple #[.int .u64 (bits .and .u64 (bits .and .u64 (b : Int) (maskN f : Int)) (maskN (f - 1) : Int)), .bool (bits .and .u64 (b : Int) (maskN f : Int) != bits .and .u64 (bits .and .u64 (b : Int) (maskN f : Int)) (maskN (f - 1) : Int)), .int .i64 0]) (by simp [results, Tryz.results72, go_sem]) rfl ⟨_, by rw [HQ.out], hW⟩
theorem turnTo_form1 (e f g h : Int) (b m : Nat) (w : World) (h1 : formE e f = 5) :
 Calls Tryz.prog 13 #[.agg #[.int .i64 e, .int .i64 f], .agg #[.int .i64 g, .int .i64 h], .int .u64 (b : Int), .int .u8 (m : Int)] w fun en w' => en = .returned (.tuple #[.int .u64 0, .int .u8 0, .int .i64 5]) ∧ Below w.heap.size w w' := by
 have H2 := two_forms w e f g h
 have ⟨hW, a0, a1, b0, b1⟩ := H2
 have cF := fun W => formCheck_any e f W
 rw [h1] at cF
 go_enter Tryz.func13, Tryz.ntmps13
 go_wp2_with (first
  | (go_at_call 67; (with_reducible refine (cF _).mono ?_); rintro en w1 ⟨rfl, hb1⟩; replace H2 := H2.go hb1; have ⟨hW, a0, a1, b0, b1⟩ := H2))
 go_ret3
 exact ⟨rfl, hW⟩
theorem turnTo_form2 (e f g h : Int) (b m : Nat) (w : World) (h1 : formE e f = 0) (h2 : formE g h = 5) :
 Calls Tryz.prog 13 #[.agg #[.int .i64 e, .int .i64 f], .agg #[.int .i64 g, .int .i64 h], .int .u64 (b : Int), .int .u8 (m : Int)] w fun en w' => en = .returned (.tuple #[.int .u64 0, .int .u8 0, .int .i64 5]) ∧ Below w.heap.size w w' := by
 have H2 := two_forms w e f g h
 have ⟨hW, a0, a1, b0, b1⟩ := H2
 have cF := fun W => formCheck_any e f W
 have cG := fun W => formCheck_any g h W
 rw [h1] at cF
 rw [h2] at cG
 go_enter Tryz.func13, Tryz.ntmps13
 go_wp2_with (first
  | (go_at_call 67; (with_reducible refine (cF _).mono ?_); rintro en w1 ⟨rfl, hb1⟩; replace H2 := H2.go hb1; have ⟨hW, a0, a1, b0, b1⟩ := H2)
  | (go_at_call 67; (with_reducible refine (cG _).mono ?_); rintro en w1 ⟨rfl, hb1⟩; replace H2 := H2.go hb1; have ⟨hW, a0, a1, b0, b1⟩ := H2))
 go_ret3
 exact ⟨rfl, hW⟩
theorem turnTo_bits (e f g h : Int) (b m : Nat) (w : World) (hb : b < 18446744073709551616) (h1 : formE e f = 0) (h2 : formE g h = 0) (hx : fitsE e f b = 6) :
 Calls Tryz.prog 13 #[.agg #[.int .i64 e, .int .i64 f], .agg #[.int .i64 g, .int .i64 h], .int .u64 (b : Int), .int .u8 (m : Int)] w fun en w' => en = .returned (.tuple #[.int .u64 0, .int .u8 0, .int .i64 6]) ∧ Below w.heap.size w w' := by
 have H2 := two_forms w e f g h
 have ⟨hW, a0, a1, b0, b1⟩ := H2
 have cF := fun W => formCheck_any e f W
 have cG := fun W => formCheck_any g h W
 have cA := fun W => turnAsked_any e f b W hb
 rw [h1] at cF
 rw [h2] at cG
 rw [hx] at cA
 go_enter Tryz.func13, Tryz.ntmps13
 go_wp2_with (first
  | (go_at_call 67; (with_reducible refine (cF _).mono ?_); rintro en w1 ⟨rfl, hb1⟩; replace H2 := H2.go hb1; have ⟨hW, a0, a1, b0, b1⟩ := H2)
  | (go_at_call 67; (with_reducible refine (cG _).mono ?_); rintro en w1 ⟨rfl, hb1⟩; replace H2 := H2.go hb1; have ⟨hW, a0, a1, b0, b1⟩ := H2)
  | (go_at_call 68; (with_reducible refine (cA _).mono ?_); rintro en w1 ⟨rfl, hb1⟩; replace H2 := H2.go hb1; have ⟨hW, a0, a1, b0, b1⟩ := H2))
 go_ret3
 exact ⟨rfl, hW⟩
theorem turnTo_mode (e f g h : Int) (b m : Nat) (w : World) (hb : b < 18446744073709551616) (h1 : formE e f = 0) (h2 : formE g h = 0) (hx : fitsE e f b = 0) (hm : 4 < m) :
 Calls Tryz.prog 13 #[.agg #[.int .i64 e, .int .i64 f], .agg #[.int .i64 g, .int .i64 h], .int .u64 (b : Int), .int .u8 (m : Int)] w fun en w' => en = .returned (.tuple #[.int .u64 0, .int .u8 0, .int .i64 7]) ∧ Below w.heap.size w w' := by
 have H2 := two_forms w e f g h
 have ⟨hW, a0, a1, b0, b1⟩ := H2
 have hm4 : (m : Int) > 4 := by omega
 have cF := fun W => formCheck_any e f W
 have cG := fun W => formCheck_any g h W
 have cA := fun W => turnAsked_any e f b W hb
 rw [h1] at cF
 rw [h2] at cG
 rw [hx] at cA
 go_enter Tryz.func13, Tryz.ntmps13
 go_wp2_with (first
  | (go_at_call 67; (with_reducible refine (cF _).mono ?_); rintro en w1 ⟨rfl, hb1⟩; replace H2 := H2.go hb1; have ⟨hW, a0, a1, b0, b1⟩ := H2)
  | (go_at_call 67; (with_reducible refine (cG _).mono ?_); rintro en w1 ⟨rfl, hb1⟩; replace H2 := H2.go hb1; have ⟨hW, a0, a1, b0, b1⟩ := H2)
  | (go_at_call 68; (with_reducible refine (cA _).mono ?_); rintro en w1 ⟨rfl, hb1⟩; replace H2 := H2.go hb1; have ⟨hW, a0, a1, b0, b1⟩ := H2))
 go_ret3
 exact ⟨rfl, hW⟩
theorem turnTo_quiet (E F G H b m : Nat) (w : World) (h1 : formE (E : Int) (F : Int) = 0) (h2 : formE (G : Int) (H : Int) = 0) (hp : b < pw (1 + E + F)) (hm : m < 5) (hxm : exN E F b = maskN E) (hf0 : frN F b ≠ 0) (hq : quB F b = true) :
 Calls Tryz.prog 13 #[.agg #[.int .i64 (E : Int), .int .i64 (F : Int)], .agg #[.int .i64 (G : Int), .int .i64 (H : Int)], .int .u64 (b : Int), .int .u8 (m : Int)] w fun en w' => en = .returned (.tuple #[.int .u64 (nanN G H : Int), .int .u8 0, .int .i64 0]) ∧ Below w.heap.size w w' := by
 have H2 := two_forms w (E : Int) (F : Int) (G : Int) (H : Int)
 have ⟨hW, a0, a1, b0, b1⟩ := H2
 obtain ⟨e1, e2, e3, e4⟩ := formE_ok h1
 have hm4 : ¬ (m : Int) > 4 := by omega
 have hf := fits_bits h1 hp
 have hb : b < 18446744073709551616 := by
  have h := pw_le (j := 1 + E + F) (k := 64) (by omega)
  have h64 : pw 64 = 18446744073709551616 := by unfold pw; rfl
  omega
 have cF := fun W => formCheck_any (E : Int) (F : Int) W
 have cG := fun W => formCheck_any (G : Int) (H : Int) W
 have cA := fun W => turnAsked_any (E : Int) (F : Int) b W hb
 have cB := fun W => turnBelow_any E F b W (by omega) (by omega) hp
 have cC := fun W => class_any E F b W h1 hb hp
 rw [h1] at cF
 rw [h2] at cG
 rw [hf] at cA
 have hC := class_nan hxm (by omega) hf0
 have cN := fun W => formsNaN_zero G H W h2
 have cP := fun W => turPayload_any E F b W h1 hb hp hxm hf0
 rw [hC] at cC
 rw [hq] at cP
 generalize sgB E F b = sg at *
 generalize nanN G H = nn at *
 clear hxm hf0 hq hC hf h1 h2
 go_enter Tryz.func13, Tryz.ntmps13
 go_wp2_with (first
  | (go_at_call 67; (with_reducible refine (cF _).mono ?_); rintro en w1 ⟨rfl, hb1⟩; replace H2 := H2.go hb1; have ⟨hW, a0, a1, b0, b1⟩ := H2)
  | (go_at_call 67; (with_reducible refine (cG _).mono ?_); rintro en w1 ⟨rfl, hb1⟩; replace H2 := H2.go hb1; have ⟨hW, a0, a1, b0, b1⟩ := H2)
  | (go_at_call 68; (with_reducible refine (cA _).mono ?_); rintro en w1 ⟨rfl, hb1⟩; replace H2 := H2.go hb1; have ⟨hW, a0, a1, b0, b1⟩ := H2)
  | (go_at_call 69; (with_reducible refine (cB _).mono ?_); rintro en w1 ⟨rfl, hb1⟩; replace H2 := H2.go hb1; have ⟨hW, a0, a1, b0, b1⟩ := H2)
  | (go_at_call 70; (with_reducible refine (cC _).mono ?_); rintro en w1 ⟨rfl, hb1⟩; replace H2 := H2.go hb1; have ⟨hW, a0, a1, b0, b1⟩ := H2)
  | (go_at_call 71; (with_reducible refine (cN _).mono ?_); rintro en w1 ⟨rfl, hb1⟩; replace H2 := H2.go hb1; have ⟨hW, a0, a1, b0, b1⟩ := H2)
  | (go_at_call 72; (with_reducible refine (cP _).mono ?_); rintro en w1 ⟨p, rfl, hb1⟩; replace H2 := H2.go hb1; have ⟨hW, a0, a1, b0, b1⟩ := H2))
 go_ret3
 exact ⟨rfl, hW⟩
theorem turnTo_loud (E F G H b m : Nat) (w : World) (h1 : formE (E : Int) (F : Int) = 0) (h2 : formE (G : Int) (H : Int) = 0) (hp : b < pw (1 + E + F)) (hm : m < 5) (hxm : exN E F b = maskN E) (hf0 : frN F b ≠ 0) (hq : quB F b = false) :
 Calls Tryz.prog 13 #[.agg #[.int .i64 (E : Int), .int .i64 (F : Int)], .agg #[.int .i64 (G : Int), .int .i64 (H : Int)], .int .u64 (b : Int), .int .u8 (m : Int)] w fun en w' => en = .returned (.tuple #[.int .u64 (nanN G H : Int), .int .u8 16, .int .i64 0]) ∧ Below w.heap.size w w' := by
 have H2 := two_forms w (E : Int) (F : Int) (G : Int) (H : Int)
 have ⟨hW, a0, a1, b0, b1⟩ := H2
 obtain ⟨e1, e2, e3, e4⟩ := formE_ok h1
 have hm4 : ¬ (m : Int) > 4 := by omega
 have hf := fits_bits h1 hp
 have hb : b < 18446744073709551616 := by
  have h := pw_le (j := 1 + E + F) (k := 64) (by omega)
  have h64 : pw 64 = 18446744073709551616 := by unfold pw; rfl
  omega
 have cF := fun W => formCheck_any (E : Int) (F : Int) W
 have cG := fun W => formCheck_any (G : Int) (H : Int) W
 have cA := fun W => turnAsked_any (E : Int) (F : Int) b W hb
 have cB := fun W => turnBelow_any E F b W (by omega) (by omega) hp
 have cC := fun W => class_any E F b W h1 hb hp
 rw [h1] at cF
 rw [h2] at cG
 rw [hf] at cA
 have hC := class_nan hxm (by omega) hf0
 have cN := fun W => formsNaN_zero G H W h2
 have cP := fun W => turPayload_any E F b W h1 hb hp hxm hf0
 rw [hC] at cC
 rw [hq] at cP
 generalize sgB E F b = sg at *
 generalize nanN G H = nn at *
 clear hxm hf0 hq hC hf h1 h2
 go_enter Tryz.func13, Tryz.ntmps13
 go_wp2_with (first
  | (go_at_call 67; (with_reducible refine (cF _).mono ?_); rintro en w1 ⟨rfl, hb1⟩; replace H2 := H2.go hb1; have ⟨hW, a0, a1, b0, b1⟩ := H2)
  | (go_at_call 67; (with_reducible refine (cG _).mono ?_); rintro en w1 ⟨rfl, hb1⟩; replace H2 := H2.go hb1; have ⟨hW, a0, a1, b0, b1⟩ := H2)
  | (go_at_call 68; (with_reducible refine (cA _).mono ?_); rintro en w1 ⟨rfl, hb1⟩; replace H2 := H2.go hb1; have ⟨hW, a0, a1, b0, b1⟩ := H2)
  | (go_at_call 69; (with_reducible refine (cB _).mono ?_); rintro en w1 ⟨rfl, hb1⟩; replace H2 := H2.go hb1; have ⟨hW, a0, a1, b0, b1⟩ := H2)
  | (go_at_call 70; (with_reducible refine (cC _).mono ?_); rintro en w1 ⟨rfl, hb1⟩; replace H2 := H2.go hb1; have ⟨hW, a0, a1, b0, b1⟩ := H2)
  | (go_at_call 71; (with_reducible refine (cN _).mono ?_); rintro en w1 ⟨rfl, hb1⟩; replace H2 := H2.go hb1; have ⟨hW, a0, a1, b0, b1⟩ := H2)
  | (go_at_call 72; (with_reducible refine (cP _).mono ?_); rintro en w1 ⟨p, rfl, hb1⟩; replace H2 := H2.go hb1; have ⟨hW, a0, a1, b0, b1⟩ := H2))
 go_ret3
 exact ⟨rfl, hW⟩
theorem turnTo_inf (E F G H b m : Nat) (w : World) (h1 : formE (E : Int) (F : Int) = 0) (h2 : formE (G : Int) (H : Int) = 0) (hp : b < pw (1 + E + F)) (hm : m < 5) (hxm : exN E F b = maskN E) (hf0 : frN F b = 0) :
 Calls Tryz.prog 13 #[.agg #[.int .i64 (E : Int), .int .i64 (F : Int)], .agg #[.int .i64 (G : Int), .int .i64 (H : Int)], .int .u64 (b : Int), .int .u8 (m : Int)] w fun en w' => en = .returned (.tuple #[.int .u64 (joinN G H (sgB E F b) (maskN G) 0 : Int), .int .u8 0, .int .i64 0]) ∧ Below w.heap.size w w' := by
 have H2 := two_forms w (E : Int) (F : Int) (G : Int) (H : Int)
 have ⟨hW, a0, a1, b0, b1⟩ := H2
 obtain ⟨e1, e2, e3, e4⟩ := formE_ok h1
 have hm4 : ¬ (m : Int) > 4 := by omega
 have hf := fits_bits h1 hp
 have hb : b < 18446744073709551616 := by
  have h := pw_le (j := 1 + E + F) (k := 64) (by omega)
  have h64 : pw 64 = 18446744073709551616 := by unfold pw; rfl
  omega
 have cF := fun W => formCheck_any (E : Int) (F : Int) W
 have cG := fun W => formCheck_any (G : Int) (H : Int) W
 have cA := fun W => turnAsked_any (E : Int) (F : Int) b W hb
 have cB := fun W => turnBelow_any E F b W (by omega) (by omega) hp
 have cC := fun W => class_any E F b W h1 hb hp
 rw [h1] at cF
 rw [h2] at cG
 rw [hf] at cA
 have hC := class_inf hxm (by omega) hf0
 have cI := fun W => formsInf_any G H (sgB E F b) W h2
 rw [hC] at cC
 generalize joinN G H (sgB E F b) (maskN G) 0 = jj at *
 generalize sgB E F b = sg at *
 clear hxm hf0 hC hf h1 h2
 go_enter Tryz.func13, Tryz.ntmps13
 go_wp2_with (first
  | (go_at_call 67; (with_reducible refine (cF _).mono ?_); rintro en w1 ⟨rfl, hb1⟩; replace H2 := H2.go hb1; have ⟨hW, a0, a1, b0, b1⟩ := H2)
  | (go_at_call 67; (with_reducible refine (cG _).mono ?_); rintro en w1 ⟨rfl, hb1⟩; replace H2 := H2.go hb1; have ⟨hW, a0, a1, b0, b1⟩ := H2)
  | (go_at_call 68; (with_reducible refine (cA _).mono ?_); rintro en w1 ⟨rfl, hb1⟩; replace H2 := H2.go hb1; have ⟨hW, a0, a1, b0, b1⟩ := H2)
  | (go_at_call 69; (with_reducible refine (cB _).mono ?_); rintro en w1 ⟨rfl, hb1⟩; replace H2 := H2.go hb1; have ⟨hW, a0, a1, b0, b1⟩ := H2)
  | (go_at_call 70; (with_reducible refine (cC _).mono ?_); rintro en w1 ⟨rfl, hb1⟩; replace H2 := H2.go hb1; have ⟨hW, a0, a1, b0, b1⟩ := H2)
  | (go_at_call 73; (with_reducible refine (cI _).mono ?_); rintro en w1 ⟨rfl, hb1⟩; replace H2 := H2.go hb1; have ⟨hW, a0, a1, b0, b1⟩ := H2))
 go_ret3
 exact ⟨rfl, hW⟩
theorem turnTo_fin (E F G H b m : Nat) (w : World) (h1 : formE (E : Int) (F : Int) = 0) (h2 : formE (G : Int) (H : Int) = 0) (hp : b < pw (1 + E + F)) (hm : m < 5) (hxm : exN E F b ≠ maskN E) (hT : Tab w) :
 Calls Tryz.prog 13 #[.agg #[.int .i64 (E : Int), .int .i64 (F : Int)], .agg #[.int .i64 (G : Int), .int .i64 (H : Int)], .int .u64 (b : Int), .int .u8 (m : Int)] w fun en w' => en = .returned (.tuple #[.int .u64 (dyBits (G : Int) (H : Int) (valS (E : Int) (F : Int) b) (limbs (valN (E : Int) (F : Int) b)) (valX (E : Int) (F : Int) b) (sgB E F b) m : Int), .int .u8 (dyFlags (G : Int) (H : Int) (valS (E : Int) (F : Int) b) (limbs (valN (E : Int) (F : Int) b)) (valX (E : Int) (F : Int) b) m : Int), .int .i64 0]) ∧ Below w.heap.size w w' := by
 have H2 := two_forms w (E : Int) (F : Int) (G : Int) (H : Int)
 have ⟨hW, a0, a1, b0, b1⟩ := H2
 obtain ⟨e1, e2, e3, e4⟩ := formE_ok h1
 have hm4 : ¬ (m : Int) > 4 := by omega
 have hf := fits_bits h1 hp
 have hb : b < 18446744073709551616 := by
  have h := pw_le (j := 1 + E + F) (k := 64) (by omega)
  have h64 : pw 64 = 18446744073709551616 := by unfold pw; rfl
  omega
 have cF := fun W => formCheck_any (E : Int) (F : Int) W
 have cG := fun W => formCheck_any (G : Int) (H : Int) W
 have cA := fun W => turnAsked_any (E : Int) (F : Int) b W hb
 have cB := fun W => turnBelow_any E F b W (by omega) (by omega) hp
 have cC := fun W => class_any E F b W h1 hb hp
 rw [h1] at cF
 rw [h2] at cG
 rw [hf] at cA
 obtain ⟨hC5, hC4⟩ := class_finite (f := F) (b := b) hxm
 have d0 := Lib.hid (dy_worth (E := E) (F := F) (G := G) (H := H) (b := b) (m := m) (by omega) (by omega) (by omega) h2 hf hp hxm hm (sgB E F b))
 have d1 := d0.out.1
 have d6 := d0.out.2.2.2.2.2
 have hv := (worth_facts (m := m) (by omega) (by omega) (by omega) hf hp hxm).1
 have cV : ∀ W, Below w.heap.size w W → Calls Tryz.prog 74 #[.agg #[.int .i64 (E : Int), .int .i64 (F : Int)], .int .u64 (b : Int)] W (Valued (E : Int) (F : Int) b W) := fun W hW => value_any (E : Int) (F : Int) b W hb (hT.below hW)
 have cD : ∀ W ao k c, Sl W ao k c (limbs (valN (E : Int) (F : Int) b)) → Calls Tryz.prog 75 #[.agg #[.int .i64 (G : Int), .int .i64 (H : Int)], .agg #[.bool (valS (E : Int) (F : Int) b), .slice ao k c, .int .i64 (valX (E : Int) (F : Int) b)], .bool (sgB E F b), .int .u8 (m : Int)] W _ := fun W ao k c hS => rdDyadic_any ao k c m (G : Int) (H : Int) (valX (E : Int) (F : Int) b) (valS (E : Int) (F : Int) b) (sgB E F b) _ W hS (by rw [← hS.len]; omega)
 rw [d1] at cD
 unfold Valued at cV
 rw [hv] at cV
 generalize dyBits (G : Int) (H : Int) (valS (E : Int) (F : Int) b) (limbs (valN (E : Int) (F : Int) b)) (valX (E : Int) (F : Int) b) (sgB E F b) m = oB at *
 generalize dyFlags (G : Int) (H : Int) (valS (E : Int) (F : Int) b) (limbs (valN (E : Int) (F : Int) b)) (valX (E : Int) (F : Int) b) m = oG at *
 generalize valS (E : Int) (F : Int) b = s at *
 generalize limbs (valN (E : Int) (F : Int) b) = xs at *
 generalize valX (E : Int) (F : Int) b = X at *
 generalize sgB E F b = sg at *
 generalize classN E (exN E F b) (frN F b) = cc at *
 have hc5 : ((cc : Int) == 5) = false := by simp; omega
 have hc4 : ((cc : Int) == 4) = false := by simp; omega
 clear hxm hC5 hC4 hf h1 h2 d0 d1 d6 hv hT
 go_enter Tryz.func13, Tryz.ntmps13
 go_wp2_with (first
  | (go_at_call 67; (with_reducible refine (cF _).mono ?_); rintro en w1 ⟨rfl, hb1⟩; replace H2 := H2.go hb1; have ⟨hW, a0, a1, b0, b1⟩ := H2)
  | (go_at_call 67; (with_reducible refine (cG _).mono ?_); rintro en w1 ⟨rfl, hb1⟩; replace H2 := H2.go hb1; have ⟨hW, a0, a1, b0, b1⟩ := H2)
  | (go_at_call 68; (with_reducible refine (cA _).mono ?_); rintro en w1 ⟨rfl, hb1⟩; replace H2 := H2.go hb1; have ⟨hW, a0, a1, b0, b1⟩ := H2)
  | (go_at_call 69; (with_reducible refine (cB _).mono ?_); rintro en w1 ⟨rfl, hb1⟩; replace H2 := H2.go hb1; have ⟨hW, a0, a1, b0, b1⟩ := H2)
  | (go_at_call 70; (with_reducible refine (cC _).mono ?_); rintro en w1 ⟨rfl, hb1⟩; replace H2 := H2.go hb1; have ⟨hW, a0, a1, b0, b1⟩ := H2)
  | (go_at_call 74; (with_reducible refine (cV _ hW).mono ?_); rintro en w1 ⟨ao, k, c, rfl, F1, hb1⟩; replace H2 := (H2.go hb1).go (more (Below.refl w1.heap.size w1) (.cells #[.bool s, .slice ao k c, .int .i64 X] 132)); have ⟨hW, a0, a1, b0, b1⟩ := H2; have D := box3_new w1 (.bool s) (.slice ao k c) (.int .i64 X) 132; have ⟨x0, x1, x2, _, _, _⟩ := D; have S1 := (F1.alloc (.cells #[.bool s, .slice ao k c, .int .i64 X] 132)).sl)
  | (go_at_call 75; (with_reducible refine (cD _ _ _ _ S1).mono ?_); rintro en w1 ⟨rfl, hb1⟩; replace H2 := H2.go hb1; have ⟨hW, a0, a1, b0, b1⟩ := H2))
 go_ret3
 exact ⟨rfl, hW⟩
theorem turnTo_any (e f g h : Int) (b m : Nat) (w : World) (hb : b < 18446744073709551616) (hT : Tab w) :
 Calls Tryz.prog 13 #[.agg #[.int .i64 e, .int .i64 f], .agg #[.int .i64 g, .int .i64 h], .int .u64 (b : Int), .int .u8 (m : Int)] w fun en w' => en = .returned (.tuple #[.int .u64 (toBi e f g h b m : Int), .int .u8 (toGi e f g h b m : Int), .int .i64 (toE e f g h b m)]) ∧ Below w.heap.size w w' := by
 have no : ∀ {r : Int}, r ≠ 0 → toE e f g h b m = r → (Calls Tryz.prog 13 #[.agg #[.int .i64 e, .int .i64 f], .agg #[.int .i64 g, .int .i64 h], .int .u64 (b : Int), .int .u8 (m : Int)] w fun en w' => en = .returned (.tuple #[.int .u64 0, .int .u8 0, .int .i64 r]) ∧ Below w.heap.size w w') → Calls Tryz.prog 13 #[.agg #[.int .i64 e, .int .i64 f], .agg #[.int .i64 g, .int .i64 h], .int .u64 (b : Int), .int .u8 (m : Int)] w fun en w' => en = .returned (.tuple #[.int .u64 (toBi e f g h b m : Int), .int .u8 (toGi e f g h b m : Int), .int .i64 (toE e f g h b m)]) ∧ Below w.heap.size w w' := fun hr he H => by
  have h0 : toE e f g h b m ≠ 0 := by rw [he]; exact hr
  unfold toBi toGi
  rw [if_neg h0, if_neg h0, he]
  exact H
 have f5 : ∀ {e f : Int}, formE e f ≠ 0 → formE e f = 5 := fun {e f} h => by unfold formE at h ⊢; split at h <;> simp_all
 by_cases h1 : formE e f = 0
 · by_cases h2 : formE g h = 0
   · by_cases h3 : fitsE e f b = 0
     · by_cases hm : 4 < m
       · exact no (r := 7) (by decide) (by unfold toE; rw [if_neg (by simp [h1, h2]), if_neg (by simp [h3]), if_pos hm]) (turnTo_mode e f g h b m w hb h1 h2 h3 hm)
       · have hz : toE e f g h b m = 0 := by unfold toE; rw [if_neg (by simp [h1, h2]), if_neg (by simp [h3]), if_neg hm]
         unfold toBi toGi
         rw [if_pos hz, if_pos hz, hz]
         obtain ⟨e1, e2, e3, e4⟩ := formE_ok h1
         obtain ⟨g1, g2, g3, g4⟩ := formE_ok h2
         obtain ⟨_, hp⟩ := fitsE_parts h3
         obtain ⟨E, rfl⟩ : ∃ E : Nat, e = (E : Int) := ⟨e.toNat, by omega⟩
         obtain ⟨F, rfl⟩ : ∃ F : Nat, f = (F : Int) := ⟨f.toNat, by omega⟩
         obtain ⟨G, rfl⟩ : ∃ G : Nat, g = (G : Int) := ⟨g.toNat, by omega⟩
         obtain ⟨H, rfl⟩ : ∃ H : Nat, h = (H : Int) := ⟨h.toNat, by omega⟩
         simp only [Int.toNat_natCast] at hp ⊢
         unfold toB toG
         by_cases hxm : exN E F b = maskN E
         · by_cases hf0 : frN F b = 0
           · have q1 : naB E F b = false := decide_eq_false fun hh => hh.2 hf0
             have q2 : enB E F b = true := decide_eq_true ⟨hxm, hf0⟩
             rw [q1, q2]
             exact turnTo_inf E F G H b m w h1 h2 hp (by omega) hxm hf0
           · have q1 : naB E F b = true := decide_eq_true ⟨hxm, hf0⟩
             rw [q1]
             cases hq : quB F b
             · exact turnTo_loud E F G H b m w h1 h2 hp (by omega) hxm hf0 hq
             · exact turnTo_quiet E F G H b m w h1 h2 hp (by omega) hxm hf0 hq
         · have q1 : naB E F b = false := decide_eq_false fun hh => hxm hh.1
           have q2 : enB E F b = false := decide_eq_false fun hh => hxm hh.1
           rw [q1, q2]
           exact turnTo_fin E F G H b m w h1 h2 hp (by omega) hxm hT
     · have h6 : fitsE e f b = 6 := by
        rcases fitsE_three e f b with ⟨q, _⟩ | ⟨_, q | q⟩
        · rw [h1] at q; cases q
        · exact absurd q h3
        · exact q
       exact no (r := 6) (by decide) (by unfold toE; rw [if_neg (by simp [h1, h2]), if_pos (by simp [h3])]) (turnTo_bits e f g h b m w hb h1 h2 h6)
   · exact no (r := 5) (by decide) (by unfold toE; rw [if_pos (.inr h2)]) (turnTo_form2 e f g h b m w h1 (f5 h2))
 · exact no (r := 5) (by decide) (by unfold toE; rw [if_pos (.inl h1)]) (turnTo_form1 e f g h b m w (f5 h1))
end
section
attribute [local go_sem] Go.World.cell?_alloc_some
theorem dy_whole {E F n m : Nat} (hf : formE (E : Int) (F : Int) = 0) (hn : n < 18446744073709551616) (hm : m < 5) (s : Bool) :
 mkE (limbs n) 0 = 0 ∧ dyErr (E : Int) (F : Int) (mkS s (limbs n) 0) (limbs (mkN (limbs n) 0)) (mkX (limbs n) 0) m = 0 ∧
 dyBits (E : Int) (F : Int) (mkS s (limbs n) 0) (limbs (mkN (limbs n) 0)) (mkX (limbs n) 0) false m = sgBits E F n 1 s false m ∧
 dyFlags (E : Int) (F : Int) (mkS s (limbs n) 0) (limbs (mkN (limbs n) 0)) (mkX (limbs n) 0) m = sgFlags E F n 1 s m ∧ (limbs (mkN (limbs n) 0)).length ≤ 2 := by
 obtain ⟨e1, e2, e3, e4⟩ := formE_ok hf
 have hc : chk (limbs n) = 0 := chk_small (Nat.lt_of_lt_of_le hn (by decide +kernel))
 by_cases h0 : n = 0
 · subst h0
   obtain ⟨m1, m2⟩ := mk_zero (x := 0) hc (by rw [val_limbs'])
   obtain ⟨m3, m4, m5⟩ := mk_no s m1
   rw [m2, m3, m4, m5]
   have hd : dchk false (limbs 0) 0 = 0 := by decide +kernel
   obtain ⟨d1, d2, d3⟩ := dy_up (n := 0) (X := 0) (s := false) hf hd hm (by decide) (by decide) false
   refine ⟨rfl, d1, ?_, ?_, by decide⟩
   · rw [d2]
     unfold sgBits upN
     rw [Nat.zero_mul, if_pos rfl, if_pos rfl]
   · rw [d3]
     unfold sgFlags upN
     rw [Nat.zero_mul, if_pos rfl, if_pos rfl]
 · obtain ⟨k, hk⟩ := tz_spec h0
   have ht : tz n ≤ 63 := by
    have h5 := two_pow_tz_le h0
    have h6 : 2 ^ tz n < 2 ^ 64 := Nat.lt_of_le_of_lt h5 hn
    have := (Nat.pow_lt_pow_iff_right (by decide : 1 < 2)).1 h6
    omega
   have hB : mkB (limbs n) 0 = true := by
    unfold mkB
    rw [val_limbs']
    exact decide_eq_true ⟨hc, h0, by omega, by omega, by omega, by omega⟩
   obtain ⟨m1, m2, m3, m4⟩ := mk_yes s hB
   rw [val_limbs'] at m1 m2
   have hd : n / 2 ^ tz n = 2 * k + 1 := by
    conv => lhs; arg 1; rw [hk]
    exact Nat.mul_div_cancel_left _ (Nat.two_pow_pos _)
   have hN : n = (2 * k + 1) * 2 ^ tz n := by rw [← hd, Nat.div_mul_cancel]; exact ⟨2 * k + 1, hk⟩
   rw [m1, m2, m3, m4, hd, Int.zero_add]
   have hkn : 2 * k + 1 < 18446744073709551616 := by rw [← hd]; exact Nat.lt_of_le_of_lt (Nat.div_le_self _ _) hn
   have hdc : dchk s (limbs (2 * k + 1)) (tz n : Int) = 0 := by
    obtain ⟨o1, o2⟩ := odd_low (n := 2 * k + 1) (by omega)
    have hc1 : chk (limbs (2 * k + 1)) = 0 := chk_small (Nat.lt_of_lt_of_le hkn (by decide +kernel))
    have h2 := two_odd (neg := s) (x := (tz n : Int)) hc1 o2 (by omega) (by omega)
    unfold twoB at h2
    rw [decide_eq_true o1] at h2
    exact of_decide_eq_true h2
   obtain ⟨d1, d2, d3⟩ := dy_up (n := 2 * k + 1) (X := (tz n : Int)) (s := s) hf hdc hm (by omega) (by omega) false
   have u1 : upN (2 * k + 1) (tz n : Int) = n := by unfold upN; rw [Int.toNat_natCast]; exact hN.symm
   have u2 : upD (tz n : Int) = 1 := by unfold upD; rw [show (-(tz n : Int)).toNat = 0 by omega]
   rw [u1, u2] at d2 d3
   exact ⟨rfl, d1, d2, d3, ln_small2 hkn⟩
theorem turnWholes_any (E F n m : Nat) (s : Bool) (w : World) (hf : formE (E : Int) (F : Int) = 0) (hn : n < 18446744073709551616) (hm : m < 5) (hT : Tab w) :
 Calls Tryz.prog 79 #[.agg #[.int .i64 (E : Int), .int .i64 (F : Int)], .bool s, .int .u64 (n : Int), .int .u8 (m : Int)] w fun en w' => en = .returned (.tuple #[.int .u64 (sgBits E F n 1 s false m : Int), .int .u8 (sgFlags E F n 1 s m : Int), .int .i64 0]) ∧ Below w.heap.size w w' := by
 have B := box2_new w (.int .i64 (E : Int)) (.int .i64 (F : Int)) 31
 have hW := more (Below.refl w.heap.size w) (.cells #[.int .i64 (E : Int), .int .i64 (F : Int)] 31)
 have ⟨a0, a1⟩ := B
 obtain ⟨q1, q2, q3, q4, q5⟩ := dy_whole hf hn hm s
 rw [← q3, ← q4]
 have cO := fun W => natOf_any n W hn
 have cM : ∀ W ao k c, Below w.heap.size w W → Sl W ao k c (limbs n) → Calls Tryz.prog 114 #[.bool s, .agg #[.slice ao k c], .int .i64 0] W _ := fun W ao k c hW hS => exMake_any s ao k c (limbs n) 0 W hS (hT.below hW)
 unfold Made at cM
 rw [q1] at cM
 have cD : ∀ W ao k c, Sl W ao k c (limbs (mkN (limbs n) 0)) → Calls Tryz.prog 75 #[.agg #[.int .i64 (E : Int), .int .i64 (F : Int)], .agg #[.bool (mkS s (limbs n) 0), .slice ao k c, .int .i64 (mkX (limbs n) 0)], .bool false, .int .u8 (m : Int)] W _ := fun W ao k c hS => rdDyadic_any ao k c m (E : Int) (F : Int) (mkX (limbs n) 0) (mkS s (limbs n) 0) false _ W hS (by rw [← hS.len]; omega)
 rw [q2] at cD
 clear q1 q2 q3 q4 q5
 generalize dyBits (E : Int) (F : Int) (mkS s (limbs n) 0) (limbs (mkN (limbs n) 0)) (mkX (limbs n) 0) false m = oB at *
 generalize dyFlags (E : Int) (F : Int) (mkS s (limbs n) 0) (limbs (mkN (limbs n) 0)) (mkX (limbs n) 0) m = oG at *
 generalize mkS s (limbs n) 0 = ms at *
 generalize mkX (limbs n) 0 = mx at *
 generalize limbs (mkN (limbs n) 0) = xs at *
 go_enter Tryz.func79, Tryz.ntmps79
 go_wp2_with fail
 refine (cO _).mono ?_
 rintro en w1 ⟨ao, k, c, rfl, F1, hb1⟩
 have S1 := F1.sl
 have V1 := next hW hb1
 have B1 := B.stay hb1
 clear F1 a0 a1 B hW hb1 cO
 go_wp2_with fail
 refine (cM _ _ _ _ V1 S1).mono ?_
 rintro en w2 ⟨bo, j, d, rfl, F2, hb2⟩
 have V2 := more (next V1 hb2) (.cells #[.bool ms, .slice bo j d, .int .i64 mx] 132)
 have B2 := (B1.stay hb2).alloc (.cells #[.bool ms, .slice bo j d, .int .i64 mx] 132)
 have ⟨b0, b1⟩ := B2
 have ⟨x0, x1, x2, _, _, _⟩ := box3_new w2 (.bool ms) (.slice bo j d) (.int .i64 mx) 132
 have S2 := (F2.alloc (.cells #[.bool ms, .slice bo j d, .int .i64 mx] 132)).sl
 clear F2 B1 V1 S1 hb2 cM
 go_wp2_with fail
 refine (cD _ _ _ _ S2).mono ?_
 rintro en w3 ⟨rfl, hb3⟩
 have V3 := next V2 hb3
 clear S2 V2 hb3 x0 x1 x2 b0 b1 B2
 go_wp2
 go_ret3
 exact ⟨rfl, V3⟩
def fiE (e f : Int) (m : Nat) : Int := if formE e f ≠ 0 then 5 else if 4 < m then 7 else 0
def fiB (e f n : Int) (m : Nat) : Nat := if fiE e f m = 0 then sgBits e.toNat f.toNat n.natAbs 1 (decide (n < 0)) false m else 0
def fiG (e f n : Int) (m : Nat) : Nat := if fiE e f m = 0 then sgFlags e.toNat f.toNat n.natAbs 1 (decide (n < 0)) m else 0
theorem turnFromInt_any (e f n : Int) (m : Nat) (w : World) (h1 : -9223372036854775808 ≤ n) (h2 : n ≤ 9223372036854775807) (hT : Tab w) :
 Calls Tryz.prog 15 #[.agg #[.int .i64 e, .int .i64 f], .int .i64 n, .int .u8 (m : Int)] w fun en w' => en = .returned (.tuple #[.int .u64 (fiB e f n m : Int), .int .u8 (fiG e f n m : Int), .int .i64 (fiE e f m)]) ∧ Below w.heap.size w w' := by
 have B := box2_new w (.int .i64 e) (.int .i64 f) 31
 have hW := more (Below.refl w.heap.size w) (.cells #[.int .i64 e, .int .i64 f] 31)
 have ⟨a0, a1⟩ := B
 have cF := fun W => formCheck_any e f W
 unfold fiB fiG
 by_cases hf : formE e f = 0
 · rw [hf] at cF
   by_cases hm : 4 < m
   · have hz : fiE e f m = 7 := by unfold fiE; rw [if_neg (by simp [hf]), if_pos hm]
     have hm4 : (m : Int) > 4 := by omega
     rw [hz, if_neg (by decide), if_neg (by decide)]
     clear hz
     go_enter Tryz.func15, Tryz.ntmps15
     go_wp2_with fail
     refine (cF _).mono ?_
     rintro en w1 ⟨rfl, hb1⟩
     have V1 := next hW hb1
     clear hW hb1 a0 a1 B
     go_wp2
     go_ret3
     exact ⟨rfl, V1⟩
   · have hz : fiE e f m = 0 := by unfold fiE; rw [if_neg (by simp [hf]), if_neg hm]
     have hm4 : ¬ (m : Int) > 4 := by omega
     rw [hz, if_pos rfl, if_pos rfl]
     obtain ⟨e1, e2, e3, e4⟩ := formE_ok hf
     obtain ⟨E, rfl⟩ : ∃ E : Nat, e = (E : Int) := ⟨e.toNat, by omega⟩
     obtain ⟨F, rfl⟩ : ∃ F : Nat, f = (F : Int) := ⟨f.toNat, by omega⟩
     rw [Int.toNat_natCast, Int.toNat_natCast]
     by_cases h0 : n < 0
     · have cW : ∀ W, Below w.heap.size w W → Calls Tryz.prog 79 #[.agg #[.int .i64 (E : Int), .int .i64 (F : Int)], .bool true, .int .u64 (n.natAbs : Int), .int .u8 (m : Int)] W _ := fun W hW => turnWholes_any E F n.natAbs m true W hf (by omega) (by omega) (hT.below hW)
       have hw : IntKind.u64.wrap (-(IntKind.u64.wrap n)) = (n.natAbs : Int) := by rw [IntKind.wrap_u64, IntKind.wrap_u64]; omega
       have hw1 : IntKind.u64.wrap (-n) = (n.natAbs : Int) := by rw [IntKind.wrap_u64]; omega
       rw [decide_eq_true h0]
       generalize sgBits E F n.natAbs 1 true false m = oB at *
       generalize sgFlags E F n.natAbs 1 true m = oG at *
       generalize n.natAbs = N at *
       clear hz
       go_enter Tryz.func15, Tryz.ntmps15
       go_wp2_with fail
       refine (cF _).mono ?_
       rintro en w1 ⟨rfl, hb1⟩
       have V1 := next hW hb1
       have ⟨b0, b1⟩ := B.stay hb1
       clear hW hb1 a0 a1 B
       go_wp2_with fail
       (with_reducible refine (cW _ V1).mono ?_)
       rintro en w2 ⟨rfl, hb2⟩
       have V2 := next V1 hb2
       clear V1 hb2 b0 b1
       go_wp2
       go_ret3
       exact ⟨rfl, V2⟩
     · have cW : ∀ W, Below w.heap.size w W → Calls Tryz.prog 79 #[.agg #[.int .i64 (E : Int), .int .i64 (F : Int)], .bool false, .int .u64 (n.natAbs : Int), .int .u8 (m : Int)] W _ := fun W hW => turnWholes_any E F n.natAbs m false W hf (by omega) (by omega) (hT.below hW)
       have hw : IntKind.u64.wrap n = (n.natAbs : Int) := by rw [IntKind.wrap_u64]; omega
       rw [decide_eq_false h0]
       have hdc : decide (n < 0) = false := decide_eq_false h0
       generalize sgBits E F n.natAbs 1 false false m = oB at *
       generalize sgFlags E F n.natAbs 1 false m = oG at *
       generalize n.natAbs = N at *
       clear hz
       go_enter Tryz.func15, Tryz.ntmps15
       go_wp2_with fail
       refine (cF _).mono ?_
       rintro en w1 ⟨rfl, hb1⟩
       have V1 := next hW hb1
       have ⟨b0, b1⟩ := B.stay hb1
       clear hW hb1 a0 a1 B
       go_wp2_with fail
       (with_reducible refine (cW _ V1).mono ?_)
       rintro en w2 ⟨rfl, hb2⟩
       have V2 := next V1 hb2
       clear V1 hb2 b0 b1
       go_wp2
       go_ret3
       exact ⟨rfl, V2⟩
 · have h5 : formE e f = 5 := by unfold formE at hf ⊢; split at hf <;> simp_all
   have hz : fiE e f m = 5 := by unfold fiE; rw [if_pos hf]
   rw [h5] at cF
   rw [hz, if_neg (by decide), if_neg (by decide)]
   clear hz hf
   go_enter Tryz.func15, Tryz.ntmps15
   go_wp2_with fail
   refine (cF _).mono ?_
   rintro en w1 ⟨rfl, hb1⟩
   have V1 := next hW hb1
   clear hW hb1 a0 a1 B
   go_wp2
   go_ret3
   exact ⟨rfl, V1⟩
end
section
attribute [local go_sem] Go.World.cell?_alloc_some
structure Ow2 (w : World) (b : Nat) (u v : Value) : Prop where
 c0 : w.cell? ⟨b, 0, none⟩ = some u
 c1 : w.cell? ⟨b, 1, none⟩ = some v
 z0 : w.frozen? ⟨b, 0, none⟩ = false
 z1 : w.frozen? ⟨b, 1, none⟩ = false
theorem Ow2.stay {wp w' : World} {b : Nat} {u v : Value} (h : Ow2 wp b u v) (k : Below wp.heap.size wp w') : Ow2 w' b u v :=
 ⟨(cfStay ⟨h.c0, h.z0⟩ k).1, (cfStay ⟨h.c1, h.z1⟩ k).1, (cfStay ⟨h.c0, h.z0⟩ k).2, (cfStay ⟨h.c1, h.z1⟩ k).2⟩
theorem ow2_new (w : World) (u v : Value) (t : TypeId) : Ow2 (w.alloc (.cells #[u, v] t)) w.heap.size u v := ⟨by simp, by simp, by simp [go_sem], by simp [go_sem]⟩
theorem Ow2.set {w : World} {b : Nat} {u v : Value} (h : Ow2 w b u v) (p q : Value) :
 ((w.setCell ⟨b, 0, none⟩ p).setCell ⟨b, 1, none⟩ q).cell? ⟨b, 0, none⟩ = some p ∧ ((w.setCell ⟨b, 0, none⟩ p).setCell ⟨b, 1, none⟩ q).cell? ⟨b, 1, none⟩ = some q :=
 ⟨(World.cell?_setCell_other _ _ _ _ (by simp)).trans (World.cell?_setCell_same _ _ _ h.c0), World.cell?_setCell_same _ _ _ ((World.cell?_setCell_other _ _ _ _ (by simp)).trans h.c1)⟩
theorem cut_wide : (FloatKind.f64.format.order (floatOfInt .f64 16777217) (floatOfInt .f64 16777216) == some .eq) = false := by decide +kernel
theorem cut_narrow : (FloatKind.f32.format.order (floatOfInt .f32 16777217) (floatOfInt .f32 16777216) == some .eq) = true := by decide +kernel
theorem forms_Single_t (w : World) :
 Calls Tryz.prog 130 #[] w fun e w' => e = .returned (.agg #[.int .i64 8, .int .i64 23]) ∧ Below w.heap.size w w' := by
 go_enter Tryz.func130, Tryz.ntmps130
 go_wp2
 refine bodyPost_ret (v := .agg #[.int .i64 8, .int .i64 23]) (by simp [results, Tryz.results130, go_sem]) rfl ⟨rfl, more (Below.refl _ _) _⟩
theorem forms_Double_t (w : World) :
 Calls Tryz.prog 131 #[] w fun e w' => e = .returned (.agg #[.int .i64 11, .int .i64 52]) ∧ Below w.heap.size w w' := by
 go_enter Tryz.func131, Tryz.ntmps131
 go_wp2
 refine bodyPost_ret (v := .agg #[.int .i64 11, .int .i64 52]) (by simp [results, Tryz.results131, go_sem]) rfl ⟨rfl, more (Below.refl _ _) _⟩
theorem numeralref08_Single_t (w : World) :
 Calls Tryz.prog 11 #[] w fun e w' => e = .returned (.agg #[.int .i64 8, .int .i64 23]) ∧ Below w.heap.size w w' := by
 go_enter Tryz.func11, Tryz.ntmps11
 go_wp2
 refine bodyPost_ret (v := .agg #[.int .i64 8, .int .i64 23]) (by simp [results, Tryz.results11, go_sem]) rfl ⟨rfl, more (Below.refl _ _) _⟩
theorem numeralref08_Double_t (w : World) :
 Calls Tryz.prog 8 #[] w fun e w' => e = .returned (.agg #[.int .i64 11, .int .i64 52]) ∧ Below w.heap.size w w' := by
 go_enter Tryz.func8, Tryz.ntmps8
 go_wp2
 refine bodyPost_ret (v := .agg #[.int .i64 11, .int .i64 52]) (by simp [results, Tryz.results8, go_sem]) rfl ⟨rfl, more (Below.refl _ _) _⟩
theorem turNarrow_F64 (w : World) :
 Calls Tryz.prog 129 #[] w fun e w' => e = .returned (.bool false) ∧ w = w' := by
 have h := cut_wide
 go_enter Tryz.func129, Tryz.ntmps129
 go_wp2
 go_ret
 exact ⟨rfl, rfl⟩
theorem turForm_F64 (x : Nat) (w : World) :
 Calls Tryz.prog 80 #[.float .f64 x] w fun e w' => e = .returned (.agg #[.int .i64 11, .int .i64 52]) ∧ Below w.heap.size w w' := by
 have hW := more (Below.refl w.heap.size w) (.cells #[.int .i64 0, .int .i64 0] 31)
 go_enter Tryz.func80, Tryz.ntmps80
 go_wp2_with fail
 refine (turNarrow_F64 _).mono ?_
 rintro en w1 ⟨rfl, rfl⟩
 go_wp2_with fail
 refine (forms_Double_t _).mono ?_
 rintro en w2 ⟨rfl, hb2⟩
 have R := (ow2_new w (.int .i64 0) (.int .i64 0) 31).stay hb2
 have ⟨r0, r1, rz0, rz1⟩ := R
 have V := next hW hb2
 clear hb2 hW
 go_wp2
 obtain ⟨t0, t1⟩ := R.set (.int .i64 11) (.int .i64 52)
 refine bodyPost_ret (v := .agg #[.int .i64 11, .int .i64 52]) (by simp [results, Tryz.results80, go_sem, t0, t1]) rfl ⟨rfl, (V.setCell (by simp) _).setCell (by simp) _⟩
theorem turNative_F64 (x : Nat) (w : World) :
 Calls Tryz.prog 81 #[.int .u64 (x : Int)] w fun e w' => e = .returned (.float .f64 x) ∧ w = w' := by
 have hfb : ∀ (z : Nat) (W : World), (callFunc 5 #[.int .u64 z]).run Tryz.prog W = .ok (.value (.float .f64 z)) W := fun z W =>
  (run_callFunc_extern Tryz.func5 (by kernel_rfl) (by kernel_rfl) (by kernel_rfl) (e := Extern.MathFloatBits.float64frombits) (by kernel_rfl) _ W).trans rfl
 go_enter Tryz.func81, Tryz.ntmps81
 go_wp2_with fail
 refine (turNarrow_F64 _).mono ?_
 rintro en w1 ⟨rfl, rfl⟩
 go_wp2
 go_ret
 exact ⟨rfl, rfl⟩
theorem turNarrow_F32 (w : World) :
 Calls Tryz.prog 134 #[] w fun e w' => e = .returned (.bool true) ∧ w = w' := by
 have h := cut_narrow
 go_enter Tryz.func134, Tryz.ntmps134
 go_wp2
 go_ret
 exact ⟨rfl, rfl⟩
theorem turForm_F32 (x : Nat) (w : World) :
 Calls Tryz.prog 85 #[.float .f32 x] w fun e w' => e = .returned (.agg #[.int .i64 8, .int .i64 23]) ∧ Below w.heap.size w w' := by
 have hW := more (Below.refl w.heap.size w) (.cells #[.int .i64 0, .int .i64 0] 31)
 go_enter Tryz.func85, Tryz.ntmps85
 go_wp2_with fail
 refine (turNarrow_F32 _).mono ?_
 rintro en w1 ⟨rfl, rfl⟩
 go_wp2_with fail
 refine (forms_Single_t _).mono ?_
 rintro en w2 ⟨rfl, hb2⟩
 have R := (ow2_new w (.int .i64 0) (.int .i64 0) 31).stay hb2
 have ⟨r0, r1, rz0, rz1⟩ := R
 have V := next hW hb2
 clear hb2 hW
 go_wp2
 obtain ⟨t0, t1⟩ := R.set (.int .i64 8) (.int .i64 23)
 refine bodyPost_ret (v := .agg #[.int .i64 8, .int .i64 23]) (by simp [results, Tryz.results85, go_sem, t0, t1]) rfl ⟨rfl, (V.setCell (by simp) _).setCell (by simp) _⟩
theorem turNative_F32 (x : Nat) (w : World) (hx : x < 4294967296) :
 Calls Tryz.prog 86 #[.int .u64 (x : Int)] w fun e w' => e = .returned (.float .f32 x) ∧ w = w' := by
 have hfb : ∀ (z : Nat) (W : World), (callFunc 6 #[.int .u32 z]).run Tryz.prog W = .ok (.value (.float .f32 z)) W := fun z W =>
  (run_callFunc_extern Tryz.func6 (by kernel_rfl) (by kernel_rfl) (by kernel_rfl) (e := Extern.MathFloatBits.float32frombits) (by kernel_rfl) _ W).trans rfl
 have hw : IntKind.u32.wrap (x : Int) = (x : Int) := by rw [IntKind.wrap_u32]; omega
 go_enter Tryz.func86, Tryz.ntmps86
 go_wp2_with fail
 refine (turNarrow_F32 _).mono ?_
 rintro en w1 ⟨rfl, rfl⟩
 go_wp2
 go_ret
 exact ⟨rfl, rfl⟩
theorem turFrom_F64 (e f : Int) (b : Nat) (w : World) (hb : b < 18446744073709551616) (hT : Tab w) :
 Calls Tryz.prog 16 #[.agg #[.int .i64 e, .int .i64 f], .int .u64 (b : Int)] w fun en w' => en = .returned (.tuple #[.float .f64 (toBi e f 11 52 b 0), .int .i64 (toE e f 11 52 b 0)]) ∧ Below w.heap.size w w' := by
 have B := box2_new w (.int .i64 e) (.int .i64 f) 31
 have hW := more (Below.refl w.heap.size w) (.cells #[.int .i64 e, .int .i64 f] 31)
 have cT : ∀ W, Below w.heap.size w W → Calls Tryz.prog 13 #[.agg #[.int .i64 e, .int .i64 f], .agg #[.int .i64 11, .int .i64 52], .int .u64 (b : Int), .int .u8 0] W fun en w' => en = .returned (.tuple #[.int .u64 (toBi e f 11 52 b 0 : Int), .int .u8 (toGi e f 11 52 b 0 : Int), .int .i64 (toE e f 11 52 b 0)]) ∧ Below W.heap.size W w' := fun W hW => turnTo_any e f 11 52 b 0 W hb (hT.below hW)
 have hz0 : toE e f 11 52 b 0 ≠ 0 → toBi e f 11 52 b 0 = 0 := fun h => if_neg h
 generalize toBi e f 11 52 b 0 = oB at *
 generalize toGi e f 11 52 b 0 = oG at *
 generalize toE e f 11 52 b 0 = oE at *
 clear hT
 go_enter Tryz.func16, Tryz.ntmps16
 go_upto_region 2 with fail
 generalize w.alloc (.cells #[.int .i64 e, .int .i64 f] 31) = w1 at *
 have ⟨b0, b1⟩ := B
 have kS : ∀ w' : World, Below w1.heap.size w1 w' → (w'.cell? ⟨w.heap.size, 0, none⟩ = some (.int .i64 e) ∧ w'.cell? ⟨w.heap.size, 1, none⟩ = some (.int .i64 f) ∧ Below w1.heap.size w1 w') := fun w' hb => ⟨cellStay b0 hb, cellStay b1 hb, hb⟩
 go_region_held3 (fun w' => w'.cell? ⟨w.heap.size, 0, none⟩ = some (.int .i64 e) ∧ w'.cell? ⟨w.heap.size, 1, none⟩ = some (.int .i64 f) ∧ Below w1.heap.size w1 w')
  ((refine kS _ ?_; (repeat (with_reducible (first | exact VB | exact VA | exact Below.refl _ _ | refine Below.drew ?_))); done))
  (first
    | (go_at_call 80; (with_reducible refine (turForm_F64 _ _).mono ?_); rintro en wA ⟨rfl, hbA⟩; have VA : Below w1.heap.size w1 wA := (by first | exact hbA | exact undrew hbA))
    | (go_at_call 13; (with_reducible refine (cT _ (next hW VA)).mono ?_); rintro en wB ⟨rfl, hbB⟩; have VB := next VA hbB))
 all_goals
  by_cases hz : oE = 0
  · subst hz
    clear hz0
    go_wp2_with fail
    refine (turNative_F64 _ _).mono ?_
    rintro en wC ⟨rfl, rfl⟩
    go_wp2
    go_ret2
    exact ⟨rfl, next hW VB⟩
  · have h0 := hz0 hz
    have hz1 : (oE != 0) = true := bne_iff_ne.2 hz
    subst h0
    clear hz0
    go_wp2
    go_ret2
    exact ⟨rfl, next hW VB⟩
end
end Go.Proofs.YtoiifhmepniniaaGreatDoor
