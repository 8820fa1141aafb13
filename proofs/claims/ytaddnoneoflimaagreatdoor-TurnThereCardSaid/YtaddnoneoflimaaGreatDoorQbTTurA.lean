/-
  The walks of numeral/turn: asked, below, To.
-/
import Derived.Test.YtaddnoneoflimaaGreatDoorQbTMT26
import Derived.Test.YtaddnoneoflimaaGreatDoorQbTMT20
import Derived.Test.YtaddnoneoflimaaGreatDoorQbTRdG
namespace Go.Proofs.YtaddnoneoflimaaGreatDoor

open Go.RowKit Go.Lb

attribute [local go_sem] Go.World.cell?_alloc_some

/-- Two forms in boxes, in a world that grew. -/
structure TwoF (w w1 : World) (e f g h : Int) : Prop where
  hW : Below w.heap.size w w1
  a0 : w1.cell? ⟨w.heap.size, 0, none⟩ = some (.int .i64 e)
  a1 : w1.cell? ⟨w.heap.size, 1, none⟩ = some (.int .i64 f)
  b0 : w1.cell? ⟨w.heap.size + 1, 0, none⟩ = some (.int .i64 g)
  b1 : w1.cell? ⟨w.heap.size + 1, 1, none⟩ = some (.int .i64 h)

theorem TwoF.go {w w1 w2 : World} {e f g h : Int} (H : TwoF w w1 e f g h) (hb : Below w1.heap.size w1 w2) : TwoF w w2 e f g h :=
  ⟨next H.hW hb, cellStay H.a0 hb, cellStay H.a1 hb, cellStay H.b0 hb, cellStay H.b1 hb⟩

theorem two_forms (w : World) (e f g h : Int) : TwoF w ((w.alloc (.cells #[.int .i64 e, .int .i64 f] 31)).alloc (.cells #[.int .i64 g, .int .i64 h] 31)) e f g h := by
  have A := (box2_new w (.int .i64 e) (.int .i64 f) 31).alloc (.cells #[.int .i64 g, .int .i64 h] 31)
  have B := box2_new (w.alloc (.cells #[.int .i64 e, .int .i64 f] 31)) (.int .i64 g) (.int .i64 h) 31
  rw [World.size_alloc] at B
  exact ⟨more (more (Below.refl _ _) _) _, A.c0, A.c1, B.c0, B.c1⟩

theorem fitsE_three (e f : Int) (b : Nat) : (formE e f = 5 ∧ fitsE e f b = 5) ∨ (formE e f = 0 ∧ (fitsE e f b = 0 ∨ fitsE e f b = 6)) := by
  unfold fitsE formE
  cases formB e f
  · exact .inl ⟨rfl, rfl⟩
  · refine .inr ⟨rfl, ?_⟩
    by_cases h : b < pw (1 + e.toNat + f.toNat)
    · simp [h]
    · simp [h]

set_option maxRecDepth 100000 in
theorem turnAsked_any (e f : Int) (b : Nat) (w : World) (hb : b < 18446744073709551616) :
    Calls Tryz.prog 123 #[.agg #[.int .i64 e, .int .i64 f], .int .u64 (b : Int)] w fun en w' => en = .returned (.int .i64 (fitsE e f b)) ∧ Below w.heap.size w w' := by
  have B := box2_new w (.int .i64 e) (.int .i64 f) 31
  have hW := more (Below.refl w.heap.size w) (.cells #[.int .i64 e, .int .i64 f] 31)
  have ⟨a0, a1⟩ := B
  have c1 := fun W => formCheck_any e f W
  have c2 := fun W => fits_any e f b W hb
  rcases fitsE_three e f b with ⟨h1, h2⟩ | ⟨h1, h2 | h2⟩
  · rw [h1] at c1
    rw [h2]
    go_enter Tryz.func123, Tryz.ntmps123
    go_wp2_with fail
    refine (c1 _).mono ?_
    rintro en w1 ⟨rfl, hb1⟩
    go_wp2
    go_ret
    exact ⟨rfl, next hW hb1⟩
  all_goals
    rw [h1] at c1
    rw [h2] at c2 ⊢
    go_enter Tryz.func123, Tryz.ntmps123
    go_wp2_with fail
    refine (c1 _).mono ?_
    rintro en w1 ⟨rfl, hb1⟩
    have ⟨d0, d1⟩ := B.stay hb1
    go_wp2_with fail
    refine (c2 _).mono ?_
    rintro en w2 ⟨rfl, hb2⟩
    go_wp2
    go_ret
    exact ⟨rfl, next (next hW hb1) hb2⟩

theorem shr_sign {E F b : Nat} (hb : b < pw (1 + E + F)) : ((b : Int) / 2 ^ (E + F) != 0) = sgB E F b := by
  rw [(bits_parts hb).2]
  have h : ((b : Int) / 2 ^ (E + F)) = ((b / 2 ^ (E + F) : Nat) : Int) := by simp
  rw [h, Bool.eq_iff_iff]
  have hp := Nat.two_pow_pos (E + F)
  constructor
  · intro hh
    refine decide_eq_true ?_
    rcases Nat.lt_or_ge b (2 ^ (E + F)) with h1 | h1
    · rw [Nat.div_eq_of_lt h1] at hh
      exact absurd hh (by decide)
    · exact h1
  · intro hh
    have h1 := of_decide_eq_true hh
    have h2 := Nat.div_pos h1 hp
    simp
    omega

set_option maxRecDepth 100000 in
theorem turnBelow_any (E F b : Nat) (w : World) (h11 : E ≤ 11) (hF : F ≤ 52) (hb : b < pw (1 + E + F)) :
    Calls Tryz.prog 124 #[.agg #[.int .i64 (E : Int), .int .i64 (F : Int)], .int .u64 (b : Int)] w fun en w' => en = .returned (.bool (sgB E F b)) ∧ Below w.heap.size w w' := by
  obtain ⟨k, hk⟩ : ∃ k : Nat, (E : Int) + (F : Int) = (k : Int) := ⟨E + F, by omega⟩
  have hkk : k = E + F := by omega
  have hk2 : k ≤ 63 := by omega
  have hS := shr_sign hb
  rw [← hkk] at hS
  have H := Lib.hid hS
  clear hS hkk
  go_enter Tryz.func124, Tryz.ntmps124
  go_wp2
  go_ret
  exact ⟨by rw [H.out]; rfl, more (Below.refl _ _) _⟩

set_option maxRecDepth 100000 in
set_option maxHeartbeats 1600000 in
/-- What Payload tells of a float that is no number: whether it is quiet. -/
theorem turPayload_any (e f b : Nat) (w : World) (h : formE (e : Int) (f : Int) = 0) (hb : b < 18446744073709551616) (hp : b < pw (1 + e + f)) (hxm : exN e f b = maskN e) (hf0 : frN f b ≠ 0) :
    Calls Tryz.prog 168 #[.agg #[.int .i64 e, .int .i64 f], .int .u64 b] w fun en w' => ∃ p : Int, en = .returned (.tuple #[.int .u64 p, .bool (quB f b), .int .i64 0]) ∧ Below w.heap.size w w' := by
  obtain ⟨q1, q2, q3, q4⟩ := formE_ok h
  have hC := class_nan hxm (by omega) hf0
  have hf1 : (f : Int) - 1 = ((f - 1 : Nat) : Int) := by omega
  have HQ := Lib.hid (quiet_turn (f := f) (b := b) (by omega) (by omega) hb)
  go_enter Tryz.func168, Tryz.ntmps168
  go_wp2_with (first
    | (go_at_call 60; refine (class_any e f b _ h hb hp).mono ?_; rintro en w1 ⟨rfl, hb1⟩; rw [hC]; have A := (box2_new w _ _ _).stay hb1; have ⟨a0, a1⟩ := A; have hW := next (more (Below.refl _ _) _) hb1)
    | (go_at_call 166; (with_reducible refine (mask_any f _ (by omega)).mono ?_); rintro en w2 ⟨rfl, rfl⟩)
    | (go_at_call 166; (with_reducible refine (mask_any (f - 1) _ (by omega)).mono ?_); rintro en w2 ⟨rfl, rfl⟩))
  refine bodyPost_ret (v := .tuple #[.int .u64 (bits .and .u64 (bits .and .u64 (b : Int) (maskN f : Int)) (maskN (f - 1) : Int)), .bool (bits .and .u64 (b : Int) (maskN f : Int) != bits .and .u64 (bits .and .u64 (b : Int) (maskN f : Int)) (maskN (f - 1) : Int)), .int .i64 0]) (by simp [results, Tryz.results168, go_sem]) rfl ⟨_, by rw [HQ.out], hW⟩

set_option maxRecDepth 100000 in
set_option maxHeartbeats 2000000 in
theorem turnTo_form1 (e f g h : Int) (b m : Nat) (w : World) (h1 : formE e f = 5) :
    Calls Tryz.prog 61 #[.agg #[.int .i64 e, .int .i64 f], .agg #[.int .i64 g, .int .i64 h], .int .u64 (b : Int), .int .u8 (m : Int)] w fun en w' => en = .returned (.tuple #[.int .u64 0, .int .u8 0, .int .i64 5]) ∧ Below w.heap.size w w' := by
  have H2 := two_forms w e f g h
  have ⟨hW, a0, a1, b0, b1⟩ := H2
  have cF := fun W => formCheck_any e f W
  rw [h1] at cF
  go_enter Tryz.func61, Tryz.ntmps61
  go_wp2_with (first
    | (go_at_call 59; (with_reducible refine (cF _).mono ?_); rintro en w1 ⟨rfl, hb1⟩; replace H2 := H2.go hb1; have ⟨hW, a0, a1, b0, b1⟩ := H2))
  go_ret3
  exact ⟨rfl, hW⟩

set_option maxRecDepth 100000 in
set_option maxHeartbeats 2000000 in
theorem turnTo_form2 (e f g h : Int) (b m : Nat) (w : World) (h1 : formE e f = 0) (h2 : formE g h = 5) :
    Calls Tryz.prog 61 #[.agg #[.int .i64 e, .int .i64 f], .agg #[.int .i64 g, .int .i64 h], .int .u64 (b : Int), .int .u8 (m : Int)] w fun en w' => en = .returned (.tuple #[.int .u64 0, .int .u8 0, .int .i64 5]) ∧ Below w.heap.size w w' := by
  have H2 := two_forms w e f g h
  have ⟨hW, a0, a1, b0, b1⟩ := H2
  have cF := fun W => formCheck_any e f W
  have cG := fun W => formCheck_any g h W
  rw [h1] at cF
  rw [h2] at cG
  go_enter Tryz.func61, Tryz.ntmps61
  go_wp2_with (first
    | (go_at_call 59; (with_reducible refine (cF _).mono ?_); rintro en w1 ⟨rfl, hb1⟩; replace H2 := H2.go hb1; have ⟨hW, a0, a1, b0, b1⟩ := H2)
    | (go_at_call 59; (with_reducible refine (cG _).mono ?_); rintro en w1 ⟨rfl, hb1⟩; replace H2 := H2.go hb1; have ⟨hW, a0, a1, b0, b1⟩ := H2))
  go_ret3
  exact ⟨rfl, hW⟩

set_option maxRecDepth 100000 in
set_option maxHeartbeats 2000000 in
theorem turnTo_bits (e f g h : Int) (b m : Nat) (w : World) (hb : b < 18446744073709551616) (h1 : formE e f = 0) (h2 : formE g h = 0) (hx : fitsE e f b = 6) :
    Calls Tryz.prog 61 #[.agg #[.int .i64 e, .int .i64 f], .agg #[.int .i64 g, .int .i64 h], .int .u64 (b : Int), .int .u8 (m : Int)] w fun en w' => en = .returned (.tuple #[.int .u64 0, .int .u8 0, .int .i64 6]) ∧ Below w.heap.size w w' := by
  have H2 := two_forms w e f g h
  have ⟨hW, a0, a1, b0, b1⟩ := H2
  have cF := fun W => formCheck_any e f W
  have cG := fun W => formCheck_any g h W
  have cA := fun W => turnAsked_any e f b W hb
  rw [h1] at cF
  rw [h2] at cG
  rw [hx] at cA
  go_enter Tryz.func61, Tryz.ntmps61
  go_wp2_with (first
    | (go_at_call 59; (with_reducible refine (cF _).mono ?_); rintro en w1 ⟨rfl, hb1⟩; replace H2 := H2.go hb1; have ⟨hW, a0, a1, b0, b1⟩ := H2)
    | (go_at_call 59; (with_reducible refine (cG _).mono ?_); rintro en w1 ⟨rfl, hb1⟩; replace H2 := H2.go hb1; have ⟨hW, a0, a1, b0, b1⟩ := H2)
    | (go_at_call 123; (with_reducible refine (cA _).mono ?_); rintro en w1 ⟨rfl, hb1⟩; replace H2 := H2.go hb1; have ⟨hW, a0, a1, b0, b1⟩ := H2))
  go_ret3
  exact ⟨rfl, hW⟩

set_option maxRecDepth 100000 in
set_option maxHeartbeats 2000000 in
theorem turnTo_mode (e f g h : Int) (b m : Nat) (w : World) (hb : b < 18446744073709551616) (h1 : formE e f = 0) (h2 : formE g h = 0) (hx : fitsE e f b = 0) (hm : 4 < m) :
    Calls Tryz.prog 61 #[.agg #[.int .i64 e, .int .i64 f], .agg #[.int .i64 g, .int .i64 h], .int .u64 (b : Int), .int .u8 (m : Int)] w fun en w' => en = .returned (.tuple #[.int .u64 0, .int .u8 0, .int .i64 7]) ∧ Below w.heap.size w w' := by
  have H2 := two_forms w e f g h
  have ⟨hW, a0, a1, b0, b1⟩ := H2
  have hm4 : (m : Int) > 4 := by omega
  have cF := fun W => formCheck_any e f W
  have cG := fun W => formCheck_any g h W
  have cA := fun W => turnAsked_any e f b W hb
  rw [h1] at cF
  rw [h2] at cG
  rw [hx] at cA
  go_enter Tryz.func61, Tryz.ntmps61
  go_wp2_with (first
    | (go_at_call 59; (with_reducible refine (cF _).mono ?_); rintro en w1 ⟨rfl, hb1⟩; replace H2 := H2.go hb1; have ⟨hW, a0, a1, b0, b1⟩ := H2)
    | (go_at_call 59; (with_reducible refine (cG _).mono ?_); rintro en w1 ⟨rfl, hb1⟩; replace H2 := H2.go hb1; have ⟨hW, a0, a1, b0, b1⟩ := H2)
    | (go_at_call 123; (with_reducible refine (cA _).mono ?_); rintro en w1 ⟨rfl, hb1⟩; replace H2 := H2.go hb1; have ⟨hW, a0, a1, b0, b1⟩ := H2))
  go_ret3
  exact ⟨rfl, hW⟩

set_option maxRecDepth 100000 in
set_option maxHeartbeats 2000000 in
theorem turnTo_quiet (E F G H b m : Nat) (w : World) (h1 : formE (E : Int) (F : Int) = 0) (h2 : formE (G : Int) (H : Int) = 0) (hp : b < pw (1 + E + F)) (hm : m < 5) (hxm : exN E F b = maskN E) (hf0 : frN F b ≠ 0) (hq : quB F b = true) :
    Calls Tryz.prog 61 #[.agg #[.int .i64 (E : Int), .int .i64 (F : Int)], .agg #[.int .i64 (G : Int), .int .i64 (H : Int)], .int .u64 (b : Int), .int .u8 (m : Int)] w fun en w' => en = .returned (.tuple #[.int .u64 (nanN G H : Int), .int .u8 0, .int .i64 0]) ∧ Below w.heap.size w w' := by
  have H2 := two_forms w (E : Int) (F : Int) (G : Int) (H : Int)
  have ⟨hW, a0, a1, b0, b1⟩ := H2
  obtain ⟨e1, e2, e3, e4⟩ := formE_ok h1
  have hm4 : ¬ (m : Int) > 4 := by omega
  have hf := fits_bits h1 hp
  have hb : b < 18446744073709551616 := by
    have h := pw_le (j := 1 + E + F) (k := 64) (by omega)
    have h64 : pw 64 = 18446744073709551616 := by unfold pw; rfl
    omega
  have cF := fun W => formCheck_any (E : Int) (F : Int) W
  have cG := fun W => formCheck_any (G : Int) (H : Int) W
  have cA := fun W => turnAsked_any (E : Int) (F : Int) b W hb
  have cB := fun W => turnBelow_any E F b W (by omega) (by omega) hp
  have cC := fun W => class_any E F b W h1 hb hp
  rw [h1] at cF
  rw [h2] at cG
  rw [hf] at cA
  have hC := class_nan hxm (by omega) hf0
  have cN := fun W => formsNaN_zero G H W h2
  have cP := fun W => turPayload_any E F b W h1 hb hp hxm hf0
  rw [hC] at cC
  rw [hq] at cP
  generalize sgB E F b = sg at *
  generalize nanN G H = nn at *
  clear hxm hf0 hq hC hf h1 h2
  go_enter Tryz.func61, Tryz.ntmps61
  go_wp2_with (first
    | (go_at_call 59; (with_reducible refine (cF _).mono ?_); rintro en w1 ⟨rfl, hb1⟩; replace H2 := H2.go hb1; have ⟨hW, a0, a1, b0, b1⟩ := H2)
    | (go_at_call 59; (with_reducible refine (cG _).mono ?_); rintro en w1 ⟨rfl, hb1⟩; replace H2 := H2.go hb1; have ⟨hW, a0, a1, b0, b1⟩ := H2)
    | (go_at_call 123; (with_reducible refine (cA _).mono ?_); rintro en w1 ⟨rfl, hb1⟩; replace H2 := H2.go hb1; have ⟨hW, a0, a1, b0, b1⟩ := H2)
    | (go_at_call 124; (with_reducible refine (cB _).mono ?_); rintro en w1 ⟨rfl, hb1⟩; replace H2 := H2.go hb1; have ⟨hW, a0, a1, b0, b1⟩ := H2)
    | (go_at_call 60; (with_reducible refine (cC _).mono ?_); rintro en w1 ⟨rfl, hb1⟩; replace H2 := H2.go hb1; have ⟨hW, a0, a1, b0, b1⟩ := H2)
    | (go_at_call 167; (with_reducible refine (cN _).mono ?_); rintro en w1 ⟨rfl, hb1⟩; replace H2 := H2.go hb1; have ⟨hW, a0, a1, b0, b1⟩ := H2)
    | (go_at_call 168; (with_reducible refine (cP _).mono ?_); rintro en w1 ⟨p, rfl, hb1⟩; replace H2 := H2.go hb1; have ⟨hW, a0, a1, b0, b1⟩ := H2))
  go_ret3
  exact ⟨rfl, hW⟩

set_option maxRecDepth 100000 in
set_option maxHeartbeats 2000000 in
theorem turnTo_loud (E F G H b m : Nat) (w : World) (h1 : formE (E : Int) (F : Int) = 0) (h2 : formE (G : Int) (H : Int) = 0) (hp : b < pw (1 + E + F)) (hm : m < 5) (hxm : exN E F b = maskN E) (hf0 : frN F b ≠ 0) (hq : quB F b = false) :
    Calls Tryz.prog 61 #[.agg #[.int .i64 (E : Int), .int .i64 (F : Int)], .agg #[.int .i64 (G : Int), .int .i64 (H : Int)], .int .u64 (b : Int), .int .u8 (m : Int)] w fun en w' => en = .returned (.tuple #[.int .u64 (nanN G H : Int), .int .u8 16, .int .i64 0]) ∧ Below w.heap.size w w' := by
  have H2 := two_forms w (E : Int) (F : Int) (G : Int) (H : Int)
  have ⟨hW, a0, a1, b0, b1⟩ := H2
  obtain ⟨e1, e2, e3, e4⟩ := formE_ok h1
  have hm4 : ¬ (m : Int) > 4 := by omega
  have hf := fits_bits h1 hp
  have hb : b < 18446744073709551616 := by
    have h := pw_le (j := 1 + E + F) (k := 64) (by omega)
    have h64 : pw 64 = 18446744073709551616 := by unfold pw; rfl
    omega
  have cF := fun W => formCheck_any (E : Int) (F : Int) W
  have cG := fun W => formCheck_any (G : Int) (H : Int) W
  have cA := fun W => turnAsked_any (E : Int) (F : Int) b W hb
  have cB := fun W => turnBelow_any E F b W (by omega) (by omega) hp
  have cC := fun W => class_any E F b W h1 hb hp
  rw [h1] at cF
  rw [h2] at cG
  rw [hf] at cA
  have hC := class_nan hxm (by omega) hf0
  have cN := fun W => formsNaN_zero G H W h2
  have cP := fun W => turPayload_any E F b W h1 hb hp hxm hf0
  rw [hC] at cC
  rw [hq] at cP
  generalize sgB E F b = sg at *
  generalize nanN G H = nn at *
  clear hxm hf0 hq hC hf h1 h2
  go_enter Tryz.func61, Tryz.ntmps61
  go_wp2_with (first
    | (go_at_call 59; (with_reducible refine (cF _).mono ?_); rintro en w1 ⟨rfl, hb1⟩; replace H2 := H2.go hb1; have ⟨hW, a0, a1, b0, b1⟩ := H2)
    | (go_at_call 59; (with_reducible refine (cG _).mono ?_); rintro en w1 ⟨rfl, hb1⟩; replace H2 := H2.go hb1; have ⟨hW, a0, a1, b0, b1⟩ := H2)
    | (go_at_call 123; (with_reducible refine (cA _).mono ?_); rintro en w1 ⟨rfl, hb1⟩; replace H2 := H2.go hb1; have ⟨hW, a0, a1, b0, b1⟩ := H2)
    | (go_at_call 124; (with_reducible refine (cB _).mono ?_); rintro en w1 ⟨rfl, hb1⟩; replace H2 := H2.go hb1; have ⟨hW, a0, a1, b0, b1⟩ := H2)
    | (go_at_call 60; (with_reducible refine (cC _).mono ?_); rintro en w1 ⟨rfl, hb1⟩; replace H2 := H2.go hb1; have ⟨hW, a0, a1, b0, b1⟩ := H2)
    | (go_at_call 167; (with_reducible refine (cN _).mono ?_); rintro en w1 ⟨rfl, hb1⟩; replace H2 := H2.go hb1; have ⟨hW, a0, a1, b0, b1⟩ := H2)
    | (go_at_call 168; (with_reducible refine (cP _).mono ?_); rintro en w1 ⟨p, rfl, hb1⟩; replace H2 := H2.go hb1; have ⟨hW, a0, a1, b0, b1⟩ := H2))
  go_ret3
  exact ⟨rfl, hW⟩

set_option maxRecDepth 100000 in
set_option maxHeartbeats 2000000 in
theorem turnTo_inf (E F G H b m : Nat) (w : World) (h1 : formE (E : Int) (F : Int) = 0) (h2 : formE (G : Int) (H : Int) = 0) (hp : b < pw (1 + E + F)) (hm : m < 5) (hxm : exN E F b = maskN E) (hf0 : frN F b = 0) :
    Calls Tryz.prog 61 #[.agg #[.int .i64 (E : Int), .int .i64 (F : Int)], .agg #[.int .i64 (G : Int), .int .i64 (H : Int)], .int .u64 (b : Int), .int .u8 (m : Int)] w fun en w' => en = .returned (.tuple #[.int .u64 (joinN G H (sgB E F b) (maskN G) 0 : Int), .int .u8 0, .int .i64 0]) ∧ Below w.heap.size w w' := by
  have H2 := two_forms w (E : Int) (F : Int) (G : Int) (H : Int)
  have ⟨hW, a0, a1, b0, b1⟩ := H2
  obtain ⟨e1, e2, e3, e4⟩ := formE_ok h1
  have hm4 : ¬ (m : Int) > 4 := by omega
  have hf := fits_bits h1 hp
  have hb : b < 18446744073709551616 := by
    have h := pw_le (j := 1 + E + F) (k := 64) (by omega)
    have h64 : pw 64 = 18446744073709551616 := by unfold pw; rfl
    omega
  have cF := fun W => formCheck_any (E : Int) (F : Int) W
  have cG := fun W => formCheck_any (G : Int) (H : Int) W
  have cA := fun W => turnAsked_any (E : Int) (F : Int) b W hb
  have cB := fun W => turnBelow_any E F b W (by omega) (by omega) hp
  have cC := fun W => class_any E F b W h1 hb hp
  rw [h1] at cF
  rw [h2] at cG
  rw [hf] at cA
  have hC := class_inf hxm (by omega) hf0
  have cI := fun W => formsInf_any G H (sgB E F b) W h2
  rw [hC] at cC
  generalize joinN G H (sgB E F b) (maskN G) 0 = jj at *
  generalize sgB E F b = sg at *
  clear hxm hf0 hC hf h1 h2
  go_enter Tryz.func61, Tryz.ntmps61
  go_wp2_with (first
    | (go_at_call 59; (with_reducible refine (cF _).mono ?_); rintro en w1 ⟨rfl, hb1⟩; replace H2 := H2.go hb1; have ⟨hW, a0, a1, b0, b1⟩ := H2)
    | (go_at_call 59; (with_reducible refine (cG _).mono ?_); rintro en w1 ⟨rfl, hb1⟩; replace H2 := H2.go hb1; have ⟨hW, a0, a1, b0, b1⟩ := H2)
    | (go_at_call 123; (with_reducible refine (cA _).mono ?_); rintro en w1 ⟨rfl, hb1⟩; replace H2 := H2.go hb1; have ⟨hW, a0, a1, b0, b1⟩ := H2)
    | (go_at_call 124; (with_reducible refine (cB _).mono ?_); rintro en w1 ⟨rfl, hb1⟩; replace H2 := H2.go hb1; have ⟨hW, a0, a1, b0, b1⟩ := H2)
    | (go_at_call 60; (with_reducible refine (cC _).mono ?_); rintro en w1 ⟨rfl, hb1⟩; replace H2 := H2.go hb1; have ⟨hW, a0, a1, b0, b1⟩ := H2)
    | (go_at_call 169; (with_reducible refine (cI _).mono ?_); rintro en w1 ⟨rfl, hb1⟩; replace H2 := H2.go hb1; have ⟨hW, a0, a1, b0, b1⟩ := H2))
  go_ret3
  exact ⟨rfl, hW⟩

set_option maxRecDepth 100000 in
set_option maxHeartbeats 2000000 in
theorem turnTo_fin (E F G H b m : Nat) (w : World) (h1 : formE (E : Int) (F : Int) = 0) (h2 : formE (G : Int) (H : Int) = 0) (hp : b < pw (1 + E + F)) (hm : m < 5) (hxm : exN E F b ≠ maskN E) (hT : Tab w) :
    Calls Tryz.prog 61 #[.agg #[.int .i64 (E : Int), .int .i64 (F : Int)], .agg #[.int .i64 (G : Int), .int .i64 (H : Int)], .int .u64 (b : Int), .int .u8 (m : Int)] w fun en w' => en = .returned (.tuple #[.int .u64 (dyBits (G : Int) (H : Int) (valS (E : Int) (F : Int) b) (limbs (valN (E : Int) (F : Int) b)) (valX (E : Int) (F : Int) b) (sgB E F b) m : Int), .int .u8 (dyFlags (G : Int) (H : Int) (valS (E : Int) (F : Int) b) (limbs (valN (E : Int) (F : Int) b)) (valX (E : Int) (F : Int) b) m : Int), .int .i64 0]) ∧ Below w.heap.size w w' := by
  have H2 := two_forms w (E : Int) (F : Int) (G : Int) (H : Int)
  have ⟨hW, a0, a1, b0, b1⟩ := H2
  obtain ⟨e1, e2, e3, e4⟩ := formE_ok h1
  have hm4 : ¬ (m : Int) > 4 := by omega
  have hf := fits_bits h1 hp
  have hb : b < 18446744073709551616 := by
    have h := pw_le (j := 1 + E + F) (k := 64) (by omega)
    have h64 : pw 64 = 18446744073709551616 := by unfold pw; rfl
    omega
  have cF := fun W => formCheck_any (E : Int) (F : Int) W
  have cG := fun W => formCheck_any (G : Int) (H : Int) W
  have cA := fun W => turnAsked_any (E : Int) (F : Int) b W hb
  have cB := fun W => turnBelow_any E F b W (by omega) (by omega) hp
  have cC := fun W => class_any E F b W h1 hb hp
  rw [h1] at cF
  rw [h2] at cG
  rw [hf] at cA
  obtain ⟨hC5, hC4⟩ := class_finite (f := F) (b := b) hxm
  have d0 := Lib.hid (dy_worth (E := E) (F := F) (G := G) (H := H) (b := b) (m := m) (by omega) (by omega) (by omega) h2 hf hp hxm hm (sgB E F b))
  have d1 := d0.out.1
  have d6 := d0.out.2.2.2.2.2
  have hv := (worth_facts (m := m) (by omega) (by omega) (by omega) hf hp hxm).1
  have cV : ∀ W, Below w.heap.size w W → Calls Tryz.prog 62 #[.agg #[.int .i64 (E : Int), .int .i64 (F : Int)], .int .u64 (b : Int)] W (Valued (E : Int) (F : Int) b W) := fun W hW => value_any (E : Int) (F : Int) b W hb (hT.below hW)
  have cD : ∀ W ao k c, Sl W ao k c (limbs (valN (E : Int) (F : Int) b)) → Calls Tryz.prog 170 #[.agg #[.int .i64 (G : Int), .int .i64 (H : Int)], .agg #[.bool (valS (E : Int) (F : Int) b), .slice ao k c, .int .i64 (valX (E : Int) (F : Int) b)], .bool (sgB E F b), .int .u8 (m : Int)] W _ := fun W ao k c hS => rdDyadic_any ao k c m (G : Int) (H : Int) (valX (E : Int) (F : Int) b) (valS (E : Int) (F : Int) b) (sgB E F b) _ W hS (by rw [← hS.len]; omega)
  rw [d1] at cD
  unfold Valued at cV
  rw [hv] at cV
  generalize dyBits (G : Int) (H : Int) (valS (E : Int) (F : Int) b) (limbs (valN (E : Int) (F : Int) b)) (valX (E : Int) (F : Int) b) (sgB E F b) m = oB at *
  generalize dyFlags (G : Int) (H : Int) (valS (E : Int) (F : Int) b) (limbs (valN (E : Int) (F : Int) b)) (valX (E : Int) (F : Int) b) m = oG at *
  generalize valS (E : Int) (F : Int) b = s at *
  generalize limbs (valN (E : Int) (F : Int) b) = xs at *
  generalize valX (E : Int) (F : Int) b = X at *
  generalize sgB E F b = sg at *
  generalize classN E (exN E F b) (frN F b) = cc at *
  have hc5 : ((cc : Int) == 5) = false := by simp; omega
  have hc4 : ((cc : Int) == 4) = false := by simp; omega
  clear hxm hC5 hC4 hf h1 h2 d0 d1 d6 hv hT
  go_enter Tryz.func61, Tryz.ntmps61
  go_wp2_with (first
    | (go_at_call 59; (with_reducible refine (cF _).mono ?_); rintro en w1 ⟨rfl, hb1⟩; replace H2 := H2.go hb1; have ⟨hW, a0, a1, b0, b1⟩ := H2)
    | (go_at_call 59; (with_reducible refine (cG _).mono ?_); rintro en w1 ⟨rfl, hb1⟩; replace H2 := H2.go hb1; have ⟨hW, a0, a1, b0, b1⟩ := H2)
    | (go_at_call 123; (with_reducible refine (cA _).mono ?_); rintro en w1 ⟨rfl, hb1⟩; replace H2 := H2.go hb1; have ⟨hW, a0, a1, b0, b1⟩ := H2)
    | (go_at_call 124; (with_reducible refine (cB _).mono ?_); rintro en w1 ⟨rfl, hb1⟩; replace H2 := H2.go hb1; have ⟨hW, a0, a1, b0, b1⟩ := H2)
    | (go_at_call 60; (with_reducible refine (cC _).mono ?_); rintro en w1 ⟨rfl, hb1⟩; replace H2 := H2.go hb1; have ⟨hW, a0, a1, b0, b1⟩ := H2)
    | (go_at_call 62; (with_reducible refine (cV _ hW).mono ?_); rintro en w1 ⟨ao, k, c, rfl, F1, hb1⟩; replace H2 := (H2.go hb1).go (more (Below.refl w1.heap.size w1) (.cells #[.bool s, .slice ao k c, .int .i64 X] 90)); have ⟨hW, a0, a1, b0, b1⟩ := H2; have D := box3_new w1 (.bool s) (.slice ao k c) (.int .i64 X) 90; have ⟨x0, x1, x2, _, _, _⟩ := D; have S1 := (F1.alloc (.cells #[.bool s, .slice ao k c, .int .i64 X] 90)).sl)
    | (go_at_call 170; (with_reducible refine (cD _ _ _ _ S1).mono ?_); rintro en w1 ⟨rfl, hb1⟩; replace H2 := H2.go hb1; have ⟨hW, a0, a1, b0, b1⟩ := H2))
  go_ret3
  exact ⟨rfl, hW⟩

theorem turnTo_any (e f g h : Int) (b m : Nat) (w : World) (hb : b < 18446744073709551616) (hT : Tab w) :
    Calls Tryz.prog 61 #[.agg #[.int .i64 e, .int .i64 f], .agg #[.int .i64 g, .int .i64 h], .int .u64 (b : Int), .int .u8 (m : Int)] w fun en w' => en = .returned (.tuple #[.int .u64 (toBi e f g h b m : Int), .int .u8 (toGi e f g h b m : Int), .int .i64 (toE e f g h b m)]) ∧ Below w.heap.size w w' := by
  have no : ∀ {r : Int}, r ≠ 0 → toE e f g h b m = r → (Calls Tryz.prog 61 #[.agg #[.int .i64 e, .int .i64 f], .agg #[.int .i64 g, .int .i64 h], .int .u64 (b : Int), .int .u8 (m : Int)] w fun en w' => en = .returned (.tuple #[.int .u64 0, .int .u8 0, .int .i64 r]) ∧ Below w.heap.size w w') → Calls Tryz.prog 61 #[.agg #[.int .i64 e, .int .i64 f], .agg #[.int .i64 g, .int .i64 h], .int .u64 (b : Int), .int .u8 (m : Int)] w fun en w' => en = .returned (.tuple #[.int .u64 (toBi e f g h b m : Int), .int .u8 (toGi e f g h b m : Int), .int .i64 (toE e f g h b m)]) ∧ Below w.heap.size w w' := fun hr he H => by
    have h0 : toE e f g h b m ≠ 0 := by rw [he]; exact hr
    unfold toBi toGi
    rw [if_neg h0, if_neg h0, he]
    exact H
  have f5 : ∀ {e f : Int}, formE e f ≠ 0 → formE e f = 5 := fun {e f} h => by unfold formE at h ⊢; split at h <;> simp_all
  by_cases h1 : formE e f = 0
  · by_cases h2 : formE g h = 0
    · by_cases h3 : fitsE e f b = 0
      · by_cases hm : 4 < m
        · exact no (r := 7) (by decide) (by unfold toE; rw [if_neg (by simp [h1, h2]), if_neg (by simp [h3]), if_pos hm]) (turnTo_mode e f g h b m w hb h1 h2 h3 hm)
        · have hz : toE e f g h b m = 0 := by unfold toE; rw [if_neg (by simp [h1, h2]), if_neg (by simp [h3]), if_neg hm]
          unfold toBi toGi
          rw [if_pos hz, if_pos hz, hz]
          obtain ⟨e1, e2, e3, e4⟩ := formE_ok h1
          obtain ⟨g1, g2, g3, g4⟩ := formE_ok h2
          obtain ⟨_, hp⟩ := fitsE_parts h3
          obtain ⟨E, rfl⟩ : ∃ E : Nat, e = (E : Int) := ⟨e.toNat, by omega⟩
          obtain ⟨F, rfl⟩ : ∃ F : Nat, f = (F : Int) := ⟨f.toNat, by omega⟩
          obtain ⟨G, rfl⟩ : ∃ G : Nat, g = (G : Int) := ⟨g.toNat, by omega⟩
          obtain ⟨H, rfl⟩ : ∃ H : Nat, h = (H : Int) := ⟨h.toNat, by omega⟩
          simp only [Int.toNat_natCast] at hp ⊢
          unfold toB toG
          by_cases hxm : exN E F b = maskN E
          · by_cases hf0 : frN F b = 0
            · have q1 : naB E F b = false := decide_eq_false fun hh => hh.2 hf0
              have q2 : enB E F b = true := decide_eq_true ⟨hxm, hf0⟩
              rw [q1, q2]
              exact turnTo_inf E F G H b m w h1 h2 hp (by omega) hxm hf0
            · have q1 : naB E F b = true := decide_eq_true ⟨hxm, hf0⟩
              rw [q1]
              cases hq : quB F b
              · exact turnTo_loud E F G H b m w h1 h2 hp (by omega) hxm hf0 hq
              · exact turnTo_quiet E F G H b m w h1 h2 hp (by omega) hxm hf0 hq
          · have q1 : naB E F b = false := decide_eq_false fun hh => hxm hh.1
            have q2 : enB E F b = false := decide_eq_false fun hh => hxm hh.1
            rw [q1, q2]
            exact turnTo_fin E F G H b m w h1 h2 hp (by omega) hxm hT
      · have h6 : fitsE e f b = 6 := by
          rcases fitsE_three e f b with ⟨q, _⟩ | ⟨_, q | q⟩
          · rw [h1] at q; cases q
          · exact absurd q h3
          · exact q
        exact no (r := 6) (by decide) (by unfold toE; rw [if_neg (by simp [h1, h2]), if_pos (by simp [h3])]) (turnTo_bits e f g h b m w hb h1 h2 h6)
    · exact no (r := 5) (by decide) (by unfold toE; rw [if_pos (.inr h2)]) (turnTo_form2 e f g h b m w h1 (f5 h2))
  · exact no (r := 5) (by decide) (by unfold toE; rw [if_pos (.inl h1)]) (turnTo_form1 e f g h b m w (f5 h1))

end Go.Proofs.YtaddnoneoflimaaGreatDoor

