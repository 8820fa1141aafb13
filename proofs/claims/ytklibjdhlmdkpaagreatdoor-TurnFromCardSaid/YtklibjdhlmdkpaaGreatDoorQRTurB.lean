/-
  The walk of numeralref08.To.
-/
import Derived.Test.YtklibjdhlmdkpaaGreatDoorQTurBase
import Derived.Test.YtklibjdhlmdkpaaGreatDoorQRTurR
import Derived.Test.YtklibjdhlmdkpaaGreatDoorQRTurA
namespace Go.Proofs.YtklibjdhlmdkpaaGreatDoor
open Go.RowKit Go.Lb
set_option maxRecDepth 100000
set_option maxHeartbeats 4000000
attribute [local go_sem] Go.World.cell?_alloc_some
theorem refTo_form1 (e f g h : Int) (b m : Nat) (w : World) (h1 : formE e f = 5) :
  Calls Tryz.prog 19 #[.agg #[.int .i64 e, .int .i64 f], .agg #[.int .i64 g, .int .i64 h], .int .u64 b, .int .u8 m] w fun en w' => en = .returned (.tuple #[.int .u64 0, .int .u8 0, .int .i64 5]) ∧ Below w.heap.size w w' := by
 have H2 := two_forms w e f g h
 have ⟨hW, a0, a1, b0, b1⟩ := H2
 have cF := fun W => nbForm_any e f W
 have cG := fun W => nbForm_any g h W
 rw [form_not h1] at cF
 generalize formB g h = r at *
 go_enter Tryz.func19, Tryz.ntmps19
 go_wp2_with (first
  | (go_at_call 94; (with_reducible refine (cF _).mono ?_); rintro en w1 ⟨rfl, hb1⟩; replace H2 := H2.go hb1; have ⟨hW, a0, a1, b0, b1⟩ := H2)
  | (go_at_call 94; (with_reducible refine (cG _).mono ?_); rintro en w1 ⟨rfl, hb1⟩; replace H2 := H2.go hb1; have ⟨hW, a0, a1, b0, b1⟩ := H2))
 go_ret3
 exact ⟨rfl, hW⟩
theorem refTo_form2 (e f g h : Int) (b m : Nat) (w : World) (h1 : formE e f = 0) (h2 : formE g h = 5) :
  Calls Tryz.prog 19 #[.agg #[.int .i64 e, .int .i64 f], .agg #[.int .i64 g, .int .i64 h], .int .u64 b, .int .u8 m] w fun en w' => en = .returned (.tuple #[.int .u64 0, .int .u8 0, .int .i64 5]) ∧ Below w.heap.size w w' := by
 have H2 := two_forms w e f g h
 have ⟨hW, a0, a1, b0, b1⟩ := H2
 have cF := fun W => nbForm_any e f W
 have cG := fun W => nbForm_any g h W
 rw [form_yes h1] at cF
 rw [form_not h2] at cG
 go_enter Tryz.func19, Tryz.ntmps19
 go_wp2_with (first
  | (go_at_call 94; (with_reducible refine (cF _).mono ?_); rintro en w1 ⟨rfl, hb1⟩; replace H2 := H2.go hb1; have ⟨hW, a0, a1, b0, b1⟩ := H2)
  | (go_at_call 94; (with_reducible refine (cG _).mono ?_); rintro en w1 ⟨rfl, hb1⟩; replace H2 := H2.go hb1; have ⟨hW, a0, a1, b0, b1⟩ := H2))
 go_ret3
 exact ⟨rfl, hW⟩
theorem refTo_bits (e f g h : Int) (b m : Nat) (w : World) (hb : b < 18446744073709551616) (h1 : formE e f = 0) (h2 : formE g h = 0) (hx : fitsE e f b = 6) :
  Calls Tryz.prog 19 #[.agg #[.int .i64 e, .int .i64 f], .agg #[.int .i64 g, .int .i64 h], .int .u64 b, .int .u8 m] w fun en w' => en = .returned (.tuple #[.int .u64 0, .int .u8 0, .int .i64 6]) ∧ Below w.heap.size w w' := by
 have H2 := two_forms w e f g h
 have ⟨hW, a0, a1, b0, b1⟩ := H2
 have cF := fun W => nbForm_any e f W
 have cG := fun W => nbForm_any g h W
 have cA := fun W => nbAsked8_any e f b W hb
 rw [form_yes h1] at cF
 rw [form_yes h2] at cG
 rw [hx] at cA
 go_enter Tryz.func19, Tryz.ntmps19
 go_wp2_with (first
  | (go_at_call 94; (with_reducible refine (cF _).mono ?_); rintro en w1 ⟨rfl, hb1⟩; replace H2 := H2.go hb1; have ⟨hW, a0, a1, b0, b1⟩ := H2)
  | (go_at_call 94; (with_reducible refine (cG _).mono ?_); rintro en w1 ⟨rfl, hb1⟩; replace H2 := H2.go hb1; have ⟨hW, a0, a1, b0, b1⟩ := H2)
  | (go_at_call 95; (with_reducible refine (cA _).mono ?_); rintro en w1 ⟨rfl, hb1⟩; replace H2 := H2.go hb1; have ⟨hW, a0, a1, b0, b1⟩ := H2))
 go_ret3
 exact ⟨rfl, hW⟩
theorem refTo_mode (e f g h : Int) (b m : Nat) (w : World) (hb : b < 18446744073709551616) (h1 : formE e f = 0) (h2 : formE g h = 0) (hx : fitsE e f b = 0) (hm : 4 < m) :
  Calls Tryz.prog 19 #[.agg #[.int .i64 e, .int .i64 f], .agg #[.int .i64 g, .int .i64 h], .int .u64 b, .int .u8 m] w fun en w' => en = .returned (.tuple #[.int .u64 0, .int .u8 0, .int .i64 7]) ∧ Below w.heap.size w w' := by
 have H2 := two_forms w e f g h
 have ⟨hW, a0, a1, b0, b1⟩ := H2
 have hm4 : (m : Int) > 4 := by omega
 have cF := fun W => nbForm_any e f W
 have cG := fun W => nbForm_any g h W
 have cA := fun W => nbAsked8_any e f b W hb
 rw [form_yes h1] at cF
 rw [form_yes h2] at cG
 rw [hx] at cA
 go_enter Tryz.func19, Tryz.ntmps19
 go_wp2_with (first
  | (go_at_call 94; (with_reducible refine (cF _).mono ?_); rintro en w1 ⟨rfl, hb1⟩; replace H2 := H2.go hb1; have ⟨hW, a0, a1, b0, b1⟩ := H2)
  | (go_at_call 94; (with_reducible refine (cG _).mono ?_); rintro en w1 ⟨rfl, hb1⟩; replace H2 := H2.go hb1; have ⟨hW, a0, a1, b0, b1⟩ := H2)
  | (go_at_call 95; (with_reducible refine (cA _).mono ?_); rintro en w1 ⟨rfl, hb1⟩; replace H2 := H2.go hb1; have ⟨hW, a0, a1, b0, b1⟩ := H2))
 go_ret3
 exact ⟨rfl, hW⟩
theorem refTo_quiet (E F G H b m : Nat) (w : World) (h1 : formE E F = 0) (h2 : formE G H = 0) (hp : b < pw (1 + E + F)) (hm : m < 5) (hxm : exN E F b = maskN E) (hf0 : frN F b ≠ 0) (hq : quB F b = true) :
  Calls Tryz.prog 19 #[.agg #[.int .i64 E, .int .i64 F], .agg #[.int .i64 G, .int .i64 H], .int .u64 b, .int .u8 m] w fun en w' => en = .returned (.tuple #[.int .u64 (nanN G H : Int), .int .u8 0, .int .i64 0]) ∧ Below w.heap.size w w' := by
 have H2 := two_forms w E F (G : Int) (H : Int)
 have ⟨hW, a0, a1, b0, b1⟩ := H2
 obtain ⟨e1, e2, e3, e4⟩ := formE_ok h1
 obtain ⟨g1, g2, g3, g4⟩ := formE_ok h2
 have hm4 : ¬ (m : Int) > 4 := by omega
 have hf := fits_bits h1 hp
 have hb : b < 18446744073709551616 := by
  have h := pw_le (j := 1 + E + F) (k := 64) (by omega)
  have h64 : pw 64 = 18446744073709551616 := by unfold pw; rfl
  omega
 have cF := fun W => nbForm_any E F W
 have cG := fun W => nbForm_any G H W
 have cA := fun W => nbAsked8_any E F b W hb
 have cS := fun W => nbSign5_any E F W (by omega) (by omega)
 have cZ := fun W => nbSign5_any G H W (by omega) (by omega)
 have cN := fun W => nbIsNaN8_any E F b W (by omega) (by omega) (by omega) (by omega) hb
 have cE := fun W => nbFinite5_any E F b W (by omega) (by omega) (by omega) (by omega) hp
 rw [form_yes h1] at cF
 rw [form_yes h2] at cG
 rw [hf] at cA
 have hsg := (bits_parts hp).2
 have cQ := fun W => nbQuiet8_any (E : Int) F b W (by omega) (by omega) hb
 have cM := fun W => nbNaN8_any G H W (by omega) (by omega) (by omega) (by omega)
 rw [hq] at cQ
 rw [show naB E F b = true from decide_eq_true ⟨hxm, hf0⟩] at cN
 rw [decide_eq_false (fun hh => hh hxm)] at cE
 generalize nanN G H = nn at *
 generalize sgB E F b = sg at *
 generalize (2 ^ (E + F) : Nat) = SF at *
 generalize (2 ^ (G + H) : Nat) = SH at *
 clear hxm hf0 hq hf h1 h2 hp
 have hsw := sign_way hsg
 clear hsg
 rcases hsw with ⟨rfl, hg1⟩ | ⟨rfl, hg1⟩
 all_goals
  go_enter Tryz.func19, Tryz.ntmps19
  go_wp2_with (first
   | (go_at_call 94; (with_reducible refine (cF _).mono ?_); rintro en w1 ⟨rfl, hb1⟩; replace H2 := H2.go hb1; have ⟨hW, a0, a1, b0, b1⟩ := H2)
   | (go_at_call 94; (with_reducible refine (cG _).mono ?_); rintro en w1 ⟨rfl, hb1⟩; replace H2 := H2.go hb1; have ⟨hW, a0, a1, b0, b1⟩ := H2)
   | (go_at_call 95; (with_reducible refine (cA _).mono ?_); rintro en w1 ⟨rfl, hb1⟩; replace H2 := H2.go hb1; have ⟨hW, a0, a1, b0, b1⟩ := H2)
   | (go_at_call 96; (with_reducible refine (cS _).mono ?_); rintro en w1 ⟨rfl, hb1⟩; replace H2 := H2.go hb1; have ⟨hW, a0, a1, b0, b1⟩ := H2)
   | (go_at_call 96; (with_reducible refine (cZ _).mono ?_); rintro en w1 ⟨rfl, hb1⟩; replace H2 := H2.go hb1; have ⟨hW, a0, a1, b0, b1⟩ := H2)
   | (go_at_call 97; (with_reducible refine (cN _).mono ?_); rintro en w1 ⟨rfl, hb1⟩; replace H2 := H2.go hb1; have ⟨hW, a0, a1, b0, b1⟩ := H2)
   | (go_at_call 98; (with_reducible refine (cE _).mono ?_); rintro en w1 ⟨rfl, hb1⟩; replace H2 := H2.go hb1; have ⟨hW, a0, a1, b0, b1⟩ := H2)
   | (go_at_call 99; (with_reducible refine (cQ _).mono ?_); rintro en w1 ⟨rfl, hb1⟩; replace H2 := H2.go hb1; have ⟨hW, a0, a1, b0, b1⟩ := H2)
   | (go_at_call 100; (with_reducible refine (cM _).mono ?_); rintro en w1 ⟨rfl, hb1⟩; replace H2 := H2.go hb1; have ⟨hW, a0, a1, b0, b1⟩ := H2))
  go_ret3
  exact ⟨rfl, hW⟩
theorem refTo_loud (E F G H b m : Nat) (w : World) (h1 : formE E F = 0) (h2 : formE G H = 0) (hp : b < pw (1 + E + F)) (hm : m < 5) (hxm : exN E F b = maskN E) (hf0 : frN F b ≠ 0) (hq : quB F b = false) :
  Calls Tryz.prog 19 #[.agg #[.int .i64 E, .int .i64 F], .agg #[.int .i64 G, .int .i64 H], .int .u64 b, .int .u8 m] w fun en w' => en = .returned (.tuple #[.int .u64 (nanN G H : Int), .int .u8 16, .int .i64 0]) ∧ Below w.heap.size w w' := by
 have H2 := two_forms w E F (G : Int) (H : Int)
 have ⟨hW, a0, a1, b0, b1⟩ := H2
 obtain ⟨e1, e2, e3, e4⟩ := formE_ok h1
 obtain ⟨g1, g2, g3, g4⟩ := formE_ok h2
 have hm4 : ¬ (m : Int) > 4 := by omega
 have hf := fits_bits h1 hp
 have hb : b < 18446744073709551616 := by
  have h := pw_le (j := 1 + E + F) (k := 64) (by omega)
  have h64 : pw 64 = 18446744073709551616 := by unfold pw; rfl
  omega
 have cF := fun W => nbForm_any E F W
 have cG := fun W => nbForm_any G H W
 have cA := fun W => nbAsked8_any E F b W hb
 have cS := fun W => nbSign5_any E F W (by omega) (by omega)
 have cZ := fun W => nbSign5_any G H W (by omega) (by omega)
 have cN := fun W => nbIsNaN8_any E F b W (by omega) (by omega) (by omega) (by omega) hb
 have cE := fun W => nbFinite5_any E F b W (by omega) (by omega) (by omega) (by omega) hp
 rw [form_yes h1] at cF
 rw [form_yes h2] at cG
 rw [hf] at cA
 have hsg := (bits_parts hp).2
 have cQ := fun W => nbQuiet8_any (E : Int) F b W (by omega) (by omega) hb
 have cM := fun W => nbNaN8_any G H W (by omega) (by omega) (by omega) (by omega)
 rw [hq] at cQ
 rw [show naB E F b = true from decide_eq_true ⟨hxm, hf0⟩] at cN
 rw [decide_eq_false (fun hh => hh hxm)] at cE
 generalize nanN G H = nn at *
 generalize sgB E F b = sg at *
 generalize (2 ^ (E + F) : Nat) = SF at *
 generalize (2 ^ (G + H) : Nat) = SH at *
 clear hxm hf0 hq hf h1 h2 hp
 have hsw := sign_way hsg
 clear hsg
 rcases hsw with ⟨rfl, hg1⟩ | ⟨rfl, hg1⟩
 all_goals
  go_enter Tryz.func19, Tryz.ntmps19
  go_wp2_with (first
   | (go_at_call 94; (with_reducible refine (cF _).mono ?_); rintro en w1 ⟨rfl, hb1⟩; replace H2 := H2.go hb1; have ⟨hW, a0, a1, b0, b1⟩ := H2)
   | (go_at_call 94; (with_reducible refine (cG _).mono ?_); rintro en w1 ⟨rfl, hb1⟩; replace H2 := H2.go hb1; have ⟨hW, a0, a1, b0, b1⟩ := H2)
   | (go_at_call 95; (with_reducible refine (cA _).mono ?_); rintro en w1 ⟨rfl, hb1⟩; replace H2 := H2.go hb1; have ⟨hW, a0, a1, b0, b1⟩ := H2)
   | (go_at_call 96; (with_reducible refine (cS _).mono ?_); rintro en w1 ⟨rfl, hb1⟩; replace H2 := H2.go hb1; have ⟨hW, a0, a1, b0, b1⟩ := H2)
   | (go_at_call 96; (with_reducible refine (cZ _).mono ?_); rintro en w1 ⟨rfl, hb1⟩; replace H2 := H2.go hb1; have ⟨hW, a0, a1, b0, b1⟩ := H2)
   | (go_at_call 97; (with_reducible refine (cN _).mono ?_); rintro en w1 ⟨rfl, hb1⟩; replace H2 := H2.go hb1; have ⟨hW, a0, a1, b0, b1⟩ := H2)
   | (go_at_call 98; (with_reducible refine (cE _).mono ?_); rintro en w1 ⟨rfl, hb1⟩; replace H2 := H2.go hb1; have ⟨hW, a0, a1, b0, b1⟩ := H2)
   | (go_at_call 99; (with_reducible refine (cQ _).mono ?_); rintro en w1 ⟨rfl, hb1⟩; replace H2 := H2.go hb1; have ⟨hW, a0, a1, b0, b1⟩ := H2)
   | (go_at_call 100; (with_reducible refine (cM _).mono ?_); rintro en w1 ⟨rfl, hb1⟩; replace H2 := H2.go hb1; have ⟨hW, a0, a1, b0, b1⟩ := H2))
  go_ret3
  exact ⟨rfl, hW⟩
theorem refTo_inf (E F G H b m : Nat) (w : World) (h1 : formE E F = 0) (h2 : formE G H = 0) (hp : b < pw (1 + E + F)) (hm : m < 5) (hxm : exN E F b = maskN E) (hf0 : frN F b = 0) :
  Calls Tryz.prog 19 #[.agg #[.int .i64 E, .int .i64 F], .agg #[.int .i64 G, .int .i64 H], .int .u64 b, .int .u8 m] w fun en w' => en = .returned (.tuple #[.int .u64 (joinN G H (sgB E F b) (maskN G) 0 : Int), .int .u8 0, .int .i64 0]) ∧ Below w.heap.size w w' := by
 have H2 := two_forms w E F (G : Int) (H : Int)
 have ⟨hW, a0, a1, b0, b1⟩ := H2
 obtain ⟨e1, e2, e3, e4⟩ := formE_ok h1
 obtain ⟨g1, g2, g3, g4⟩ := formE_ok h2
 have hm4 : ¬ (m : Int) > 4 := by omega
 have hf := fits_bits h1 hp
 have hb : b < 18446744073709551616 := by
  have h := pw_le (j := 1 + E + F) (k := 64) (by omega)
  have h64 : pw 64 = 18446744073709551616 := by unfold pw; rfl
  omega
 have cF := fun W => nbForm_any E F W
 have cG := fun W => nbForm_any G H W
 have cA := fun W => nbAsked8_any E F b W hb
 have cS := fun W => nbSign5_any E F W (by omega) (by omega)
 have cZ := fun W => nbSign5_any G H W (by omega) (by omega)
 have cN := fun W => nbIsNaN8_any E F b W (by omega) (by omega) (by omega) (by omega) hb
 have cE := fun W => nbFinite5_any E F b W (by omega) (by omega) (by omega) (by omega) hp
 rw [form_yes h1] at cF
 rw [form_yes h2] at cG
 rw [hf] at cA
 have hsg := (bits_parts hp).2
 have cI := fun W => nbInf8_any G H W (by omega) (by omega) (by omega) (by omega)
 rw [show naB E F b = false from decide_eq_false (fun hh => hh.2 hf0)] at cN
 rw [decide_eq_false (fun hh => hh hxm)] at cE
 obtain ⟨j1, j2, j3, j4⟩ := join_inf (G := G) (H := H) (by omega) (by omega) (by omega)
 have J1 := Lib.hid j1
 have J2 := Lib.hid j2
 generalize infN G H = nn at *
 generalize sgB E F b = sg at *
 generalize (2 ^ (E + F) : Nat) = SF at *
 generalize (2 ^ (G + H) : Nat) = SH at *
 clear hxm hf0 hf h1 h2 hp j1 j2
 have hsw := sign_way hsg
 clear hsg
 rcases hsw with ⟨rfl, hg1⟩ | ⟨rfl, hg1⟩
 all_goals
  go_enter Tryz.func19, Tryz.ntmps19
  go_wp2_with (first
   | (go_at_call 94; (with_reducible refine (cF _).mono ?_); rintro en w1 ⟨rfl, hb1⟩; replace H2 := H2.go hb1; have ⟨hW, a0, a1, b0, b1⟩ := H2)
   | (go_at_call 94; (with_reducible refine (cG _).mono ?_); rintro en w1 ⟨rfl, hb1⟩; replace H2 := H2.go hb1; have ⟨hW, a0, a1, b0, b1⟩ := H2)
   | (go_at_call 95; (with_reducible refine (cA _).mono ?_); rintro en w1 ⟨rfl, hb1⟩; replace H2 := H2.go hb1; have ⟨hW, a0, a1, b0, b1⟩ := H2)
   | (go_at_call 96; (with_reducible refine (cS _).mono ?_); rintro en w1 ⟨rfl, hb1⟩; replace H2 := H2.go hb1; have ⟨hW, a0, a1, b0, b1⟩ := H2)
   | (go_at_call 96; (with_reducible refine (cZ _).mono ?_); rintro en w1 ⟨rfl, hb1⟩; replace H2 := H2.go hb1; have ⟨hW, a0, a1, b0, b1⟩ := H2)
   | (go_at_call 97; (with_reducible refine (cN _).mono ?_); rintro en w1 ⟨rfl, hb1⟩; replace H2 := H2.go hb1; have ⟨hW, a0, a1, b0, b1⟩ := H2)
   | (go_at_call 98; (with_reducible refine (cE _).mono ?_); rintro en w1 ⟨rfl, hb1⟩; replace H2 := H2.go hb1; have ⟨hW, a0, a1, b0, b1⟩ := H2)
   | (go_at_call 101; (with_reducible refine (cI _).mono ?_); rintro en w1 ⟨rfl, hb1⟩; replace H2 := H2.go hb1; have ⟨hW, a0, a1, b0, b1⟩ := H2))
  go_ret3
  exact ⟨by first | (rw [J1.out]; rfl) | (rw [J2.out]; rfl), hW⟩
theorem refTo_fin (E F G H b m : Nat) (w : World) (h1 : formE E F = 0) (h2 : formE G H = 0) (hp : b < pw (1 + E + F)) (hm : m < 5) (hxm : exN E F b ≠ maskN E) (hT : Tab w) :
  Calls Tryz.prog 19 #[.agg #[.int .i64 E, .int .i64 F], .agg #[.int .i64 G, .int .i64 H], .int .u64 b, .int .u8 m] w fun en w' => en = .returned (.tuple #[.int .u64 (dyBits G H (valS E F b) (limbs (valN E F b)) (valX E F b) (sgB E F b) m : Int), .int .u8 (dyFlags G H (valS E F b) (limbs (valN E F b)) (valX E F b) m : Int), .int .i64 0]) ∧ Below w.heap.size w w' := by
 have H2 := two_forms w E F (G : Int) (H : Int)
 have ⟨hW, a0, a1, b0, b1⟩ := H2
 obtain ⟨e1, e2, e3, e4⟩ := formE_ok h1
 obtain ⟨g1, g2, g3, g4⟩ := formE_ok h2
 have hm4 : ¬ (m : Int) > 4 := by omega
 have hf := fits_bits h1 hp
 have hb : b < 18446744073709551616 := by
  have h := pw_le (j := 1 + E + F) (k := 64) (by omega)
  have h64 : pw 64 = 18446744073709551616 := by unfold pw; rfl
  omega
 have cF := fun W => nbForm_any E F W
 have cG := fun W => nbForm_any G H W
 have cA := fun W => nbAsked8_any E F b W hb
 have cS := fun W => nbSign5_any E F W (by omega) (by omega)
 have cZ := fun W => nbSign5_any G H W (by omega) (by omega)
 have cN := fun W => nbIsNaN8_any E F b W (by omega) (by omega) (by omega) (by omega) hb
 have cE := fun W => nbFinite5_any E F b W (by omega) (by omega) (by omega) (by omega) hp
 rw [form_yes h1] at cF
 rw [form_yes h2] at cG
 rw [hf] at cA
 have hsg := (bits_parts hp).2
 obtain ⟨d1, d2, d3, l1, l2, d6⟩ := dy_worth (E := E) (F := F) (G := G) (H := H) (b := b) (m := m) (by omega) (by omega) (by omega) h2 hf hp hxm hm (sgB E F b)
 rw [d2, d3]
 rw [show naB E F b = false from decide_eq_false (fun hh => hxm hh.1)] at cN
 rw [decide_eq_true hxm] at cE
 have cW : ∀ W, Below w.heap.size w W → Calls Tryz.prog 103 #[.agg #[.int .i64 E, .int .i64 F], .int .u64 b] W (MkQ 38 (wrQ E F b) W) := fun W hW => nbWorth5_any E F b W h1 hp hxm (hT.below hW)
 have cR : ∀ W B t, Below w.heap.size w W → Rq 38 W B t (wrQ E F b) → Calls Tryz.prog 102 #[.agg #[.int .i64 G, .int .i64 H], .pointer (some ⟨t, 0, none⟩), .bool (sgB E F b), .int .u8 m] W _ := fun W B t hW hQ => nbRat_any B t G H m (wrQ E F b) (sgB E F b) W hQ (by omega) (by omega) (by omega) (by omega) hm (by omega) (by omega) (hT.below hW)
 clear d1 d2 d3 d6 l1 l2
 generalize sgBits G H (wrQ E F b).num.natAbs (wrQ E F b).den (decide ((wrQ E F b).num < 0)) (sgB E F b) m = oB at *
 generalize sgFlags G H (wrQ E F b).num.natAbs (wrQ E F b).den (decide ((wrQ E F b).num < 0)) m = oG at *
 generalize wrQ E F b = q at *
 generalize sgB E F b = sg at *
 generalize (2 ^ (E + F) : Nat) = SF at *
 generalize (2 ^ (G + H) : Nat) = SH at *
 clear hxm hf h1 h2 hp hT
 have hsw := sign_way hsg
 clear hsg
 rcases hsw with ⟨rfl, hg1⟩ | ⟨rfl, hg1⟩
 all_goals
  go_enter Tryz.func19, Tryz.ntmps19
  go_upto_region 22 with (first
   | (go_at_call 94; (with_reducible refine (cF _).mono ?_); rintro en w1 ⟨rfl, hb1⟩; replace H2 := H2.go hb1; have ⟨hW, a0, a1, b0, b1⟩ := H2)
   | (go_at_call 94; (with_reducible refine (cG _).mono ?_); rintro en w1 ⟨rfl, hb1⟩; replace H2 := H2.go hb1; have ⟨hW, a0, a1, b0, b1⟩ := H2)
   | (go_at_call 95; (with_reducible refine (cA _).mono ?_); rintro en w1 ⟨rfl, hb1⟩; replace H2 := H2.go hb1; have ⟨hW, a0, a1, b0, b1⟩ := H2)
   | (go_at_call 96; (with_reducible refine (cS _).mono ?_); rintro en w1 ⟨rfl, hb1⟩; replace H2 := H2.go hb1; have ⟨hW, a0, a1, b0, b1⟩ := H2)
   | (go_at_call 96; (with_reducible refine (cZ _).mono ?_); rintro en w1 ⟨rfl, hb1⟩; replace H2 := H2.go hb1; have ⟨hW, a0, a1, b0, b1⟩ := H2)
   | (go_at_call 97; (with_reducible refine (cN _).mono ?_); rintro en w1 ⟨rfl, hb1⟩; replace H2 := H2.go hb1; have ⟨hW, a0, a1, b0, b1⟩ := H2)
   | (go_at_call 98; (with_reducible refine (cE _).mono ?_); rintro en w1 ⟨rfl, hb1⟩; replace H2 := H2.go hb1; have ⟨hW, a0, a1, b0, b1⟩ := H2))
  have kS : ∀ w' : World, Below w1.heap.size w1 w' → (w'.cell? ⟨w.heap.size, 0, none⟩ = some (.int .i64 E) ∧ w'.cell? ⟨w.heap.size, 1, none⟩ = some (.int .i64 F) ∧ w'.cell? ⟨w.heap.size + 1, 0, none⟩ = some (.int .i64 G) ∧ w'.cell? ⟨w.heap.size + 1, 1, none⟩ = some (.int .i64 H) ∧ Below w1.heap.size w1 w') := fun w' hb => ⟨cellStay a0 hb, cellStay a1 hb, cellStay b0 hb, cellStay b1 hb, hb⟩
  go_region_held3 (fun w' => w'.cell? ⟨w.heap.size, 0, none⟩ = some (.int .i64 E) ∧ w'.cell? ⟨w.heap.size, 1, none⟩ = some (.int .i64 F) ∧ w'.cell? ⟨w.heap.size + 1, 0, none⟩ = some (.int .i64 G) ∧ w'.cell? ⟨w.heap.size + 1, 1, none⟩ = some (.int .i64 H) ∧ Below w1.heap.size w1 w')
   ((refine kS _ ?_; (repeat (with_reducible (first | exact VB | exact VA | exact Below.refl _ _ | refine Below.drew ?_))); done))
   (first
    | (go_at_call 103; (with_reducible refine (cW _ hW.drew).mono ?_); rintro en wA ⟨t1, rfl, QA, hbA⟩; have VA : Below w1.heap.size w1 wA := (by first | exact hbA | exact undrew hbA))
    | (go_at_call 102; (with_reducible refine (cR _ _ _ (next hW VA) QA).mono ?_); rintro en wB ⟨rfl, hbB⟩; have VB := next VA hbB))
  all_goals go_wp2
  all_goals go_ret3
  all_goals exact ⟨rfl, next hW VB⟩
theorem refTo_any (e f g h : Int) (b m : Nat) (w : World) (hb : b < 18446744073709551616) (hT : Tab w) :
  Calls Tryz.prog 19 #[.agg #[.int .i64 e, .int .i64 f], .agg #[.int .i64 g, .int .i64 h], .int .u64 b, .int .u8 m] w fun en w' => en = .returned (.tuple #[.int .u64 (toBi e f g h b m : Int), .int .u8 (toGi e f g h b m : Int), .int .i64 (toE e f g h b m)]) ∧ Below w.heap.size w w' := by
 have no : ∀ {r : Int}, r ≠ 0 → toE e f g h b m = r → (Calls Tryz.prog 19 #[.agg #[.int .i64 e, .int .i64 f], .agg #[.int .i64 g, .int .i64 h], .int .u64 b, .int .u8 m] w fun en w' => en = .returned (.tuple #[.int .u64 0, .int .u8 0, .int .i64 r]) ∧ Below w.heap.size w w') → (Calls Tryz.prog 19 #[.agg #[.int .i64 e, .int .i64 f], .agg #[.int .i64 g, .int .i64 h], .int .u64 b, .int .u8 m] w fun en w' => en = .returned (.tuple #[.int .u64 (toBi e f g h b m : Int), .int .u8 (toGi e f g h b m : Int), .int .i64 (toE e f g h b m)]) ∧ Below w.heap.size w w') := fun hr he H => by
  have h0 : toE e f g h b m ≠ 0 := by rw [he]; exact hr
  unfold toBi toGi
  rw [if_neg h0, if_neg h0, he]
  exact H
 have f5 : ∀ {e f : Int}, formE e f ≠ 0 → formE e f = 5 := fun {e f} h => by unfold formE at h ⊢; split at h <;> simp_all
 by_cases h1 : formE e f = 0
 ·by_cases h2 : formE g h = 0
  ·by_cases h3 : fitsE e f b = 0
   ·by_cases hm : 4 < m
    ·exact no (r := 7) (by decide) (by unfold toE; rw [if_neg (by simp [h1, h2]), if_neg (by simp [h3]), if_pos hm]) (refTo_mode e f g h b m w hb h1 h2 h3 hm)
    ·have hz : toE e f g h b m = 0 := by unfold toE; rw [if_neg (by simp [h1, h2]), if_neg (by simp [h3]), if_neg hm]
     unfold toBi toGi
     rw [if_pos hz, if_pos hz, hz]
     obtain ⟨e1, e2, e3, e4⟩ := formE_ok h1
     obtain ⟨g1, g2, g3, g4⟩ := formE_ok h2
     obtain ⟨_, hp⟩ := fitsE_parts h3
     obtain ⟨E, rfl⟩ : ∃ E : Nat, e = (E : Int) := ⟨e.toNat, by omega⟩
     obtain ⟨F, rfl⟩ : ∃ F : Nat, f = (F : Int) := ⟨f.toNat, by omega⟩
     obtain ⟨G, rfl⟩ : ∃ G : Nat, g = (G : Int) := ⟨g.toNat, by omega⟩
     obtain ⟨H, rfl⟩ : ∃ H : Nat, h = (H : Int) := ⟨h.toNat, by omega⟩
     simp only [Int.toNat_natCast] at hp ⊢
     unfold toB toG
     by_cases hxm : exN E F b = maskN E
     ·by_cases hf0 : frN F b = 0
      ·have q1 : naB E F b = false := decide_eq_false fun hh => hh.2 hf0
       have q2 : enB E F b = true := decide_eq_true ⟨hxm, hf0⟩
       rw [q1, q2]
       exact refTo_inf E F G H b m w h1 h2 hp (by omega) hxm hf0
      ·have q1 : naB E F b = true := decide_eq_true ⟨hxm, hf0⟩
       rw [q1]
       cases hq : quB F b
       ·exact refTo_loud E F G H b m w h1 h2 hp (by omega) hxm hf0 hq
       ·exact refTo_quiet E F G H b m w h1 h2 hp (by omega) hxm hf0 hq
     ·have q1 : naB E F b = false := decide_eq_false fun hh => hxm hh.1
      have q2 : enB E F b = false := decide_eq_false fun hh => hxm hh.1
      rw [q1, q2]
      exact refTo_fin E F G H b m w h1 h2 hp (by omega) hxm hT
   ·have h6 : fitsE e f b = 6 := by
     rcases fitsE_three e f b with ⟨q, _⟩ | ⟨_, q | q⟩
     ·rw [h1] at q; cases q
     ·exact absurd q h3
     ·exact q
    exact no (r := 6) (by decide) (by unfold toE; rw [if_neg (by simp [h1, h2]), if_pos (by simp [h3])]) (refTo_bits e f g h b m w hb h1 h2 h6)
  ·exact no (r := 5) (by decide) (by unfold toE; rw [if_pos (.inr h2)]) (refTo_form2 e f g h b m w h1 (f5 h2))
 ·exact no (r := 5) (by decide) (by unfold toE; rw [if_pos (.inl h1)]) (refTo_form1 e f g h b m w (f5 h1))
end Go.Proofs.YtklibjdhlmdkpaaGreatDoor
