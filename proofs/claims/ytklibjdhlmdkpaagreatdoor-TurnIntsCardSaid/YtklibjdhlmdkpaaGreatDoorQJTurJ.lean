/-
  The walk of numeralref08.Int. (Printed by wip/gen/turjnt.py.)
-/
import Derived.Test.YtklibjdhlmdkpaaGreatDoorQIntBase
namespace Go.Proofs.YtklibjdhlmdkpaaGreatDoor

open Go.RowKit Go.Lb

attribute [local go_sem] Go.World.cell?_alloc_some

theorem isB_ex (x : Rat) : isB x = exB x.num.natAbs x.den := by
  have hp := x.den_pos
  have hc : Nat.Coprime x.num.natAbs x.den := x.reduced
  unfold isB exB
  rw [decide_eq_decide]
  constructor
  · intro h
    rw [h, Nat.mod_one]
  · intro h
    have h1 := Nat.dvd_of_mod_eq_zero h
    exact Nat.Coprime.eq_one_of_dvd hc.symm h1

/-- What fits, by the number itself. -/
theorem in_fits (k : Nat) (s : Bool) (R : Nat) : inOk k s R = decide (-((2 ^ k : Nat) : Int) ≤ sgZ s R ∧ sgZ s R ≤ ((2 ^ k : Nat) : Int) - 1) := by
  have hp := Nat.two_pow_pos k
  unfold inOk sgZ
  rw [decide_eq_decide]
  generalize 2 ^ k = P at *
  cases s
  · simp
    omega
  · simp
    omega

set_option maxRecDepth 100000 in
set_option maxHeartbeats 4000000 in
theorem refInt_bits (e f wd : Int) (b m : Nat) (w : World) (hb : b < 18446744073709551616) (hx : fitsE e f b ≠ 0) :
    Calls Tryz.prog 20 #[.agg #[.int .i64 e, .int .i64 f], .int .u64 (b : Int), .int .i64 wd, .int .u8 (m : Int)] w fun en w' => en = .returned (.tuple #[.int .i64 0, .int .u8 0, .int .i64 (fitsE e f b)]) ∧ Below w.heap.size w w' := by
  have A := box2_new w (.int .i64 e) (.int .i64 f) 24
  have hW := more (Below.refl w.heap.size w) (.cells #[.int .i64 e, .int .i64 f] 24)
  have ⟨a0, a1⟩ := A
  have cA := fun W => nbAsked8_any e f b W hb
  have hx1 : (fitsE e f b != 0) = true := bne_iff_ne.2 hx
  generalize fitsE e f b = r at *
  go_enter Tryz.func20, Tryz.ntmps20
  go_wp2_with (go_at_call 95; (with_reducible refine (cA _).mono ?_); rintro en w1 ⟨rfl, hb1⟩; replace hW := next hW hb1; replace A := A.stay hb1; have ⟨a0, a1⟩ := A)
  go_ret3
  exact ⟨rfl, hW⟩

set_option maxRecDepth 100000 in
set_option maxHeartbeats 4000000 in
theorem refInt_width (e f wd : Int) (b m : Nat) (w : World) (hb : b < 18446744073709551616) (hx : fitsE e f b = 0) (h1 : wd ≠ 8) (h2 : wd ≠ 16) (h3 : wd ≠ 32) (h4 : wd ≠ 64) :
    Calls Tryz.prog 20 #[.agg #[.int .i64 e, .int .i64 f], .int .u64 (b : Int), .int .i64 wd, .int .u8 (m : Int)] w fun en w' => en = .returned (.tuple #[.int .i64 0, .int .u8 0, .int .i64 80]) ∧ Below w.heap.size w w' := by
  have A := box2_new w (.int .i64 e) (.int .i64 f) 24
  have hW := more (Below.refl w.heap.size w) (.cells #[.int .i64 e, .int .i64 f] 24)
  have ⟨a0, a1⟩ := A
  have cA := fun W => nbAsked8_any e f b W hb
  rw [hx] at cA
  have d1 : (wd != 8) = true := bne_iff_ne.2 h1
  have d2 : (wd != 16) = true := bne_iff_ne.2 h2
  have d3 : (wd != 32) = true := bne_iff_ne.2 h3
  have d4 : (wd != 64) = true := bne_iff_ne.2 h4
  go_enter Tryz.func20, Tryz.ntmps20
  go_wp2_with (go_at_call 95; (with_reducible refine (cA _).mono ?_); rintro en w1 ⟨rfl, hb1⟩; replace hW := next hW hb1; replace A := A.stay hb1; have ⟨a0, a1⟩ := A)
  go_ret3
  exact ⟨rfl, hW⟩

set_option maxRecDepth 100000 in
set_option maxHeartbeats 4000000 in
theorem refInt_mode (e f wd : Int) (b m : Nat) (w : World) (hb : b < 18446744073709551616) (hx : fitsE e f b = 0) (hw : wd = 8 ∨ wd = 16 ∨ wd = 32 ∨ wd = 64) (hm : 4 < m) :
    Calls Tryz.prog 20 #[.agg #[.int .i64 e, .int .i64 f], .int .u64 (b : Int), .int .i64 wd, .int .u8 (m : Int)] w fun en w' => en = .returned (.tuple #[.int .i64 0, .int .u8 0, .int .i64 7]) ∧ Below w.heap.size w w' := by
  have A := box2_new w (.int .i64 e) (.int .i64 f) 24
  have hW := more (Below.refl w.heap.size w) (.cells #[.int .i64 e, .int .i64 f] 24)
  have ⟨a0, a1⟩ := A
  have cA := fun W => nbAsked8_any e f b W hb
  rw [hx] at cA
  have hm4 : (m : Int) > 4 := by omega
  rcases hw with rfl | rfl | rfl | rfl
  all_goals
    go_enter Tryz.func20, Tryz.ntmps20
    go_wp2_with (go_at_call 95; (with_reducible refine (cA _).mono ?_); rintro en w1 ⟨rfl, hb1⟩; replace hW := next hW hb1; replace A := A.stay hb1; have ⟨a0, a1⟩ := A)
    go_ret3
    exact ⟨rfl, hW⟩

set_option maxRecDepth 100000 in
set_option maxHeartbeats 4000000 in
theorem refIntW_nan (wd L M : Int) (k : Nat) (E F b m : Nat) (w : World) (hw : wd = 8 ∧ k = 7 ∧ L = 128 ∧ M = 127 ∨ wd = 16 ∧ k = 15 ∧ L = 32768 ∧ M = 32767 ∨ wd = 32 ∧ k = 31 ∧ L = 2147483648 ∧ M = 2147483647 ∨ wd = 64 ∧ k = 63 ∧ L = 9223372036854775808 ∧ M = 9223372036854775807) (h1 : formE (E : Int) (F : Int) = 0) (hp : b < pw (1 + E + F)) (hm : m < 5) (hxm : exN E F b = maskN E) (hf0 : frN F b ≠ 0) :
    Calls Tryz.prog 20 #[.agg #[.int .i64 (E : Int), .int .i64 (F : Int)], .int .u64 (b : Int), .int .i64 wd, .int .u8 (m : Int)] w fun en w' => en = .returned (.tuple #[.int .i64 0, .int .u8 16, .int .i64 0]) ∧ Below w.heap.size w w' := by
  have A := box2_new w (.int .i64 (E : Int)) (.int .i64 (F : Int)) 24
  have hW := more (Below.refl w.heap.size w) (.cells #[.int .i64 (E : Int), .int .i64 (F : Int)] 24)
  have ⟨a0, a1⟩ := A
  obtain ⟨e1, e2, e3, e4⟩ := formE_ok h1
  have hm4 : ¬ (m : Int) > 4 := by omega
  have hf := fits_bits h1 hp
  have hb : b < 18446744073709551616 := by
    have h := pw_le (j := 1 + E + F) (k := 64) (by omega)
    have h64 : pw 64 = 18446744073709551616 := by unfold pw; rfl
    omega
  have cA := fun W => nbAsked8_any (E : Int) (F : Int) b W hb
  have cS := fun W => nbSign5_any E F W (by omega) (by omega)
  have cN := fun W => nbIsNaN8_any E F b W (by omega) (by omega) (by omega) (by omega) hb
  have cE := fun W => nbFinite5_any E F b W (by omega) (by omega) (by omega) (by omega) hp
  rw [hf] at cA
  have hsw := sign_way (bits_parts hp).2
  have hP : ((2 ^ k : Nat) : Int) = L := by rcases hw with ⟨_, rfl, rfl, _⟩ | ⟨_, rfl, rfl, _⟩ | ⟨_, rfl, rfl, _⟩ | ⟨_, rfl, rfl, _⟩ <;> decide +kernel
  have hM : L - 1 = M := by omega
  have hL : 128 ≤ L ∧ L ≤ 9223372036854775808 := by omega
  rw [show naB E F b = true from decide_eq_true ⟨hxm, hf0⟩] at cN
  rw [decide_eq_false (fun hh => hh hxm)] at cE
  generalize sgB E F b = sg at *
  generalize (2 ^ (E + F) : Nat) = SF at *
  clear hxm hf0 hf h1 hp hsw
  clear hP hM hL
  rcases hw with ⟨rfl, rfl, rfl, rfl⟩ | ⟨rfl, rfl, rfl, rfl⟩ | ⟨rfl, rfl, rfl, rfl⟩ | ⟨rfl, rfl, rfl, rfl⟩
  all_goals
    go_enter Tryz.func20, Tryz.ntmps20
    go_wp2_with (first
      | (go_at_call 95; (with_reducible refine (cA _).mono ?_); rintro en w1 ⟨rfl, hb1⟩; replace hW := next hW hb1; replace A := A.stay hb1; have ⟨a0, a1⟩ := A)
      | (go_at_call 97; (with_reducible refine (cN _).mono ?_); rintro en w1 ⟨rfl, hb1⟩; replace hW := next hW hb1; replace A := A.stay hb1; have ⟨a0, a1⟩ := A)
      | (go_at_call 98; (with_reducible refine (cE _).mono ?_); rintro en w1 ⟨rfl, hb1⟩; replace hW := next hW hb1; replace A := A.stay hb1; have ⟨a0, a1⟩ := A))
    go_ret3
    exact ⟨rfl, hW⟩

set_option maxRecDepth 100000 in
set_option maxHeartbeats 4000000 in
theorem refIntW_inf (wd L M : Int) (k : Nat) (E F b m : Nat) (w : World) (hw : wd = 8 ∧ k = 7 ∧ L = 128 ∧ M = 127 ∨ wd = 16 ∧ k = 15 ∧ L = 32768 ∧ M = 32767 ∨ wd = 32 ∧ k = 31 ∧ L = 2147483648 ∧ M = 2147483647 ∨ wd = 64 ∧ k = 63 ∧ L = 9223372036854775808 ∧ M = 9223372036854775807) (h1 : formE (E : Int) (F : Int) = 0) (hp : b < pw (1 + E + F)) (hm : m < 5) (hxm : exN E F b = maskN E) (hf0 : frN F b = 0) :
    Calls Tryz.prog 20 #[.agg #[.int .i64 (E : Int), .int .i64 (F : Int)], .int .u64 (b : Int), .int .i64 wd, .int .u8 (m : Int)] w fun en w' => en = .returned (.tuple #[.int .i64 (inEnd k (sgB E F b)), .int .u8 16, .int .i64 0]) ∧ Below w.heap.size w w' := by
  have A := box2_new w (.int .i64 (E : Int)) (.int .i64 (F : Int)) 24
  have hW := more (Below.refl w.heap.size w) (.cells #[.int .i64 (E : Int), .int .i64 (F : Int)] 24)
  have ⟨a0, a1⟩ := A
  obtain ⟨e1, e2, e3, e4⟩ := formE_ok h1
  have hm4 : ¬ (m : Int) > 4 := by omega
  have hf := fits_bits h1 hp
  have hb : b < 18446744073709551616 := by
    have h := pw_le (j := 1 + E + F) (k := 64) (by omega)
    have h64 : pw 64 = 18446744073709551616 := by unfold pw; rfl
    omega
  have cA := fun W => nbAsked8_any (E : Int) (F : Int) b W hb
  have cS := fun W => nbSign5_any E F W (by omega) (by omega)
  have cN := fun W => nbIsNaN8_any E F b W (by omega) (by omega) (by omega) (by omega) hb
  have cE := fun W => nbFinite5_any E F b W (by omega) (by omega) (by omega) (by omega) hp
  rw [hf] at cA
  have hsw := sign_way (bits_parts hp).2
  have hP : ((2 ^ k : Nat) : Int) = L := by rcases hw with ⟨_, rfl, rfl, _⟩ | ⟨_, rfl, rfl, _⟩ | ⟨_, rfl, rfl, _⟩ | ⟨_, rfl, rfl, _⟩ <;> decide +kernel
  have hM : L - 1 = M := by omega
  have hL : 128 ≤ L ∧ L ≤ 9223372036854775808 := by omega
  rw [show naB E F b = false from decide_eq_false (fun hh => hh.2 hf0)] at cN
  rw [decide_eq_false (fun hh => hh hxm)] at cE
  have i1 : inEnd k true = -L := by unfold inEnd; rw [if_pos rfl, hP]
  have i2 : inEnd k false = M := by unfold inEnd; rw [if_neg (by decide), hP, hM]
  generalize sgB E F b = sg at *
  generalize (2 ^ (E + F) : Nat) = SF at *
  clear hxm hf0 hf h1 hp
  rcases hsw with ⟨rfl, hg1⟩ | ⟨rfl, hg1⟩
  all_goals
    first | rw [i1] | rw [i2]
    clear i1 i2
    clear hP hM hL
    rcases hw with ⟨rfl, rfl, rfl, rfl⟩ | ⟨rfl, rfl, rfl, rfl⟩ | ⟨rfl, rfl, rfl, rfl⟩ | ⟨rfl, rfl, rfl, rfl⟩
    all_goals
      go_enter Tryz.func20, Tryz.ntmps20
      go_wp2_with (first
        | (go_at_call 95; (with_reducible refine (cA _).mono ?_); rintro en w1 ⟨rfl, hb1⟩; replace hW := next hW hb1; replace A := A.stay hb1; have ⟨a0, a1⟩ := A)
        | (go_at_call 97; (with_reducible refine (cN _).mono ?_); rintro en w1 ⟨rfl, hb1⟩; replace hW := next hW hb1; replace A := A.stay hb1; have ⟨a0, a1⟩ := A)
        | (go_at_call 98; (with_reducible refine (cE _).mono ?_); rintro en w1 ⟨rfl, hb1⟩; replace hW := next hW hb1; replace A := A.stay hb1; have ⟨a0, a1⟩ := A)
        | (go_at_call 96; (with_reducible refine (cS _).mono ?_); rintro en w1 ⟨rfl, hb1⟩; replace hW := next hW hb1; replace A := A.stay hb1; have ⟨a0, a1⟩ := A))
      go_ret3
      exact ⟨rfl, hW⟩

set_option maxRecDepth 100000 in
set_option maxHeartbeats 4000000 in
theorem refIntW_fin (wd L M : Int) (k : Nat) (E F b m : Nat) (w : World) (hw : wd = 8 ∧ k = 7 ∧ L = 128 ∧ M = 127 ∨ wd = 16 ∧ k = 15 ∧ L = 32768 ∧ M = 32767 ∨ wd = 32 ∧ k = 31 ∧ L = 2147483648 ∧ M = 2147483647 ∨ wd = 64 ∧ k = 63 ∧ L = 9223372036854775808 ∧ M = 9223372036854775807) (h1 : formE (E : Int) (F : Int) = 0) (hp : b < pw (1 + E + F)) (hm : m < 5) (hxm : exN E F b ≠ maskN E) (hT : Tab w) :
    Calls Tryz.prog 20 #[.agg #[.int .i64 (E : Int), .int .i64 (F : Int)], .int .u64 (b : Int), .int .i64 wd, .int .u8 (m : Int)] w fun en w' => en = .returned (.tuple #[.int .i64 (if -L ≤ rzQ (wrQ E F b) m ∧ rzQ (wrQ E F b) m ≤ M then rzQ (wrQ E F b) m else inEnd k (sgB E F b)), .int .u8 ((if -L ≤ rzQ (wrQ E F b) m ∧ rzQ (wrQ E F b) m ≤ M then (if isB (wrQ E F b) = true then 0 else 1) else 16 : Nat) : Int), .int .i64 0]) ∧ Below w.heap.size w w' := by
  have A := box2_new w (.int .i64 (E : Int)) (.int .i64 (F : Int)) 24
  have hW := more (Below.refl w.heap.size w) (.cells #[.int .i64 (E : Int), .int .i64 (F : Int)] 24)
  have ⟨a0, a1⟩ := A
  obtain ⟨e1, e2, e3, e4⟩ := formE_ok h1
  have hm4 : ¬ (m : Int) > 4 := by omega
  have hf := fits_bits h1 hp
  have hb : b < 18446744073709551616 := by
    have h := pw_le (j := 1 + E + F) (k := 64) (by omega)
    have h64 : pw 64 = 18446744073709551616 := by unfold pw; rfl
    omega
  have cA := fun W => nbAsked8_any (E : Int) (F : Int) b W hb
  have cS := fun W => nbSign5_any E F W (by omega) (by omega)
  have cN := fun W => nbIsNaN8_any E F b W (by omega) (by omega) (by omega) (by omega) hb
  have cE := fun W => nbFinite5_any E F b W (by omega) (by omega) (by omega) (by omega) hp
  rw [hf] at cA
  have hsw := sign_way (bits_parts hp).2
  have hP : ((2 ^ k : Nat) : Int) = L := by rcases hw with ⟨_, rfl, rfl, _⟩ | ⟨_, rfl, rfl, _⟩ | ⟨_, rfl, rfl, _⟩ | ⟨_, rfl, rfl, _⟩ <;> decide +kernel
  have hM : L - 1 = M := by omega
  have hL : 128 ≤ L ∧ L ≤ 9223372036854775808 := by omega
  rw [show naB E F b = false from decide_eq_false (fun hh => hxm hh.1)] at cN
  rw [decide_eq_true hxm] at cE
  have cW : ∀ W, Below w.heap.size w W → Calls Tryz.prog 103 #[.agg #[.int .i64 (E : Int), .int .i64 (F : Int)], .int .u64 (b : Int)] W (MkQ 38 (wrQ E F b) W) := fun W hW => nbWorth5_any E F b W h1 hp hxm (hT.below hW)
  have dw := Lib.hid (dy_worth (E := E) (F := F) (G := E) (H := F) (b := b) (m := m) (by omega) (by omega) (by omega) h1 hf hp hxm hm false)
  have cH : ∀ W B t, Below w.heap.size w W → Rq 38 W B t (wrQ E F b) → Calls Tryz.prog 104 #[.pointer (some ⟨t, 0, none⟩), .int .u8 (m : Int)] W (MkZ 38 (rzQ (wrQ E F b) m) W) := fun W B t hW hQ => nbWhole8_any B t m _ W hQ hm (by have := dw.out.2.2.2.1; omega) (by have := dw.out.2.2.2.2.1; omega) (hT.below hW)
  have cl : ∀ W, Calls Tryz.prog 106 #[.int .i64 (-L)] W (MkZ 38 (-L) W) := fun W => nbNewZ_any (-L) W (by omega)
  have ch : ∀ W, Calls Tryz.prog 106 #[.int .i64 M] W (MkZ 38 M W) := fun W => nbNewZ_any M W (by omega)
  have kI : ∀ W B t, Rq 38 W B t (wrQ E F b) → Calls Tryz.prog 107 #[.pointer (some ⟨t, 0, none⟩)] W _ := fun W B t hQ => nbRIsInt_any t B _ W hQ
  generalize rzQ (wrQ E F b) m = z at *
  generalize isB (wrQ E F b) = ii at *
  generalize wrQ E F b = q at *
  generalize sgB E F b = sg at *
  generalize (2 ^ (E + F) : Nat) = SF at *
  clear dw hxm hf h1 hp hT
  have i1 : inEnd k true = -L := by unfold inEnd; rw [if_pos rfl, hP]
  have i2 : inEnd k false = M := by unfold inEnd; rw [if_neg (by decide), hP, hM]
  have k1 : ∀ W B1 B2 t, Iz 38 W B1 B2 z → ∀ {B3 : Nat}, Iz 38 W B3 t (-L) → Calls Tryz.prog 105 #[.pointer (some ⟨B2, 0, none⟩), .pointer (some ⟨t, 0, none⟩)] W fun e w' => e = .returned (.int .i64 (cmpI z (-L))) ∧ Below W.heap.size W w' := fun W B1 B2 t h1 _ h2 => nbCmpI_any B1 _ B2 t z (-L) W h1 h2
  have k2 : ∀ W B1 B2 t, Iz 38 W B1 B2 z → ∀ {B3 : Nat}, Iz 38 W B3 t M → Calls Tryz.prog 105 #[.pointer (some ⟨B2, 0, none⟩), .pointer (some ⟨t, 0, none⟩)] W fun e w' => e = .returned (.int .i64 (cmpI z M)) ∧ Below W.heap.size W w' := fun W B1 B2 t h1 _ h2 => nbCmpI_any B1 _ B2 t z M W h1 h2
  by_cases hl : -L ≤ z
  · have x1 : cmpI z (-L) ≥ 0 := by unfold cmpI; (repeat' split) <;> omega
    by_cases hh : z ≤ M
    · have x2 : cmpI z M ≤ 0 := by unfold cmpI; (repeat' split) <;> omega
      have kZ : ∀ W B t, Iz 38 W B t z → Calls Tryz.prog 108 #[.pointer (some ⟨t, 0, none⟩)] W _ := fun W B t hI => nbInt64_any B t z W hI (by omega) (by omega)
      rw [if_pos ⟨hl, hh⟩, if_pos ⟨hl, hh⟩]
      generalize cmpI z (-L) = r1 at *
      generalize cmpI z M = r2 at *
      clear hl hh i1 i2
      rcases hsw with ⟨rfl, hg1⟩ | ⟨rfl, hg1⟩ <;> cases ii
      all_goals
        clear hP hM hL
        rcases hw with ⟨rfl, rfl, rfl, rfl⟩ | ⟨rfl, rfl, rfl, rfl⟩ | ⟨rfl, rfl, rfl, rfl⟩ | ⟨rfl, rfl, rfl, rfl⟩
        all_goals
          go_enter Tryz.func20, Tryz.ntmps20
          go_wp2_with (first
            | (go_at_call 95; (with_reducible refine (cA _).mono ?_); rintro en w1 ⟨rfl, hb1⟩; replace hW := next hW hb1; replace A := A.stay hb1; have ⟨a0, a1⟩ := A)
            | (go_at_call 97; (with_reducible refine (cN _).mono ?_); rintro en w1 ⟨rfl, hb1⟩; replace hW := next hW hb1; replace A := A.stay hb1; have ⟨a0, a1⟩ := A)
            | (go_at_call 98; (with_reducible refine (cE _).mono ?_); rintro en w1 ⟨rfl, hb1⟩; replace hW := next hW hb1; replace A := A.stay hb1; have ⟨a0, a1⟩ := A)
            | (go_at_call 96; (with_reducible refine (cS _).mono ?_); rintro en w1 ⟨rfl, hb1⟩; replace hW := next hW hb1; replace A := A.stay hb1; have ⟨a0, a1⟩ := A)
            | (go_at_call 103; (with_reducible refine (cW _ hW).mono ?_); rintro en w1 ⟨t1, rfl, Q1, hb1⟩; replace hW := next hW hb1)
            | (go_at_call 104; (with_reducible refine (cH _ _ _ hW Q1).mono ?_); rintro en w2 ⟨t2, rfl, I2, hb2⟩; replace hW := next hW hb2; replace Q1 := Q1.stay hb2)
            | (go_at_call 106; (with_reducible refine (cl _).mono ?_); rintro en w3 ⟨t3, rfl, I3, hb3⟩; replace hW := next hW hb3; replace Q1 := Q1.stay hb3; replace I2 := I2.stay hb3)
            | (go_at_call 106; (with_reducible refine (ch _).mono ?_); rintro en w4 ⟨t3, rfl, I3, hb4⟩; replace hW := next hW hb4; replace Q1 := Q1.stay hb4; replace I2 := I2.stay hb4)
            | (go_at_call 105; (with_reducible refine (k1 _ _ _ _ I2 I3).mono ?_); rintro en w5 ⟨rfl, hb5⟩; replace hW := next hW hb5; replace Q1 := Q1.stay hb5; replace I2 := I2.stay hb5; clear I3)
            | (go_at_call 105; (with_reducible refine (k2 _ _ _ _ I2 I3).mono ?_); rintro en w6 ⟨rfl, hb6⟩; replace hW := next hW hb6; replace Q1 := Q1.stay hb6; replace I2 := I2.stay hb6; clear I3)
            | (go_at_call 107; (with_reducible refine (kI _ _ _ Q1).mono ?_); rintro en w7 ⟨rfl, rfl⟩)
            | (go_at_call 108; (with_reducible refine (kZ _ _ _ I2).mono ?_); rintro en w8 ⟨rfl, rfl⟩))
          go_ret3
          exact ⟨rfl, hW⟩
    · have x2 : ¬ cmpI z M ≤ 0 := by unfold cmpI; (repeat' split) <;> omega
      rw [if_neg (fun h => hh h.2), if_neg (fun h => hh h.2)]
      generalize cmpI z (-L) = r1 at *
      generalize cmpI z M = r2 at *
      clear hl hh
      rcases hsw with ⟨rfl, hg1⟩ | ⟨rfl, hg1⟩
      all_goals
        first | rw [i1] | rw [i2]
        clear i1 i2
        clear hP hM hL
        rcases hw with ⟨rfl, rfl, rfl, rfl⟩ | ⟨rfl, rfl, rfl, rfl⟩ | ⟨rfl, rfl, rfl, rfl⟩ | ⟨rfl, rfl, rfl, rfl⟩
        all_goals
          go_enter Tryz.func20, Tryz.ntmps20
          go_wp2_with (first
            | (go_at_call 95; (with_reducible refine (cA _).mono ?_); rintro en w1 ⟨rfl, hb1⟩; replace hW := next hW hb1; replace A := A.stay hb1; have ⟨a0, a1⟩ := A)
            | (go_at_call 97; (with_reducible refine (cN _).mono ?_); rintro en w1 ⟨rfl, hb1⟩; replace hW := next hW hb1; replace A := A.stay hb1; have ⟨a0, a1⟩ := A)
            | (go_at_call 98; (with_reducible refine (cE _).mono ?_); rintro en w1 ⟨rfl, hb1⟩; replace hW := next hW hb1; replace A := A.stay hb1; have ⟨a0, a1⟩ := A)
            | (go_at_call 96; (with_reducible refine (cS _).mono ?_); rintro en w1 ⟨rfl, hb1⟩; replace hW := next hW hb1; replace A := A.stay hb1; have ⟨a0, a1⟩ := A)
            | (go_at_call 103; (with_reducible refine (cW _ hW).mono ?_); rintro en w1 ⟨t1, rfl, Q1, hb1⟩; replace hW := next hW hb1)
            | (go_at_call 104; (with_reducible refine (cH _ _ _ hW Q1).mono ?_); rintro en w2 ⟨t2, rfl, I2, hb2⟩; replace hW := next hW hb2; replace Q1 := Q1.stay hb2)
            | (go_at_call 106; (with_reducible refine (cl _).mono ?_); rintro en w3 ⟨t3, rfl, I3, hb3⟩; replace hW := next hW hb3; replace Q1 := Q1.stay hb3; replace I2 := I2.stay hb3)
            | (go_at_call 106; (with_reducible refine (ch _).mono ?_); rintro en w4 ⟨t3, rfl, I3, hb4⟩; replace hW := next hW hb4; replace Q1 := Q1.stay hb4; replace I2 := I2.stay hb4)
            | (go_at_call 105; (with_reducible refine (k1 _ _ _ _ I2 I3).mono ?_); rintro en w5 ⟨rfl, hb5⟩; replace hW := next hW hb5; replace Q1 := Q1.stay hb5; replace I2 := I2.stay hb5; clear I3)
            | (go_at_call 105; (with_reducible refine (k2 _ _ _ _ I2 I3).mono ?_); rintro en w6 ⟨rfl, hb6⟩; replace hW := next hW hb6; replace Q1 := Q1.stay hb6; replace I2 := I2.stay hb6; clear I3))
          go_ret3
          exact ⟨rfl, hW⟩
  · have x1 : ¬ cmpI z (-L) ≥ 0 := by unfold cmpI; (repeat' split) <;> omega
    rw [if_neg (fun h => hl h.1), if_neg (fun h => hl h.1)]
    generalize cmpI z (-L) = r1 at *
    clear hl k2
    rcases hsw with ⟨rfl, hg1⟩ | ⟨rfl, hg1⟩
    all_goals
      first | rw [i1] | rw [i2]
      clear i1 i2
      clear hP hM hL
      rcases hw with ⟨rfl, rfl, rfl, rfl⟩ | ⟨rfl, rfl, rfl, rfl⟩ | ⟨rfl, rfl, rfl, rfl⟩ | ⟨rfl, rfl, rfl, rfl⟩
      all_goals
        go_enter Tryz.func20, Tryz.ntmps20
        go_wp2_with (first
          | (go_at_call 95; (with_reducible refine (cA _).mono ?_); rintro en w1 ⟨rfl, hb1⟩; replace hW := next hW hb1; replace A := A.stay hb1; have ⟨a0, a1⟩ := A)
          | (go_at_call 97; (with_reducible refine (cN _).mono ?_); rintro en w1 ⟨rfl, hb1⟩; replace hW := next hW hb1; replace A := A.stay hb1; have ⟨a0, a1⟩ := A)
          | (go_at_call 98; (with_reducible refine (cE _).mono ?_); rintro en w1 ⟨rfl, hb1⟩; replace hW := next hW hb1; replace A := A.stay hb1; have ⟨a0, a1⟩ := A)
          | (go_at_call 96; (with_reducible refine (cS _).mono ?_); rintro en w1 ⟨rfl, hb1⟩; replace hW := next hW hb1; replace A := A.stay hb1; have ⟨a0, a1⟩ := A)
          | (go_at_call 103; (with_reducible refine (cW _ hW).mono ?_); rintro en w1 ⟨t1, rfl, Q1, hb1⟩; replace hW := next hW hb1)
          | (go_at_call 104; (with_reducible refine (cH _ _ _ hW Q1).mono ?_); rintro en w2 ⟨t2, rfl, I2, hb2⟩; replace hW := next hW hb2; replace Q1 := Q1.stay hb2)
          | (go_at_call 106; (with_reducible refine (cl _).mono ?_); rintro en w3 ⟨t3, rfl, I3, hb3⟩; replace hW := next hW hb3; replace Q1 := Q1.stay hb3; replace I2 := I2.stay hb3)
          | (go_at_call 105; (with_reducible refine (k1 _ _ _ _ I2 I3).mono ?_); rintro en w5 ⟨rfl, hb5⟩; replace hW := next hW hb5; replace Q1 := Q1.stay hb5; replace I2 := I2.stay hb5; clear I3))
        go_ret3
        exact ⟨rfl, hW⟩

set_option maxRecDepth 100000 in
set_option maxHeartbeats 4000000 in
theorem refIntW_any (wd L M : Int) (k : Nat) (E F b m : Nat) (w : World) (hw : wd = 8 ∧ k = 7 ∧ L = 128 ∧ M = 127 ∨ wd = 16 ∧ k = 15 ∧ L = 32768 ∧ M = 32767 ∨ wd = 32 ∧ k = 31 ∧ L = 2147483648 ∧ M = 2147483647 ∨ wd = 64 ∧ k = 63 ∧ L = 9223372036854775808 ∧ M = 9223372036854775807) (h1 : formE (E : Int) (F : Int) = 0) (hp : b < pw (1 + E + F)) (hm : m < 5) (hT : Tab w) :
    Calls Tryz.prog 20 #[.agg #[.int .i64 (E : Int), .int .i64 (F : Int)], .int .u64 (b : Int), .int .i64 wd, .int .u8 (m : Int)] w fun en w' => en = .returned (.tuple #[.int .i64 (inV E F b k m), .int .u8 (inG E F b k m : Int), .int .i64 0]) ∧ Below w.heap.size w w' := by
  unfold inV inG
  by_cases hxm : exN E F b = maskN E
  · by_cases hf0 : frN F b = 0
    · have q1 : naB E F b = false := decide_eq_false fun hh => hh.2 hf0
      have q2 : enB E F b = true := decide_eq_true ⟨hxm, hf0⟩
      rw [q1, q2]
      exact refIntW_inf wd L M k E F b m w hw h1 hp hm hxm hf0
    · have q1 : naB E F b = true := decide_eq_true ⟨hxm, hf0⟩
      rw [q1]
      exact refIntW_nan wd L M k E F b m w hw h1 hp hm hxm hf0
  · have q1 : naB E F b = false := decide_eq_false fun hh => hxm hh.1
    have q2 : enB E F b = false := decide_eq_false fun hh => hxm hh.1
    rw [q1, q2]
    have H := refIntW_fin wd L M k E F b m w hw h1 hp hm hxm hT
    have e := in_fits k (decide ((wrQ E F b).num < 0)) (inR E F b m)
    have e2 : sgZ (decide ((wrQ E F b).num < 0)) (inR E F b m) = rzQ (wrQ E F b) m := rfl
    rw [e2] at e ⊢
    rw [e, ← isB_ex]
    have e3 : ((2 ^ k : Nat) : Int) = L := by rcases hw with ⟨_, rfl, rfl, _⟩ | ⟨_, rfl, rfl, _⟩ | ⟨_, rfl, rfl, _⟩ | ⟨_, rfl, rfl, _⟩ <;> decide +kernel
    rw [e3, show L - 1 = M by omega]
    by_cases hc : -L ≤ rzQ (wrQ E F b) m ∧ rzQ (wrQ E F b) m ≤ M
    · rw [if_pos hc, if_pos hc] at H
      rw [decide_eq_true hc]
      exact H
    · rw [if_neg hc, if_neg hc] at H
      rw [decide_eq_false hc]
      exact H

end Go.Proofs.YtklibjdhlmdkpaaGreatDoor

