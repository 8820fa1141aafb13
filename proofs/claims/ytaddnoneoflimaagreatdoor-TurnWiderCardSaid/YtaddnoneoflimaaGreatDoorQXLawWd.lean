/-
  The walk of the law TurnWider: it answers true, whatever it is asked; nothing that was there has turned. (Printed by wip/gen/turwd.py.)
-/
import Derived.Test.YtaddnoneoflimaaGreatDoorQTwBase
import Derived.Test.YtaddnoneoflimaaGreatDoorQXTurV
namespace Go.Proofs.YtaddnoneoflimaaGreatDoor

open Go.RowKit Go.Lb

attribute [local go_sem] Go.World.cell?_alloc_some

theorem form_five {e f : Int} (h : formE e f ≠ 0) : formE e f = 5 := by
  unfold formE at h ⊢
  split at h
  · exact absurd rfl h
  · rename_i hb
    rw [if_neg hb]

set_option maxRecDepth 100000 in
set_option maxHeartbeats 4000000 in
theorem wider_out (e f g h : Int) (b m k : Nat) (w : World) (hT : Tab w) (ho : formE e f ≠ 0 ∨ formE g h ≠ 0 ∨ g < e ∨ h < f ∨ 4 < m ∨ 4 < k) :
    Calls Tryz.prog 8 #[.agg #[.int .i64 e, .int .i64 f], .agg #[.int .i64 g, .int .i64 h], .int .u64 (b : Int), .int .u8 (m : Int), .int .u8 (k : Int)] w fun en w' => en = .returned (.bool true) ∧ Below w.heap.size w w' := by
  have H2 := two_forms w e f g h
  have ⟨hW, a0, a1, b0, b1⟩ := H2
  have cA : ∀ W, Below w.heap.size w W → Calls Tryz.prog 10 #[] W _ := fun W hW => alive8_any W (hT.below hW)
  have cF := fun W => formCheck_any e f W
  have cG := fun W => formCheck_any g h W
  clear hT
  by_cases h1 : formE e f = 0
  · rw [h1] at cF
    by_cases h2 : formE g h = 0
    · rw [h2] at cG
      by_cases h3 : g < e
      · clear ho h1 h2
        go_enter Tryz.func8, Tryz.ntmps8
        go_wp2_with (first
          | (go_at_call 10; (with_reducible refine (cA _ hW).mono ?_); rintro en w1 ⟨rfl, hb1⟩; replace H2 := H2.go hb1; have ⟨hW, a0, a1, b0, b1⟩ := H2)
          | (go_at_call 59; (with_reducible refine (cF _).mono ?_); rintro en w1 ⟨rfl, hb1⟩; replace H2 := H2.go hb1; have ⟨hW, a0, a1, b0, b1⟩ := H2)
          | (go_at_call 59; (with_reducible refine (cG _).mono ?_); rintro en w1 ⟨rfl, hb1⟩; replace H2 := H2.go hb1; have ⟨hW, a0, a1, b0, b1⟩ := H2))
        go_ret
        exact ⟨rfl, hW⟩
      · by_cases h4 : h < f
        · clear ho h1 h2
          go_enter Tryz.func8, Tryz.ntmps8
          go_wp2_with (first
            | (go_at_call 10; (with_reducible refine (cA _ hW).mono ?_); rintro en w1 ⟨rfl, hb1⟩; replace H2 := H2.go hb1; have ⟨hW, a0, a1, b0, b1⟩ := H2)
            | (go_at_call 59; (with_reducible refine (cF _).mono ?_); rintro en w1 ⟨rfl, hb1⟩; replace H2 := H2.go hb1; have ⟨hW, a0, a1, b0, b1⟩ := H2)
            | (go_at_call 59; (with_reducible refine (cG _).mono ?_); rintro en w1 ⟨rfl, hb1⟩; replace H2 := H2.go hb1; have ⟨hW, a0, a1, b0, b1⟩ := H2))
          go_ret
          exact ⟨rfl, hW⟩
        · by_cases h5 : 4 < m
          · have hm4 : (m : Int) > 4 := by omega
            clear ho h1 h2
            go_enter Tryz.func8, Tryz.ntmps8
            go_wp2_with (first
              | (go_at_call 10; (with_reducible refine (cA _ hW).mono ?_); rintro en w1 ⟨rfl, hb1⟩; replace H2 := H2.go hb1; have ⟨hW, a0, a1, b0, b1⟩ := H2)
              | (go_at_call 59; (with_reducible refine (cF _).mono ?_); rintro en w1 ⟨rfl, hb1⟩; replace H2 := H2.go hb1; have ⟨hW, a0, a1, b0, b1⟩ := H2)
              | (go_at_call 59; (with_reducible refine (cG _).mono ?_); rintro en w1 ⟨rfl, hb1⟩; replace H2 := H2.go hb1; have ⟨hW, a0, a1, b0, b1⟩ := H2))
            go_ret
            exact ⟨rfl, hW⟩
          · have hm4 : ¬ (m : Int) > 4 := by omega
            have hk4 : (k : Int) > 4 := by
              rcases ho with h | h | h | h | h | h
              · exact absurd h1 h
              · exact absurd h2 h
              · exact absurd h h3
              · exact absurd h h4
              · exact absurd h h5
              · omega
            clear ho h1 h2
            go_enter Tryz.func8, Tryz.ntmps8
            go_wp2_with (first
              | (go_at_call 10; (with_reducible refine (cA _ hW).mono ?_); rintro en w1 ⟨rfl, hb1⟩; replace H2 := H2.go hb1; have ⟨hW, a0, a1, b0, b1⟩ := H2)
              | (go_at_call 59; (with_reducible refine (cF _).mono ?_); rintro en w1 ⟨rfl, hb1⟩; replace H2 := H2.go hb1; have ⟨hW, a0, a1, b0, b1⟩ := H2)
              | (go_at_call 59; (with_reducible refine (cG _).mono ?_); rintro en w1 ⟨rfl, hb1⟩; replace H2 := H2.go hb1; have ⟨hW, a0, a1, b0, b1⟩ := H2))
            go_ret
            exact ⟨rfl, hW⟩
    · rw [form_five h2] at cG
      clear ho h1 h2
      go_enter Tryz.func8, Tryz.ntmps8
      go_wp2_with (first
        | (go_at_call 10; (with_reducible refine (cA _ hW).mono ?_); rintro en w1 ⟨rfl, hb1⟩; replace H2 := H2.go hb1; have ⟨hW, a0, a1, b0, b1⟩ := H2)
        | (go_at_call 59; (with_reducible refine (cF _).mono ?_); rintro en w1 ⟨rfl, hb1⟩; replace H2 := H2.go hb1; have ⟨hW, a0, a1, b0, b1⟩ := H2)
        | (go_at_call 59; (with_reducible refine (cG _).mono ?_); rintro en w1 ⟨rfl, hb1⟩; replace H2 := H2.go hb1; have ⟨hW, a0, a1, b0, b1⟩ := H2))
      go_ret
      exact ⟨rfl, hW⟩
  · rw [form_five h1] at cF
    clear ho h1
    go_enter Tryz.func8, Tryz.ntmps8
    go_wp2_with (first
      | (go_at_call 10; (with_reducible refine (cA _ hW).mono ?_); rintro en w1 ⟨rfl, hb1⟩; replace H2 := H2.go hb1; have ⟨hW, a0, a1, b0, b1⟩ := H2)
      | (go_at_call 59; (with_reducible refine (cF _).mono ?_); rintro en w1 ⟨rfl, hb1⟩; replace H2 := H2.go hb1; have ⟨hW, a0, a1, b0, b1⟩ := H2)
      | (go_at_call 59; (with_reducible refine (cG _).mono ?_); rintro en w1 ⟨rfl, hb1⟩; replace H2 := H2.go hb1; have ⟨hW, a0, a1, b0, b1⟩ := H2))
    go_ret
    exact ⟨rfl, hW⟩

set_option maxRecDepth 100000 in
set_option maxHeartbeats 4000000 in
theorem wider_bits (e f g h : Int) (b m k : Nat) (w : World) (hb : b < 18446744073709551616) (hT : Tab w) (h1 : formE e f = 0) (h2 : formE g h = 0) (hG : e ≤ g) (hH : f ≤ h) (hm : m < 5) (hk : k < 5) (hx : fitsE e f b ≠ 0) :
    Calls Tryz.prog 8 #[.agg #[.int .i64 e, .int .i64 f], .agg #[.int .i64 g, .int .i64 h], .int .u64 (b : Int), .int .u8 (m : Int), .int .u8 (k : Int)] w fun en w' => en = .returned (.bool true) ∧ Below w.heap.size w w' := by
  have H2 := two_forms w e f g h
  have ⟨hW, a0, a1, b0, b1⟩ := H2
  have hm4 : ¬ (m : Int) > 4 := by omega
  have hk4 : ¬ (k : Int) > 4 := by omega
  have h3 : ¬ g < e := by omega
  have h4 : ¬ h < f := by omega
  have cA : ∀ W, Below w.heap.size w W → Calls Tryz.prog 10 #[] W _ := fun W hW => alive8_any W (hT.below hW)
  have cF := fun W => formCheck_any e f W
  have cG := fun W => formCheck_any g h W
  rw [h1] at cF
  rw [h2] at cG
  have cC := fun W => class_no e f b W hx hb
  have hx1 : (fitsE e f b != 0) = true := bne_iff_ne.2 hx
  generalize fitsE e f b = r at *
  clear hT h1 h2 hG hH hm hk hx
  go_enter Tryz.func8, Tryz.ntmps8
  go_wp2_with (first
    | (go_at_call 10; (with_reducible refine (cA _ hW).mono ?_); rintro en w1 ⟨rfl, hb1⟩; replace H2 := H2.go hb1; have ⟨hW, a0, a1, b0, b1⟩ := H2)
    | (go_at_call 59; (with_reducible refine (cF _).mono ?_); rintro en w1 ⟨rfl, hb1⟩; replace H2 := H2.go hb1; have ⟨hW, a0, a1, b0, b1⟩ := H2)
    | (go_at_call 59; (with_reducible refine (cG _).mono ?_); rintro en w1 ⟨rfl, hb1⟩; replace H2 := H2.go hb1; have ⟨hW, a0, a1, b0, b1⟩ := H2)
    | (go_at_call 60; (with_reducible refine (cC _).mono ?_); rintro en w1 ⟨rfl, hb1⟩; replace H2 := H2.go hb1; have ⟨hW, a0, a1, b0, b1⟩ := H2))
  go_ret
  exact ⟨rfl, hW⟩

set_option maxRecDepth 100000 in
set_option maxHeartbeats 4000000 in
theorem wider_nan (E F G H b m k : Nat) (w : World) (hT : Tab w) (h1 : formE (E : Int) (F : Int) = 0) (h2 : formE (G : Int) (H : Int) = 0) (hG : E ≤ G) (hH : F ≤ H) (hp : b < pw (1 + E + F)) (hm : m < 5) (hk : k < 5) (hn : naB E F b = true) :
    Calls Tryz.prog 8 #[.agg #[.int .i64 (E : Int), .int .i64 (F : Int)], .agg #[.int .i64 (G : Int), .int .i64 (H : Int)], .int .u64 (b : Int), .int .u8 (m : Int), .int .u8 (k : Int)] w fun en w' => en = .returned (.bool true) ∧ Below w.heap.size w w' := by
  have H2 := two_forms w (E : Int) (F : Int) (G : Int) (H : Int)
  have ⟨hW, a0, a1, b0, b1⟩ := H2
  have hm4 : ¬ (m : Int) > 4 := by omega
  have hk4 : ¬ (k : Int) > 4 := by omega
  have h3 : ¬ (G : Int) < (E : Int) := by omega
  have h4 : ¬ (H : Int) < (F : Int) := by omega
  have cA : ∀ W, Below w.heap.size w W → Calls Tryz.prog 10 #[] W _ := fun W hW => alive8_any W (hT.below hW)
  have cF := fun W => formCheck_any (E : Int) (F : Int) W
  have cG := fun W => formCheck_any (G : Int) (H : Int) W
  rw [h1] at cF
  rw [h2] at cG
  have hb : b < 18446744073709551616 := by
    obtain ⟨e1, e2, e3, e4⟩ := formE_ok h1
    have h := pw_le (j := 1 + E + F) (k := 64) (by omega)
    have h64 : pw 64 = 18446744073709551616 := by unfold pw; rfl
    omega
  have cC := fun W => class_any E F b W h1 hb hp
  have hn2 : exN E F b = maskN E ∧ frN F b ≠ 0 := of_decide_eq_true hn
  rw [class_nan hn2.1 (by have := formE_ok h1; omega) hn2.2] at cC
  clear hT h1 h2 hG hH hm hk hp hn hn2 hb
  go_enter Tryz.func8, Tryz.ntmps8
  go_wp2_with (first
    | (go_at_call 10; (with_reducible refine (cA _ hW).mono ?_); rintro en w1 ⟨rfl, hb1⟩; replace H2 := H2.go hb1; have ⟨hW, a0, a1, b0, b1⟩ := H2)
    | (go_at_call 59; (with_reducible refine (cF _).mono ?_); rintro en w1 ⟨rfl, hb1⟩; replace H2 := H2.go hb1; have ⟨hW, a0, a1, b0, b1⟩ := H2)
    | (go_at_call 59; (with_reducible refine (cG _).mono ?_); rintro en w1 ⟨rfl, hb1⟩; replace H2 := H2.go hb1; have ⟨hW, a0, a1, b0, b1⟩ := H2)
    | (go_at_call 60; (with_reducible refine (cC _).mono ?_); rintro en w1 ⟨rfl, hb1⟩; replace H2 := H2.go hb1; have ⟨hW, a0, a1, b0, b1⟩ := H2))
  go_ret
  exact ⟨rfl, hW⟩

set_option maxRecDepth 100000 in
set_option maxHeartbeats 4000000 in
theorem wider_inf (E F G H b m k : Nat) (w : World) (hT : Tab w) (h1 : formE (E : Int) (F : Int) = 0) (h2 : formE (G : Int) (H : Int) = 0) (hG : E ≤ G) (hH : F ≤ H) (hp : b < pw (1 + E + F)) (hm : m < 5) (hk : k < 5) (hn : naB E F b = false) (hi : enB E F b = true) :
    Calls Tryz.prog 8 #[.agg #[.int .i64 (E : Int), .int .i64 (F : Int)], .agg #[.int .i64 (G : Int), .int .i64 (H : Int)], .int .u64 (b : Int), .int .u8 (m : Int), .int .u8 (k : Int)] w fun en w' => en = .returned (.bool true) ∧ Below w.heap.size w w' := by
  have H2 := two_forms w (E : Int) (F : Int) (G : Int) (H : Int)
  have ⟨hW, a0, a1, b0, b1⟩ := H2
  have hm4 : ¬ (m : Int) > 4 := by omega
  have hk4 : ¬ (k : Int) > 4 := by omega
  have h3 : ¬ (G : Int) < (E : Int) := by omega
  have h4 : ¬ (H : Int) < (F : Int) := by omega
  have cA : ∀ W, Below w.heap.size w W → Calls Tryz.prog 10 #[] W _ := fun W hW => alive8_any W (hT.below hW)
  have cF := fun W => formCheck_any (E : Int) (F : Int) W
  have cG := fun W => formCheck_any (G : Int) (H : Int) W
  rw [h1] at cF
  rw [h2] at cG
  have hb : b < 18446744073709551616 := by
    obtain ⟨e1, e2, e3, e4⟩ := formE_ok h1
    have h := pw_le (j := 1 + E + F) (k := 64) (by omega)
    have h64 : pw 64 = 18446744073709551616 := by unfold pw; rfl
    omega
  have cC := fun W => class_any E F b W h1 hb hp
  obtain ⟨a, t1, t2, t3, t4, t5, t6⟩ := wide_to (m := m) (k := k) h1 h2 hG hH hp hn hm hk
  have ha : a < 18446744073709551616 := by
    obtain ⟨e1, e2, e3, e4⟩ := formE_ok h2
    have h := pw_le (j := 1 + G + H) (k := 64) (by omega)
    have h64 : pw 64 = 18446744073709551616 := by unfold pw; rfl
    omega
  have z1 : toE (E : Int) (F : Int) (G : Int) (H : Int) b m = 0 := by
    unfold toE
    rw [if_neg (by simp [h1, h2]), if_neg (by simp [fits_bits h1 hp]), if_neg (by omega)]
  have z2 : toE (G : Int) (H : Int) (E : Int) (F : Int) a k = 0 := by
    unfold toE
    rw [if_neg (by simp [h1, h2]), if_neg (by simp [fits_bits h2 t3]), if_neg (by omega)]
  have cP : ∀ W, Below w.heap.size w W → Calls Tryz.prog 61 #[.agg #[.int .i64 (E : Int), .int .i64 (F : Int)], .agg #[.int .i64 (G : Int), .int .i64 (H : Int)], .int .u64 (b : Int), .int .u8 (m : Int)] W fun en w' => en = .returned (.tuple #[.int .u64 (a : Int), .int .u8 0, .int .i64 0]) ∧ Below W.heap.size W w' := fun W hW => by
    have h := turnTo_any (E : Int) (F : Int) (G : Int) (H : Int) b m W hb (hT.below hW)
    unfold toBi toGi at h
    rw [if_pos z1, if_pos z1, z1] at h
    simp only [Int.toNat_natCast] at h
    rw [t1, t2] at h
    exact h
  have cQ : ∀ W, Below w.heap.size w W → Calls Tryz.prog 61 #[.agg #[.int .i64 (G : Int), .int .i64 (H : Int)], .agg #[.int .i64 (E : Int), .int .i64 (F : Int)], .int .u64 (a : Int), .int .u8 (k : Int)] W fun en w' => en = .returned (.tuple #[.int .u64 (b : Int), .int .u8 0, .int .i64 0]) ∧ Below W.heap.size W w' := fun W hW => by
    have h := turnTo_any (G : Int) (H : Int) (E : Int) (F : Int) a k W ha (hT.below hW)
    unfold toBi toGi at h
    rw [if_pos z2, if_pos z2, z2] at h
    simp only [Int.toNat_natCast] at h
    rw [t4, t5] at h
    exact h
  have hn2 : exN E F b = maskN E ∧ frN F b = 0 := of_decide_eq_true hi
  rw [class_inf hn2.1 (by have := formE_ok h1; omega) hn2.2] at cC
  clear hT h1 h2 hG hH hm hk hp hn hi hn2 hb ha t1 t2 t3 t4 t5 t6 z1 z2
  go_enter Tryz.func8, Tryz.ntmps8
  go_wp2_with (first
    | (go_at_call 10; (with_reducible refine (cA _ hW).mono ?_); rintro en w1 ⟨rfl, hb1⟩; replace H2 := H2.go hb1; have ⟨hW, a0, a1, b0, b1⟩ := H2)
    | (go_at_call 59; (with_reducible refine (cF _).mono ?_); rintro en w1 ⟨rfl, hb1⟩; replace H2 := H2.go hb1; have ⟨hW, a0, a1, b0, b1⟩ := H2)
    | (go_at_call 59; (with_reducible refine (cG _).mono ?_); rintro en w1 ⟨rfl, hb1⟩; replace H2 := H2.go hb1; have ⟨hW, a0, a1, b0, b1⟩ := H2)
    | (go_at_call 60; (with_reducible refine (cC _).mono ?_); rintro en w1 ⟨rfl, hb1⟩; replace H2 := H2.go hb1; have ⟨hW, a0, a1, b0, b1⟩ := H2)
    | (go_at_call 61; (with_reducible refine (cP _ hW).mono ?_); rintro en w1 ⟨rfl, hb1⟩; replace H2 := H2.go hb1; have ⟨hW, a0, a1, b0, b1⟩ := H2)
    | (go_at_call 61; (with_reducible refine (cQ _ hW).mono ?_); rintro en w1 ⟨rfl, hb1⟩; replace H2 := H2.go hb1; have ⟨hW, a0, a1, b0, b1⟩ := H2))
  go_ret
  exact ⟨rfl, hW⟩

set_option maxRecDepth 100000 in
set_option maxHeartbeats 4000000 in
theorem wider_fin (E F G H b m k : Nat) (w : World) (hT : Tab w) (h1 : formE (E : Int) (F : Int) = 0) (h2 : formE (G : Int) (H : Int) = 0) (hG : E ≤ G) (hH : F ≤ H) (hp : b < pw (1 + E + F)) (hm : m < 5) (hk : k < 5) (hn : naB E F b = false) (hi : enB E F b = false) :
    Calls Tryz.prog 8 #[.agg #[.int .i64 (E : Int), .int .i64 (F : Int)], .agg #[.int .i64 (G : Int), .int .i64 (H : Int)], .int .u64 (b : Int), .int .u8 (m : Int), .int .u8 (k : Int)] w fun en w' => en = .returned (.bool true) ∧ Below w.heap.size w w' := by
  have H2 := two_forms w (E : Int) (F : Int) (G : Int) (H : Int)
  have ⟨hW, a0, a1, b0, b1⟩ := H2
  have hm4 : ¬ (m : Int) > 4 := by omega
  have hk4 : ¬ (k : Int) > 4 := by omega
  have h3 : ¬ (G : Int) < (E : Int) := by omega
  have h4 : ¬ (H : Int) < (F : Int) := by omega
  have cA : ∀ W, Below w.heap.size w W → Calls Tryz.prog 10 #[] W _ := fun W hW => alive8_any W (hT.below hW)
  have cF := fun W => formCheck_any (E : Int) (F : Int) W
  have cG := fun W => formCheck_any (G : Int) (H : Int) W
  rw [h1] at cF
  rw [h2] at cG
  have hb : b < 18446744073709551616 := by
    obtain ⟨e1, e2, e3, e4⟩ := formE_ok h1
    have h := pw_le (j := 1 + E + F) (k := 64) (by omega)
    have h64 : pw 64 = 18446744073709551616 := by unfold pw; rfl
    omega
  have cC := fun W => class_any E F b W h1 hb hp
  obtain ⟨a, t1, t2, t3, t4, t5, t6⟩ := wide_to (m := m) (k := k) h1 h2 hG hH hp hn hm hk
  have ha : a < 18446744073709551616 := by
    obtain ⟨e1, e2, e3, e4⟩ := formE_ok h2
    have h := pw_le (j := 1 + G + H) (k := 64) (by omega)
    have h64 : pw 64 = 18446744073709551616 := by unfold pw; rfl
    omega
  have z1 : toE (E : Int) (F : Int) (G : Int) (H : Int) b m = 0 := by
    unfold toE
    rw [if_neg (by simp [h1, h2]), if_neg (by simp [fits_bits h1 hp]), if_neg (by omega)]
  have z2 : toE (G : Int) (H : Int) (E : Int) (F : Int) a k = 0 := by
    unfold toE
    rw [if_neg (by simp [h1, h2]), if_neg (by simp [fits_bits h2 t3]), if_neg (by omega)]
  have cP : ∀ W, Below w.heap.size w W → Calls Tryz.prog 61 #[.agg #[.int .i64 (E : Int), .int .i64 (F : Int)], .agg #[.int .i64 (G : Int), .int .i64 (H : Int)], .int .u64 (b : Int), .int .u8 (m : Int)] W fun en w' => en = .returned (.tuple #[.int .u64 (a : Int), .int .u8 0, .int .i64 0]) ∧ Below W.heap.size W w' := fun W hW => by
    have h := turnTo_any (E : Int) (F : Int) (G : Int) (H : Int) b m W hb (hT.below hW)
    unfold toBi toGi at h
    rw [if_pos z1, if_pos z1, z1] at h
    simp only [Int.toNat_natCast] at h
    rw [t1, t2] at h
    exact h
  have cQ : ∀ W, Below w.heap.size w W → Calls Tryz.prog 61 #[.agg #[.int .i64 (G : Int), .int .i64 (H : Int)], .agg #[.int .i64 (E : Int), .int .i64 (F : Int)], .int .u64 (a : Int), .int .u8 (k : Int)] W fun en w' => en = .returned (.tuple #[.int .u64 (b : Int), .int .u8 0, .int .i64 0]) ∧ Below W.heap.size W w' := fun W hW => by
    have h := turnTo_any (G : Int) (H : Int) (E : Int) (F : Int) a k W ha (hT.below hW)
    unfold toBi toGi at h
    rw [if_pos z2, if_pos z2, z2] at h
    simp only [Int.toNat_natCast] at h
    rw [t4, t5] at h
    exact h
  obtain ⟨x1, x2, x3⟩ := t6 hi
  obtain ⟨hC5, hC4⟩ := class_finite (f := F) (b := b) x1
  obtain ⟨v1, v2, v3, v4, v5⟩ := same_worth h1 h2 hp t3 x1 x2 x3
  have hd : dchk (valS (E : Int) (F : Int) b) (limbs (valN (E : Int) (F : Int) b)) (valX (E : Int) (F : Int) b) = 0 := by
    obtain ⟨e1, e2, e3, e4⟩ := formE_ok h1
    obtain ⟨_, n, X, s, v1, v2, v3, hd, _⟩ := worth_facts (E := E) (F := F) (m := m) (by omega) (by omega) (by omega) (fits_bits h1 hp) hp x1
    rw [v1, v2, v3]
    exact hd
  have cV : ∀ W, Below w.heap.size w W → Calls Tryz.prog 62 #[.agg #[.int .i64 (E : Int), .int .i64 (F : Int)], .int .u64 (b : Int)] W (Valued (E : Int) (F : Int) b W) := fun W hW => value_any (E : Int) (F : Int) b W hb (hT.below hW)
  have cY : ∀ W, Below w.heap.size w W → Calls Tryz.prog 62 #[.agg #[.int .i64 (G : Int), .int .i64 (H : Int)], .int .u64 (a : Int)] W (Valued (G : Int) (H : Int) a W) := fun W hW => value_any (G : Int) (H : Int) a W ha (hT.below hW)
  unfold Valued at cV cY
  rw [v1] at cV
  rw [v2, v3, v4, v5] at cY
  generalize valS (E : Int) (F : Int) b = s at *
  generalize limbs (valN (E : Int) (F : Int) b) = xs at *
  generalize valX (E : Int) (F : Int) b = X at *
  have cK : ∀ W A1 A2 n1 n2 k1 k2, Sl W A1 n1 k1 xs → Sl W A2 n2 k2 xs → Calls Tryz.prog 63 #[.agg #[.bool s, .slice A1 n1 k1, .int .i64 X], .agg #[.bool s, .slice A2 n2 k2, .int .i64 X]] W fun en w' => en = .returned (.tuple #[.int .i64 0, .int .i64 0]) ∧ Below W.heap.size W w' := fun W A1 A2 n1 n2 k1 k2 j1 j2 => by
    have h := exCmp_any s s A1 A2 n1 n2 k1 k2 X X xs xs W j1 j2
    rw [cmpA_self, show cmpF s xs X s xs X = 0 by unfold cmpF; rw [if_neg (by simp [hd]), hd]] at h
    exact h
  generalize classN E (exN E F b) (frN F b) = cc at *
  have hc5 : ((cc : Int) == 5) = false := by simp; omega
  have hc4 : ((cc : Int) == 4) = false := by simp; omega
  clear hT h1 h2 hG hH hm hk hp hn hi hb ha t1 t2 t3 t4 t5 t6 z1 z2 x1 x2 x3 hC5 hC4 v1 v2 v3 v4 v5 hd
  go_enter Tryz.func8, Tryz.ntmps8
  go_wp2_with (first
    | (go_at_call 10; (with_reducible refine (cA _ hW).mono ?_); rintro en w1 ⟨rfl, hb1⟩; replace H2 := H2.go hb1; have ⟨hW, a0, a1, b0, b1⟩ := H2)
    | (go_at_call 59; (with_reducible refine (cF _).mono ?_); rintro en w1 ⟨rfl, hb1⟩; replace H2 := H2.go hb1; have ⟨hW, a0, a1, b0, b1⟩ := H2)
    | (go_at_call 59; (with_reducible refine (cG _).mono ?_); rintro en w1 ⟨rfl, hb1⟩; replace H2 := H2.go hb1; have ⟨hW, a0, a1, b0, b1⟩ := H2)
    | (go_at_call 60; (with_reducible refine (cC _).mono ?_); rintro en w1 ⟨rfl, hb1⟩; replace H2 := H2.go hb1; have ⟨hW, a0, a1, b0, b1⟩ := H2)
    | (go_at_call 61; (with_reducible refine (cP _ hW).mono ?_); rintro en w1 ⟨rfl, hb1⟩; replace H2 := H2.go hb1; have ⟨hW, a0, a1, b0, b1⟩ := H2)
    | (go_at_call 61; (with_reducible refine (cQ _ hW).mono ?_); rintro en w1 ⟨rfl, hb1⟩; replace H2 := H2.go hb1; have ⟨hW, a0, a1, b0, b1⟩ := H2)
    | (go_at_call 62; (with_reducible refine (cV _ hW).mono ?_); rintro en w1 ⟨ao, k1, c1, rfl, F1, hb1⟩; replace H2 := (H2.go hb1).go (more (Below.refl w1.heap.size w1) (.cells #[.bool s, .slice ao k1 c1, .int .i64 X] 90)); have ⟨hW, a0, a1, b0, b1⟩ := H2; have D := box3_new w1 (.bool s) (.slice ao k1 c1) (.int .i64 X) 90; have ⟨x0, x1, x2, _, _, _⟩ := D; have S1 := (F1.alloc (.cells #[.bool s, .slice ao k1 c1, .int .i64 X] 90)).sl)
    | (go_at_call 62; (with_reducible refine (cY _ hW).mono ?_); rintro en w2 ⟨a2, k2, c2, rfl, F2, hb2⟩; replace H2 := (H2.go hb2).go (more (Below.refl w2.heap.size w2) (.cells #[.bool s, .slice a2 k2 c2, .int .i64 X] 90)); have ⟨hW, a0, a1, b0, b1⟩ := H2; replace D := (D.stay hb2).stay (more (Below.refl w2.heap.size w2) (.cells #[.bool s, .slice a2 k2 c2, .int .i64 X] 90)); have ⟨x0, x1, x2, _, _, _⟩ := D; replace S1 := (S1.below hb2).below (more (Below.refl w2.heap.size w2) (.cells #[.bool s, .slice a2 k2 c2, .int .i64 X] 90)); have D2 := box3_new w2 (.bool s) (.slice a2 k2 c2) (.int .i64 X) 90; have ⟨y0, y1, y2, _, _, _⟩ := D2; have S2 := (F2.alloc (.cells #[.bool s, .slice a2 k2 c2, .int .i64 X] 90)).sl)
    | (go_at_call 63; (with_reducible refine (cK _ _ _ _ _ _ _ S1 S2).mono ?_); rintro en w1 ⟨rfl, hb1⟩; replace H2 := H2.go hb1; have ⟨hW, a0, a1, b0, b1⟩ := H2))
  go_ret
  exact ⟨rfl, hW⟩

theorem turnWider_any (e f g h : Int) (b m k : Nat) (w : World) (hb : b < 18446744073709551616) (hT : Tab w) :
    Calls Tryz.prog 8 #[.agg #[.int .i64 e, .int .i64 f], .agg #[.int .i64 g, .int .i64 h], .int .u64 (b : Int), .int .u8 (m : Int), .int .u8 (k : Int)] w fun en w' => en = .returned (.bool true) ∧ Below w.heap.size w w' := by
  by_cases ho : formE e f ≠ 0 ∨ formE g h ≠ 0 ∨ g < e ∨ h < f ∨ 4 < m ∨ 4 < k
  · exact wider_out e f g h b m k w hT ho
  · have h1 : formE e f = 0 := by omega
    have h2 : formE g h = 0 := by omega
    by_cases hx : fitsE e f b = 0
    · obtain ⟨_, hp⟩ := fitsE_parts hx
      obtain ⟨e1, e2, e3, e4⟩ := formE_ok h1
      obtain ⟨g1, g2, g3, g4⟩ := formE_ok h2
      obtain ⟨E, rfl⟩ : ∃ E : Nat, e = (E : Int) := ⟨e.toNat, by omega⟩
      obtain ⟨F, rfl⟩ : ∃ F : Nat, f = (F : Int) := ⟨f.toNat, by omega⟩
      obtain ⟨G, rfl⟩ : ∃ G : Nat, g = (G : Int) := ⟨g.toNat, by omega⟩
      obtain ⟨H, rfl⟩ : ∃ H : Nat, h = (H : Int) := ⟨h.toNat, by omega⟩
      simp only [Int.toNat_natCast] at hp
      cases hn : naB E F b
      · cases hi : enB E F b
        · exact wider_fin E F G H b m k w hT h1 h2 (by omega) (by omega) hp (by omega) (by omega) hn hi
        · exact wider_inf E F G H b m k w hT h1 h2 (by omega) (by omega) hp (by omega) (by omega) hn hi
      · exact wider_nan E F G H b m k w hT h1 h2 (by omega) (by omega) hp (by omega) (by omega) hn
    · exact wider_bits e f g h b m k w hb hT h1 h2 (by omega) (by omega) (by omega) (by omega) hx

end Go.Proofs.YtaddnoneoflimaaGreatDoor

