/-
  The walks of the reference's May (at the bits 0) and Bits, a theorem for each way.
-/
import Derived.Test.YtaanaacgkioagaaBitsW
import Derived.Deep.RegionHeld3
namespace Go.Proofs.Ytaanaacgkioagaa
open Go.RowKit Go.Lb

set_option maxHeartbeats 800000 in
theorem may0_any (e f : Int) (w : World) :
    Calls Try.prog 10 #[.agg #[.int .i64 e, .int .i64 f], .int .u64 0] w fun en w' => en = .returned (.int .i64 (formE e f)) ∧ Below w.heap.size w w' := by
  rcases (by omega : e < 2 ∨ (2 ≤ e ∧ 11 < e) ∨ (2 ≤ e ∧ e ≤ 11 ∧ f < 1) ∨ (2 ≤ e ∧ e ≤ 11 ∧ 1 ≤ f ∧ 52 < f) ∨ (2 ≤ e ∧ e ≤ 11 ∧ 1 ≤ f ∧ f ≤ 52)) with h | ⟨h1, h⟩ | ⟨h1, h2, h⟩ | ⟨h1, h2, h3, h⟩ | ⟨h1, h2, h3, h⟩
  · have H := Lib.hid (formE_no (e := e) (f := f) (by omega))
    go_enter Try.func10, Try.ntmps10
    go_wp2
    go_ret
    exact ⟨by rw [H.out]; rfl, more (Below.refl _ _) _⟩
  · have H := Lib.hid (formE_no (e := e) (f := f) (by omega))
    go_enter Try.func10, Try.ntmps10
    go_wp2
    go_ret
    exact ⟨by rw [H.out]; rfl, more (Below.refl _ _) _⟩
  · have H := Lib.hid (formE_no (e := e) (f := f) (by omega))
    go_enter Try.func10, Try.ntmps10
    go_wp2
    go_ret
    exact ⟨by rw [H.out]; rfl, more (Below.refl _ _) _⟩
  · have H := Lib.hid (formE_no (e := e) (f := f) (by omega))
    go_enter Try.func10, Try.ntmps10
    go_wp2
    go_ret
    exact ⟨by rw [H.out]; rfl, more (Below.refl _ _) _⟩
  · have H := Lib.hid (formE_yes (e := e) (f := f) (by omega))
    by_cases h5 : e + f < 63
    all_goals
      go_enter Try.func10, Try.ntmps10
      go_wp2
      go_ret
      exact ⟨by rw [H.out]; rfl, more (Below.refl _ _) _⟩

set_option maxHeartbeats 1000000 in
theorem rfBits_form (e f : Int) (neg : Bool) (ao : Option Addr) (n c : Nat) (x : Int) (xs : List Nat) (w : World) (h : Sl w ao n c xs) (h0 : formE e f ≠ 0) :
    Calls Try.prog 4 #[.agg #[.int .i64 e, .int .i64 f], .agg #[.bool neg, .slice ao n c, .int .i64 x]] w fun en w' => en = .returned (.tuple #[.int .u64 0, .bool false, .int .i64 (formE e f)]) ∧ Below w.heap.size w w' := by
  have h0b : (formE e f == 0) = false := by simp [h0]
  have h0c : (formE e f != 0) = true := by simp [h0]
  clear h0
  go_enter Try.func4, Try.ntmps4
  go_wp2_with (first
    | (go_at_call 10; refine (may0_any e f _).mono ?_; rintro en w1 ⟨rfl, hb1⟩; have hc1 := (bcell hb1).1; have c0 : w1.cell? ⟨w.heap.size, 0, none⟩ = some (.int .i64 e) := (hc1 _ _ (by simp <;> omega)).trans (boxA _ _ _ _ _); have c1 : w1.cell? ⟨w.heap.size, 1, none⟩ = some (.int .i64 f) := (hc1 _ _ (by simp <;> omega)).trans (boxA _ _ _ _ _); have c2 : w1.cell? ⟨w.heap.size + 1, 0, none⟩ = some (.bool neg) := (hc1 _ _ (by simp <;> omega)).trans (boxB _ _ _ _ _); have c3 : w1.cell? ⟨w.heap.size + 1, 1, none⟩ = some (.slice ao n c) := (hc1 _ _ (by simp <;> omega)).trans (boxB _ _ _ _ _); have c4 : w1.cell? ⟨w.heap.size + 1, 2, none⟩ = some (.int .i64 x) := (hc1 _ _ (by simp <;> omega)).trans (boxB _ _ _ _ _); have hW := next (more (more (Below.refl _ _) _) _) hb1; have S1 := ((h.alloc _).alloc _).below hb1; clear hc1))
  go_ret3
  exact ⟨rfl, hW⟩

set_option maxHeartbeats 1000000 in
theorem rfBits_dy (e f : Nat) (he1 : 2 ≤ e) (he : e ≤ 11) (hf1 : 1 ≤ f) (hf : f ≤ 52) (neg : Bool) (ao : Option Addr) (n c : Nat) (x : Int) (xs : List Nat) (w : World) (h : Sl w ao n c xs) (h1 : dchk neg xs x ≠ 0) :
    Calls Try.prog 4 #[.agg #[.int .i64 e, .int .i64 f], .agg #[.bool neg, .slice ao n c, .int .i64 x]] w fun en w' => en = .returned (.tuple #[.int .u64 0, .bool false, .int .i64 (dchk neg xs x)]) ∧ Below w.heap.size w w' := by
  have hok : formE (e : Int) (f : Int) = 0 := formE_yes (by omega)
  have hokb : (formE (e : Int) (f : Int) == 0) = true := by simp [hok]
  clear hok
  have h1c : (dchk neg xs x != 0) = true := by simp [h1]
  clear h1
  go_enter Try.func4, Try.ntmps4
  go_wp2_with (first
    | (go_at_call 10; refine (may0_any (e : Int) (f : Int) _).mono ?_; rintro en w1 ⟨rfl, hb1⟩; have hc1 := (bcell hb1).1; have c0 : w1.cell? ⟨w.heap.size, 0, none⟩ = some (.int .i64 (e : Int)) := (hc1 _ _ (by simp <;> omega)).trans (boxA _ _ _ _ _); have c1 : w1.cell? ⟨w.heap.size, 1, none⟩ = some (.int .i64 (f : Int)) := (hc1 _ _ (by simp <;> omega)).trans (boxA _ _ _ _ _); have c2 : w1.cell? ⟨w.heap.size + 1, 0, none⟩ = some (.bool neg) := (hc1 _ _ (by simp <;> omega)).trans (boxB _ _ _ _ _); have c3 : w1.cell? ⟨w.heap.size + 1, 1, none⟩ = some (.slice ao n c) := (hc1 _ _ (by simp <;> omega)).trans (boxB _ _ _ _ _); have c4 : w1.cell? ⟨w.heap.size + 1, 2, none⟩ = some (.int .i64 x) := (hc1 _ _ (by simp <;> omega)).trans (boxB _ _ _ _ _); have hW := next (more (more (Below.refl _ _) _) _) hb1; have S1 := ((h.alloc _).alloc _).below hb1; clear hc1)
    | (go_at_call 8; refine (refDyCheck_any neg ao n c x xs _ S1).mono ?_; rintro en w2 ⟨rfl, hb2⟩; replace c0 := cellStay c0 hb2; replace c1 := cellStay c1 hb2; replace c2 := cellStay c2 hb2; replace c3 := cellStay c3 hb2; replace c4 := cellStay c4 hb2; replace hW := next hW hb2; replace S1 := S1.below hb2))
  go_ret3
  exact ⟨rfl, hW⟩

set_option maxHeartbeats 1000000 in
theorem rfBits_none (e f : Nat) (he1 : 2 ≤ e) (he : e ≤ 11) (hf1 : 1 ≤ f) (hf : f ≤ 52) (neg : Bool) (ao : Option Addr) (n c : Nat) (x : Int) (xs : List Nat) (w : World) (h : Sl w ao n c xs) (h1 : dchk neg xs x = 0) (hn : noneB n = true) :
    Calls Try.prog 4 #[.agg #[.int .i64 e, .int .i64 f], .agg #[.bool neg, .slice ao n c, .int .i64 x]] w fun en w' => en = .returned (.tuple #[.int .u64 0, .bool true, .int .i64 0]) ∧ Below w.heap.size w w' := by
  have hok : formE (e : Int) (f : Int) = 0 := formE_yes (by omega)
  have hokb : (formE (e : Int) (f : Int) == 0) = true := by simp [hok]
  clear hok
  have h1c : (dchk neg xs x != 0) = false := by simp [h1]
  clear h1
  go_enter Try.func4, Try.ntmps4
  go_wp2_with (first
    | (go_at_call 10; refine (may0_any (e : Int) (f : Int) _).mono ?_; rintro en w1 ⟨rfl, hb1⟩; have hc1 := (bcell hb1).1; have c0 : w1.cell? ⟨w.heap.size, 0, none⟩ = some (.int .i64 (e : Int)) := (hc1 _ _ (by simp <;> omega)).trans (boxA _ _ _ _ _); have c1 : w1.cell? ⟨w.heap.size, 1, none⟩ = some (.int .i64 (f : Int)) := (hc1 _ _ (by simp <;> omega)).trans (boxA _ _ _ _ _); have c2 : w1.cell? ⟨w.heap.size + 1, 0, none⟩ = some (.bool neg) := (hc1 _ _ (by simp <;> omega)).trans (boxB _ _ _ _ _); have c3 : w1.cell? ⟨w.heap.size + 1, 1, none⟩ = some (.slice ao n c) := (hc1 _ _ (by simp <;> omega)).trans (boxB _ _ _ _ _); have c4 : w1.cell? ⟨w.heap.size + 1, 2, none⟩ = some (.int .i64 x) := (hc1 _ _ (by simp <;> omega)).trans (boxB _ _ _ _ _); have hW := next (more (more (Below.refl _ _) _) _) hb1; have S1 := ((h.alloc _).alloc _).below hb1; clear hc1)
    | (go_at_call 8; refine (refDyCheck_any neg ao n c x xs _ S1).mono ?_; rintro en w2 ⟨rfl, hb2⟩; replace c0 := cellStay c0 hb2; replace c1 := cellStay c1 hb2; replace c2 := cellStay c2 hb2; replace c3 := cellStay c3 hb2; replace c4 := cellStay c4 hb2; replace hW := next hW hb2; replace S1 := S1.below hb2)
    | (go_at_call 11; refine (refNone_any ao n c _).mono ?_; rintro en w3 ⟨rfl, hb3⟩; replace c0 := cellStay c0 hb3; replace c1 := cellStay c1 hb3; replace c2 := cellStay c2 hb3; replace c3 := cellStay c3 hb3; replace c4 := cellStay c4 hb3; replace hW := next hW hb3; replace S1 := S1.below hb3))
  go_ret3
  exact ⟨rfl, hW⟩

set_option maxRecDepth 100000 in
set_option maxHeartbeats 2000000 in
theorem rfBits_big_norm (e f : Nat) (he1 : 2 ≤ e) (he : e ≤ 11) (hf1 : 1 ≤ f) (hf : f ≤ 52) (neg : Bool) (ao : Option Addr) (n c : Nat) (x : Int) (xs : List Nat) (w : World) (h : Sl w ao n c xs) (h1 : dchk neg xs x = 0) (hn : noneB n = false) (s m : Nat) (hs : bitsN xs = (s : Int)) (hsl : s ≤ 524288) (_hm : lowN xs = m) (hx1 : -1073741824 ≤ x) (hx2 : x ≤ 1073741824) (hA : f + 1 < s) (hB : 1 ≤ x + s - 1 + biasN e) :
    Calls Try.prog 4 #[.agg #[.int .i64 e, .int .i64 f], .agg #[.bool neg, .slice ao n c, .int .i64 x]] w fun en w' => en = .returned (.tuple #[.int .u64 0, .bool false, .int .i64 0]) ∧ Below w.heap.size w w' := by
  have hok : formE (e : Int) (f : Int) = 0 := formE_yes (by omega)
  have hokb : (formE (e : Int) (f : Int) == 0) = true := by simp [hok]
  clear hok
  have h1c : (dchk neg xs x != 0) = false := by simp [h1]
  have hble := biasN_le he
  have hbpos := biasN_pos he1
  have hpwe := pw_wrap he
  have htwo := biasN_two he1
  have hple : pw e ≤ 2048 := by omega
  have h2b : pw e = 2 * biasN e + 2 := by omega
  have H2b := Lib.hid h2b
  have h2a : pw e ≤ 2 * biasN e + 2 := by omega
  have h2c : 2 * biasN e + 2 ≤ pw e := by omega
  clear h1 htwo h2b
  have hAd : decide ((f : Int) + 1 < s) = true := by simp; omega
  have hNd : decide (x + (s : Int) - 1 - (f : Int) < 1 - (biasN e : Int) - (f : Int)) = false := by simp; omega
  have hw0 : IntKind.i64.wrap ((f : Int) + 1) = (f : Int) + 1 := IntWalk.i64_in _ (by omega)
  have hw1 : IntKind.i64.wrap (1 - (biasN e : Int)) = 1 - (biasN e : Int) := IntWalk.i64_in _ (by omega)
  have hw2 : IntKind.i64.wrap (1 - (biasN e : Int) - (f : Int)) = 1 - (biasN e : Int) - (f : Int) := IntWalk.i64_in _ (by omega)
  go_enter Try.func4, Try.ntmps4
  go_wp2_with (first
    | (go_at_call 10; refine (may0_any (e : Int) (f : Int) _).mono ?_; rintro en w1 ⟨rfl, hb1⟩; have hc1 := (bcell hb1).1; have c0 : w1.cell? ⟨w.heap.size, 0, none⟩ = some (.int .i64 (e : Int)) := (hc1 _ _ (by simp <;> omega)).trans (boxA _ _ _ _ _); have c1 : w1.cell? ⟨w.heap.size, 1, none⟩ = some (.int .i64 (f : Int)) := (hc1 _ _ (by simp <;> omega)).trans (boxA _ _ _ _ _); have c2 : w1.cell? ⟨w.heap.size + 1, 0, none⟩ = some (.bool neg) := (hc1 _ _ (by simp <;> omega)).trans (boxB _ _ _ _ _); have c3 : w1.cell? ⟨w.heap.size + 1, 1, none⟩ = some (.slice ao n c) := (hc1 _ _ (by simp <;> omega)).trans (boxB _ _ _ _ _); have c4 : w1.cell? ⟨w.heap.size + 1, 2, none⟩ = some (.int .i64 x) := (hc1 _ _ (by simp <;> omega)).trans (boxB _ _ _ _ _); have hW := next (more (more (Below.refl _ _) _) _) hb1; have S1 := ((h.alloc _).alloc _).below hb1; clear hc1)
    | (go_at_call 8; refine (refDyCheck_any neg ao n c x xs _ S1).mono ?_; rintro en w2 ⟨rfl, hb2⟩; replace c0 := cellStay c0 hb2; replace c1 := cellStay c1 hb2; replace c2 := cellStay c2 hb2; replace c3 := cellStay c3 hb2; replace c4 := cellStay c4 hb2; replace hW := next hW hb2; replace S1 := S1.below hb2)
    | (go_at_call 11; refine (refNone_any ao n c _).mono ?_; rintro en w3 ⟨rfl, hb3⟩; replace c0 := cellStay c0 hb3; replace c1 := cellStay c1 hb3; replace c2 := cellStay c2 hb3; replace c3 := cellStay c3 hb3; replace c4 := cellStay c4 hb3; replace hW := next hW hb3; replace S1 := S1.below hb3)
    | (go_at_call 12; refine (refBits_any ao n c xs _ S1).mono ?_; rintro en w4 ⟨rfl, hb4⟩; replace c0 := cellStay c0 hb4; replace c1 := cellStay c1 hb4; replace c2 := cellStay c2 hb4; replace c3 := cellStay c3 hb4; replace c4 := cellStay c4 hb4; replace hW := next hW hb4; replace S1 := S1.below hb4)
    | (go_at_call 14; refine (refLow_any ao n c xs _ S1).mono ?_; rintro en w5 ⟨rfl, hb5⟩; replace c0 := cellStay c0 hb5; replace c1 := cellStay c1 hb5; replace c2 := cellStay c2 hb5; replace c3 := cellStay c3 hb5; replace c4 := cellStay c4 hb5; replace hW := next hW hb5))
  go_region_held3 (fun w' => w'.cell? ⟨w.heap.size, 0, none⟩ = some (.int .i64 (e : Int)) ∧ w'.cell? ⟨w.heap.size, 1, none⟩ = some (.int .i64 (f : Int)) ∧ w'.cell? ⟨w.heap.size + 1, 0, none⟩ = some (.bool neg) ∧ w'.cell? ⟨w.heap.size + 1, 1, none⟩ = some (.slice ao n c) ∧ w'.cell? ⟨w.heap.size + 1, 2, none⟩ = some (.int .i64 x) ∧ Below w.heap.size w w' ∧ Sl w' ao n c xs)
    ((go_split_ands; refine ⟨?_, ?_, ?_, ?_, ?_, ?_, ?_⟩ <;> (first | assumption | exact Below.drew (by assumption) | exact Sl.drew (by assumption) | exact cellStay (by assumption) hbB | exact next (by assumption) hbB | exact Sl.below (by assumption) hbB | (go_keep; done))))
    (first | (go_at_call 13; (with_reducible refine (bias_any e f _ he1 he).mono ?_); rintro en wB ⟨rfl, hbB⟩))
  go_split_ands
  go_wp2
  go_quiet (fail)
  go_wp2
  all_goals go_ret3
  all_goals exact ⟨rfl, (by first | assumption | exact drewn (by assumption) _)⟩

set_option maxRecDepth 100000 in
set_option maxHeartbeats 2000000 in
theorem rfBits_big_sub (e f : Nat) (he1 : 2 ≤ e) (he : e ≤ 11) (hf1 : 1 ≤ f) (hf : f ≤ 52) (neg : Bool) (ao : Option Addr) (n c : Nat) (x : Int) (xs : List Nat) (w : World) (h : Sl w ao n c xs) (h1 : dchk neg xs x = 0) (hn : noneB n = false) (s m : Nat) (hs : bitsN xs = (s : Int)) (_hsl : s ≤ 524288) (_hm : lowN xs = m) (hx1 : -1073741824 ≤ x) (hx2 : x ≤ 1073741824) (hA : f + 1 < s) (hB : x + s - 1 + biasN e < 1) :
    Calls Try.prog 4 #[.agg #[.int .i64 e, .int .i64 f], .agg #[.bool neg, .slice ao n c, .int .i64 x]] w fun en w' => en = .returned (.tuple #[.int .u64 0, .bool false, .int .i64 0]) ∧ Below w.heap.size w w' := by
  have hok : formE (e : Int) (f : Int) = 0 := formE_yes (by omega)
  have hokb : (formE (e : Int) (f : Int) == 0) = true := by simp [hok]
  clear hok
  have h1c : (dchk neg xs x != 0) = false := by simp [h1]
  have hble := biasN_le he
  have hbpos := biasN_pos he1
  have hpwe := pw_wrap he
  have htwo := biasN_two he1
  have hple : pw e ≤ 2048 := by omega
  have h2b : pw e = 2 * biasN e + 2 := by omega
  have H2b := Lib.hid h2b
  have h2a : pw e ≤ 2 * biasN e + 2 := by omega
  have h2c : 2 * biasN e + 2 ≤ pw e := by omega
  clear h1 htwo h2b
  have hAd : decide ((f : Int) + 1 < s) = true := by simp; omega
  have hNd : decide (x + (s : Int) - 1 - (f : Int) < 1 - (biasN e : Int) - (f : Int)) = true := by simp; omega
  have hw0 : IntKind.i64.wrap ((f : Int) + 1) = (f : Int) + 1 := IntWalk.i64_in _ (by omega)
  have hw1 : IntKind.i64.wrap (1 - (biasN e : Int)) = 1 - (biasN e : Int) := IntWalk.i64_in _ (by omega)
  have hw2 : IntKind.i64.wrap (1 - (biasN e : Int) - (f : Int)) = 1 - (biasN e : Int) - (f : Int) := IntWalk.i64_in _ (by omega)
  go_enter Try.func4, Try.ntmps4
  go_wp2_with (first
    | (go_at_call 10; refine (may0_any (e : Int) (f : Int) _).mono ?_; rintro en w1 ⟨rfl, hb1⟩; have hc1 := (bcell hb1).1; have c0 : w1.cell? ⟨w.heap.size, 0, none⟩ = some (.int .i64 (e : Int)) := (hc1 _ _ (by simp <;> omega)).trans (boxA _ _ _ _ _); have c1 : w1.cell? ⟨w.heap.size, 1, none⟩ = some (.int .i64 (f : Int)) := (hc1 _ _ (by simp <;> omega)).trans (boxA _ _ _ _ _); have c2 : w1.cell? ⟨w.heap.size + 1, 0, none⟩ = some (.bool neg) := (hc1 _ _ (by simp <;> omega)).trans (boxB _ _ _ _ _); have c3 : w1.cell? ⟨w.heap.size + 1, 1, none⟩ = some (.slice ao n c) := (hc1 _ _ (by simp <;> omega)).trans (boxB _ _ _ _ _); have c4 : w1.cell? ⟨w.heap.size + 1, 2, none⟩ = some (.int .i64 x) := (hc1 _ _ (by simp <;> omega)).trans (boxB _ _ _ _ _); have hW := next (more (more (Below.refl _ _) _) _) hb1; have S1 := ((h.alloc _).alloc _).below hb1; clear hc1)
    | (go_at_call 8; refine (refDyCheck_any neg ao n c x xs _ S1).mono ?_; rintro en w2 ⟨rfl, hb2⟩; replace c0 := cellStay c0 hb2; replace c1 := cellStay c1 hb2; replace c2 := cellStay c2 hb2; replace c3 := cellStay c3 hb2; replace c4 := cellStay c4 hb2; replace hW := next hW hb2; replace S1 := S1.below hb2)
    | (go_at_call 11; refine (refNone_any ao n c _).mono ?_; rintro en w3 ⟨rfl, hb3⟩; replace c0 := cellStay c0 hb3; replace c1 := cellStay c1 hb3; replace c2 := cellStay c2 hb3; replace c3 := cellStay c3 hb3; replace c4 := cellStay c4 hb3; replace hW := next hW hb3; replace S1 := S1.below hb3)
    | (go_at_call 12; refine (refBits_any ao n c xs _ S1).mono ?_; rintro en w4 ⟨rfl, hb4⟩; replace c0 := cellStay c0 hb4; replace c1 := cellStay c1 hb4; replace c2 := cellStay c2 hb4; replace c3 := cellStay c3 hb4; replace c4 := cellStay c4 hb4; replace hW := next hW hb4; replace S1 := S1.below hb4)
    | (go_at_call 14; refine (refLow_any ao n c xs _ S1).mono ?_; rintro en w5 ⟨rfl, hb5⟩; replace c0 := cellStay c0 hb5; replace c1 := cellStay c1 hb5; replace c2 := cellStay c2 hb5; replace c3 := cellStay c3 hb5; replace c4 := cellStay c4 hb5; replace hW := next hW hb5))
  go_region_held3 (fun w' => w'.cell? ⟨w.heap.size, 0, none⟩ = some (.int .i64 (e : Int)) ∧ w'.cell? ⟨w.heap.size, 1, none⟩ = some (.int .i64 (f : Int)) ∧ w'.cell? ⟨w.heap.size + 1, 0, none⟩ = some (.bool neg) ∧ w'.cell? ⟨w.heap.size + 1, 1, none⟩ = some (.slice ao n c) ∧ w'.cell? ⟨w.heap.size + 1, 2, none⟩ = some (.int .i64 x) ∧ Below w.heap.size w w' ∧ Sl w' ao n c xs)
    ((go_split_ands; refine ⟨?_, ?_, ?_, ?_, ?_, ?_, ?_⟩ <;> (first | assumption | exact Below.drew (by assumption) | exact Sl.drew (by assumption) | exact cellStay (by assumption) hbB | exact next (by assumption) hbB | exact Sl.below (by assumption) hbB | (go_keep; done))))
    (first | (go_at_call 13; (with_reducible refine (bias_any e f _ he1 he).mono ?_); rintro en wB ⟨rfl, hbB⟩))
  go_split_ands
  go_wp2
  go_quiet (fail)
  go_wp2
  all_goals go_ret3
  all_goals exact ⟨rfl, (by first | assumption | exact drewn (by assumption) _)⟩

set_option maxRecDepth 100000 in
set_option maxHeartbeats 2000000 in
theorem rfBits_low (e f : Nat) (he1 : 2 ≤ e) (he : e ≤ 11) (hf1 : 1 ≤ f) (hf : f ≤ 52) (neg : Bool) (ao : Option Addr) (n c : Nat) (x : Int) (xs : List Nat) (w : World) (h : Sl w ao n c xs) (h1 : dchk neg xs x = 0) (hn : noneB n = false) (s m : Nat) (hs : bitsN xs = (s : Int)) (hsl : s ≤ 524288) (_hm : lowN xs = m) (hx1 : -1073741824 ≤ x) (hx2 : x ≤ 1073741824) (hA : s ≤ f + 1) (hB : x + s - 1 + biasN e < 1) (hC : x < 1 - (biasN e : Int) - f) :
    Calls Try.prog 4 #[.agg #[.int .i64 e, .int .i64 f], .agg #[.bool neg, .slice ao n c, .int .i64 x]] w fun en w' => en = .returned (.tuple #[.int .u64 0, .bool false, .int .i64 0]) ∧ Below w.heap.size w w' := by
  have hok : formE (e : Int) (f : Int) = 0 := formE_yes (by omega)
  have hokb : (formE (e : Int) (f : Int) == 0) = true := by simp [hok]
  clear hok
  have h1c : (dchk neg xs x != 0) = false := by simp [h1]
  have hble := biasN_le he
  have hbpos := biasN_pos he1
  have hpwe := pw_wrap he
  have htwo := biasN_two he1
  have hple : pw e ≤ 2048 := by omega
  have h2b : pw e = 2 * biasN e + 2 := by omega
  have H2b := Lib.hid h2b
  have h2a : pw e ≤ 2 * biasN e + 2 := by omega
  have h2c : 2 * biasN e + 2 ≤ pw e := by omega
  clear h1 htwo h2b
  have hAd : decide ((f : Int) + 1 < s) = false := by simp; omega
  have hNd : decide (x + (s : Int) - 1 - (f : Int) < 1 - (biasN e : Int) - (f : Int)) = true := by simp; omega
  have hBd : decide (x < 1 - (biasN e : Int) - f) = true := by simp; omega
  have hw0 : IntKind.i64.wrap ((f : Int) + 1) = (f : Int) + 1 := IntWalk.i64_in _ (by omega)
  have hw1 : IntKind.i64.wrap (1 - (biasN e : Int)) = 1 - (biasN e : Int) := IntWalk.i64_in _ (by omega)
  have hw2 : IntKind.i64.wrap (1 - (biasN e : Int) - (f : Int)) = 1 - (biasN e : Int) - (f : Int) := IntWalk.i64_in _ (by omega)
  go_enter Try.func4, Try.ntmps4
  go_wp2_with (first
    | (go_at_call 10; refine (may0_any (e : Int) (f : Int) _).mono ?_; rintro en w1 ⟨rfl, hb1⟩; have hc1 := (bcell hb1).1; have c0 : w1.cell? ⟨w.heap.size, 0, none⟩ = some (.int .i64 (e : Int)) := (hc1 _ _ (by simp <;> omega)).trans (boxA _ _ _ _ _); have c1 : w1.cell? ⟨w.heap.size, 1, none⟩ = some (.int .i64 (f : Int)) := (hc1 _ _ (by simp <;> omega)).trans (boxA _ _ _ _ _); have c2 : w1.cell? ⟨w.heap.size + 1, 0, none⟩ = some (.bool neg) := (hc1 _ _ (by simp <;> omega)).trans (boxB _ _ _ _ _); have c3 : w1.cell? ⟨w.heap.size + 1, 1, none⟩ = some (.slice ao n c) := (hc1 _ _ (by simp <;> omega)).trans (boxB _ _ _ _ _); have c4 : w1.cell? ⟨w.heap.size + 1, 2, none⟩ = some (.int .i64 x) := (hc1 _ _ (by simp <;> omega)).trans (boxB _ _ _ _ _); have hW := next (more (more (Below.refl _ _) _) _) hb1; have S1 := ((h.alloc _).alloc _).below hb1; clear hc1)
    | (go_at_call 8; refine (refDyCheck_any neg ao n c x xs _ S1).mono ?_; rintro en w2 ⟨rfl, hb2⟩; replace c0 := cellStay c0 hb2; replace c1 := cellStay c1 hb2; replace c2 := cellStay c2 hb2; replace c3 := cellStay c3 hb2; replace c4 := cellStay c4 hb2; replace hW := next hW hb2; replace S1 := S1.below hb2)
    | (go_at_call 11; refine (refNone_any ao n c _).mono ?_; rintro en w3 ⟨rfl, hb3⟩; replace c0 := cellStay c0 hb3; replace c1 := cellStay c1 hb3; replace c2 := cellStay c2 hb3; replace c3 := cellStay c3 hb3; replace c4 := cellStay c4 hb3; replace hW := next hW hb3; replace S1 := S1.below hb3)
    | (go_at_call 12; refine (refBits_any ao n c xs _ S1).mono ?_; rintro en w4 ⟨rfl, hb4⟩; replace c0 := cellStay c0 hb4; replace c1 := cellStay c1 hb4; replace c2 := cellStay c2 hb4; replace c3 := cellStay c3 hb4; replace c4 := cellStay c4 hb4; replace hW := next hW hb4; replace S1 := S1.below hb4)
    | (go_at_call 14; refine (refLow_any ao n c xs _ S1).mono ?_; rintro en w5 ⟨rfl, hb5⟩; replace c0 := cellStay c0 hb5; replace c1 := cellStay c1 hb5; replace c2 := cellStay c2 hb5; replace c3 := cellStay c3 hb5; replace c4 := cellStay c4 hb5; replace hW := next hW hb5))
  go_region_held3 (fun w' => w'.cell? ⟨w.heap.size, 0, none⟩ = some (.int .i64 (e : Int)) ∧ w'.cell? ⟨w.heap.size, 1, none⟩ = some (.int .i64 (f : Int)) ∧ w'.cell? ⟨w.heap.size + 1, 0, none⟩ = some (.bool neg) ∧ w'.cell? ⟨w.heap.size + 1, 1, none⟩ = some (.slice ao n c) ∧ w'.cell? ⟨w.heap.size + 1, 2, none⟩ = some (.int .i64 x) ∧ Below w.heap.size w w' ∧ Sl w' ao n c xs)
    ((go_split_ands; refine ⟨?_, ?_, ?_, ?_, ?_, ?_, ?_⟩ <;> (first | assumption | exact Below.drew (by assumption) | exact Sl.drew (by assumption) | exact cellStay (by assumption) hbB | exact next (by assumption) hbB | exact Sl.below (by assumption) hbB | (go_keep; done))))
    (first | (go_at_call 13; (with_reducible refine (bias_any e f _ he1 he).mono ?_); rintro en wB ⟨rfl, hbB⟩))
  go_split_ands
  go_wp2
  go_quiet (fail)
  go_wp2
  all_goals go_ret3
  all_goals exact ⟨rfl, (by first | assumption | exact drewn (by assumption) _)⟩

set_option maxRecDepth 100000 in
set_option maxHeartbeats 2000000 in
theorem rfBits_over (e f : Nat) (he1 : 2 ≤ e) (he : e ≤ 11) (hf1 : 1 ≤ f) (hf : f ≤ 52) (neg : Bool) (ao : Option Addr) (n c : Nat) (x : Int) (xs : List Nat) (w : World) (h : Sl w ao n c xs) (h1 : dchk neg xs x = 0) (hn : noneB n = false) (s m : Nat) (hs : bitsN xs = (s : Int)) (_hsl : s ≤ 524288) (_hm : lowN xs = m) (hx1 : -1073741824 ≤ x) (hx2 : x ≤ 1073741824) (hA : s ≤ f + 1) (hB : 1 ≤ x + s - 1 + biasN e) (hC : 2 * (biasN e : Int) < x + s - 1 + biasN e) :
    Calls Try.prog 4 #[.agg #[.int .i64 e, .int .i64 f], .agg #[.bool neg, .slice ao n c, .int .i64 x]] w fun en w' => en = .returned (.tuple #[.int .u64 0, .bool false, .int .i64 0]) ∧ Below w.heap.size w w' := by
  have hok : formE (e : Int) (f : Int) = 0 := formE_yes (by omega)
  have hokb : (formE (e : Int) (f : Int) == 0) = true := by simp [hok]
  clear hok
  have h1c : (dchk neg xs x != 0) = false := by simp [h1]
  have hble := biasN_le he
  have hbpos := biasN_pos he1
  have hpwe := pw_wrap he
  have htwo := biasN_two he1
  have hple : pw e ≤ 2048 := by omega
  have h2b : pw e = 2 * biasN e + 2 := by omega
  have H2b := Lib.hid h2b
  have h2a : pw e ≤ 2 * biasN e + 2 := by omega
  have h2c : 2 * biasN e + 2 ≤ pw e := by omega
  clear h1 htwo h2b
  have hAd : decide ((f : Int) + 1 < s) = false := by simp; omega
  have hNd : decide (x + (s : Int) - 1 - (f : Int) < 1 - (biasN e : Int) - (f : Int)) = false := by simp; omega
  have hBd : decide (x < x + s - 1 - f) = false := by simp; omega
  have hCd : decide ((pw e : Int) - 2 - (biasN e : Int) - (f : Int) < x + (s : Int) - 1 - (f : Int)) = true := by have := H2b.out; simp; omega
  have hw0 : IntKind.i64.wrap ((f : Int) + 1) = (f : Int) + 1 := IntWalk.i64_in _ (by omega)
  have hw3 : IntKind.i64.wrap ((pw e : Int) - 2) = (pw e : Int) - 2 := IntWalk.i64_in _ (by omega)
  have hw4 : IntKind.i64.wrap ((pw e : Int) - 2 - (biasN e : Int)) = (pw e : Int) - 2 - (biasN e : Int) := IntWalk.i64_in _ (by omega)
  have hw5 : IntKind.i64.wrap ((pw e : Int) - 2 - (biasN e : Int) - (f : Int)) = (pw e : Int) - 2 - (biasN e : Int) - (f : Int) := IntWalk.i64_in _ (by omega)
  have hw6 := pw_wrapI he
  have hwE : IntKind.u64.wrap (e : Int) = (e : Int) := IntWalk.u64_in _ (by omega)
  have hmE : min e 64 = e := Nat.min_eq_left (by omega)
  have hw1 : IntKind.i64.wrap (1 - (biasN e : Int)) = 1 - (biasN e : Int) := IntWalk.i64_in _ (by omega)
  have hw2 : IntKind.i64.wrap (1 - (biasN e : Int) - (f : Int)) = 1 - (biasN e : Int) - (f : Int) := IntWalk.i64_in _ (by omega)
  go_enter Try.func4, Try.ntmps4
  go_wp2_with (first
    | (go_at_call 10; refine (may0_any (e : Int) (f : Int) _).mono ?_; rintro en w1 ⟨rfl, hb1⟩; have hc1 := (bcell hb1).1; have c0 : w1.cell? ⟨w.heap.size, 0, none⟩ = some (.int .i64 (e : Int)) := (hc1 _ _ (by simp <;> omega)).trans (boxA _ _ _ _ _); have c1 : w1.cell? ⟨w.heap.size, 1, none⟩ = some (.int .i64 (f : Int)) := (hc1 _ _ (by simp <;> omega)).trans (boxA _ _ _ _ _); have c2 : w1.cell? ⟨w.heap.size + 1, 0, none⟩ = some (.bool neg) := (hc1 _ _ (by simp <;> omega)).trans (boxB _ _ _ _ _); have c3 : w1.cell? ⟨w.heap.size + 1, 1, none⟩ = some (.slice ao n c) := (hc1 _ _ (by simp <;> omega)).trans (boxB _ _ _ _ _); have c4 : w1.cell? ⟨w.heap.size + 1, 2, none⟩ = some (.int .i64 x) := (hc1 _ _ (by simp <;> omega)).trans (boxB _ _ _ _ _); have hW := next (more (more (Below.refl _ _) _) _) hb1; have S1 := ((h.alloc _).alloc _).below hb1; clear hc1)
    | (go_at_call 8; refine (refDyCheck_any neg ao n c x xs _ S1).mono ?_; rintro en w2 ⟨rfl, hb2⟩; replace c0 := cellStay c0 hb2; replace c1 := cellStay c1 hb2; replace c2 := cellStay c2 hb2; replace c3 := cellStay c3 hb2; replace c4 := cellStay c4 hb2; replace hW := next hW hb2; replace S1 := S1.below hb2)
    | (go_at_call 11; refine (refNone_any ao n c _).mono ?_; rintro en w3 ⟨rfl, hb3⟩; replace c0 := cellStay c0 hb3; replace c1 := cellStay c1 hb3; replace c2 := cellStay c2 hb3; replace c3 := cellStay c3 hb3; replace c4 := cellStay c4 hb3; replace hW := next hW hb3; replace S1 := S1.below hb3)
    | (go_at_call 12; refine (refBits_any ao n c xs _ S1).mono ?_; rintro en w4 ⟨rfl, hb4⟩; replace c0 := cellStay c0 hb4; replace c1 := cellStay c1 hb4; replace c2 := cellStay c2 hb4; replace c3 := cellStay c3 hb4; replace c4 := cellStay c4 hb4; replace hW := next hW hb4; replace S1 := S1.below hb4)
    | (go_at_call 14; refine (refLow_any ao n c xs _ S1).mono ?_; rintro en w5 ⟨rfl, hb5⟩; replace c0 := cellStay c0 hb5; replace c1 := cellStay c1 hb5; replace c2 := cellStay c2 hb5; replace c3 := cellStay c3 hb5; replace c4 := cellStay c4 hb5; replace hW := next hW hb5))
  go_region_held3 (fun w' => w'.cell? ⟨w.heap.size, 0, none⟩ = some (.int .i64 (e : Int)) ∧ w'.cell? ⟨w.heap.size, 1, none⟩ = some (.int .i64 (f : Int)) ∧ w'.cell? ⟨w.heap.size + 1, 0, none⟩ = some (.bool neg) ∧ w'.cell? ⟨w.heap.size + 1, 1, none⟩ = some (.slice ao n c) ∧ w'.cell? ⟨w.heap.size + 1, 2, none⟩ = some (.int .i64 x) ∧ Below w.heap.size w w' ∧ Sl w' ao n c xs)
    ((go_split_ands; refine ⟨?_, ?_, ?_, ?_, ?_, ?_, ?_⟩ <;> (first | assumption | exact Below.drew (by assumption) | exact Sl.drew (by assumption) | exact cellStay (by assumption) hbB | exact next (by assumption) hbB | exact Sl.below (by assumption) hbB | (go_keep; done))))
    (first | (go_at_call 13; (with_reducible refine (bias_any e f _ he1 he).mono ?_); rintro en wB ⟨rfl, hbB⟩))
  go_split_ands
  go_wp2
  go_region_held3 (fun w' => w'.cell? ⟨w.heap.size, 0, none⟩ = some (.int .i64 (e : Int)) ∧ w'.cell? ⟨w.heap.size, 1, none⟩ = some (.int .i64 (f : Int)) ∧ w'.cell? ⟨w.heap.size + 1, 0, none⟩ = some (.bool neg) ∧ w'.cell? ⟨w.heap.size + 1, 1, none⟩ = some (.slice ao n c) ∧ w'.cell? ⟨w.heap.size + 1, 2, none⟩ = some (.int .i64 x) ∧ Below w.heap.size w w' ∧ Sl w' ao n c xs)
    ((go_split_ands; refine ⟨?_, ?_, ?_, ?_, ?_, ?_, ?_⟩ <;> (first | assumption | exact Below.drew (by assumption) | exact Sl.drew (by assumption) | exact cellStay (by assumption) hbB | exact next (by assumption) hbB | exact Sl.below (by assumption) hbB | (go_keep; done))))
    (first | (go_at_call 13; (with_reducible refine (bias_any e f _ he1 he).mono ?_); rintro en wB ⟨rfl, hbB⟩))
  go_split_ands
  go_wp2
  all_goals go_ret3
  all_goals exact ⟨rfl, (by first | assumption | exact drewn (by assumption) _)⟩

end Go.Proofs.Ytaanaacgkioagaa
