/-
  Plain laws: the words that the reference's Bits comes by. The walks of the reference's May (at the bits 0) and Bits, a theorem for each way. The walk of the reference's Bits, the ways on which there is a float. Both texts of Bits, all ways together: what they answer is one and the same.
-/
import Derived.Test.YtkifhlgmbckekaaGreatDoorQMS0
import Derived.Deep.RegionHeld3
namespace Go.Proofs.YtkifhlgmbckekaaGreatDoor

open Go.RowKit Go.Lb

theorem u64n {n : Nat} (h : n < 18446744073709551616) : IntKind.u64.wrap (n : Int) = (n : Int) := IntWalk.u64_in _ (by omega)

theorem pw64 : pw 64 = 18446744073709551616 := by unfold pw; rfl

/-- The words on the way of a normal float. -/
theorem norm_words {e f s m : Nat} {x : Int} {neg : Bool} (he1 : 2 ≤ e) (he : e ≤ 11) (hf1 : 1 ≤ f) (hf : f ≤ 52) (hx1 : -1073741824 ≤ x) (hx2 : x ≤ 1073741824) (hA : s ≤ f + 1) (hB : 1 ≤ x + s - 1 + biasN e)
    (hC : ¬ 2 * (biasN e : Int) < x + s - 1 + biasN e) (hs1 : 1 ≤ s) (hlo : pw (s - 1) ≤ m) (hhi : m < pw s) :
    ∃ q r0 E F R T R2 : Nat, IntKind.u64.wrap ((m : Int) * 2 ^ (x - (x + (s : Int) - 1 - (f : Int))).toNat) = (q : Int) ∧ IntKind.u64.wrap (2 ^ f) = (pw f : Int) ∧ pw f ≤ q ∧
      IntKind.u64.wrap ((q : Int) - (pw f : Int)) = (r0 : Int) ∧ IntKind.i64.wrap (x + (s : Int) - 1 - (f : Int) + (biasN e : Int)) = x + (s : Int) - 1 - (f : Int) + (biasN e : Int) ∧
      IntKind.i64.wrap (x + (s : Int) - 1 - (f : Int) + (biasN e : Int) + (f : Int)) = (E : Int) ∧ IntKind.u64.wrap (E : Int) = (E : Int) ∧ IntKind.u64.wrap ((E : Int) * 2 ^ f) = (F : Int) ∧
      IntKind.u64.wrap ((r0 : Int) + (F : Int)) = (R : Int) ∧ IntKind.u64.wrap (2 ^ (e + f)) = (T : Int) ∧ IntKind.u64.wrap ((R : Int) + (T : Int)) = (R2 : Int) ∧
      joinN e f neg (x + s - 1 + biasN e).toNat (m * pw (f + 1 - s) - pw f) = if neg = true then R2 else R := by
  obtain ⟨q1, q2⟩ := shift_top (k := f + 1 - s) (f := f) hs1 hlo hhi (by omega)
  clear hlo hhi
  have hk : (x - (x + (s : Int) - 1 - (f : Int))).toNat = f + 1 - s := by omega
  obtain ⟨q, hq⟩ : ∃ q, q = m * pw (f + 1 - s) := ⟨_, rfl⟩
  rw [← hq] at q1 q2 ⊢
  obtain ⟨E, hE⟩ := Int.eq_ofNat_of_zero_le (show 0 ≤ x + (s : Int) - 1 + (biasN e : Int) by omega)
  have hEt : (x + (s : Int) - 1 + (biasN e : Int)).toNat = E := by omega
  rw [hEt]
  have hble := biasN_le he
  have hEb : E < pw e := by have := biasN_two he1; omega
  have p2 := pw_succ f
  have hr : q - pw f < pw f := by omega
  have h1 := (put_bits (b := q - pw f) (fr := f) (sz := e) (fld := E) hr (by omega) hEb).2.2
  have h2 := (put_bits (b := q - pw f + E * pw f) (fr := f + e) (sz := 1) (fld := 1) h1 (by omega) (by unfold pw; decide)).2.2
  have h63 : pw (f + e + 1) ≤ 18446744073709551616 := pw64 ▸ pw_le (by omega)
  have c1 : (m : Int) * 2 ^ (f + 1 - s) = (q : Int) := by rw [hq]; unfold pw; simp
  have c2 : (2 : Int) ^ f = (pw f : Int) := by unfold pw; simp
  have c3 : (E : Int) * 2 ^ f = ((E * pw f : Nat) : Int) := by unfold pw; simp
  have c4 : (2 : Int) ^ (e + f) = (pw (f + e) : Int) := by rw [Nat.add_comm e f]; unfold pw; simp
  rw [Nat.one_mul] at h2
  have hfe : pw f < pw (f + e + 1) := pw_lt (by omega)
  have hfe2 : pw (f + e) < pw (f + e + 1) := pw_lt (by omega)
  have hfe3 : pw (f + 1) ≤ pw (f + e + 1) := pw_le (by omega)
  refine ⟨q, q - pw f, E, E * pw f, q - pw f + E * pw f, pw (f + e), q - pw f + E * pw f + pw (f + e), ?_, ?_, q1, ?_, ?_, ?_, ?_, ?_, ?_, ?_, ?_, ?_⟩
  · rw [hk, c1]; exact u64n (by omega)
  · rw [c2]; exact u64n (by omega)
  · rw [show (q : Int) - (pw f : Int) = ((q - pw f : Nat) : Int) by omega]; exact u64n (by omega)
  · exact IntWalk.i64_in _ (by omega)
  · rw [show x + (s : Int) - 1 - (f : Int) + (biasN e : Int) + (f : Int) = (E : Int) by omega]; exact IntWalk.i64_in _ (by omega)
  · exact u64n (by omega)
  · rw [c3]; exact u64n (by omega)
  · rw [← Int.natCast_add]; exact u64n (by omega)
  · rw [c4]; exact u64n (by omega)
  · rw [← Int.natCast_add]; exact u64n (by omega)
  · unfold joinN putN
    rw [Nat.one_mul, Nat.add_comm e f]

/-- The words on the way of a subnormal float. -/
theorem sub_words {e f s m : Nat} {x : Int} {neg : Bool} (he1 : 2 ≤ e) (he : e ≤ 11) (hf1 : 1 ≤ f) (hf : f ≤ 52) (hB : x + s - 1 + biasN e < 1)
    (hC : ¬ x < 1 - (biasN e : Int) - f) (hhi : m < pw s) :
    ∃ q T R2 : Nat, IntKind.u64.wrap ((m : Int) * 2 ^ (x - (1 - (biasN e : Int) - (f : Int))).toNat) = (q : Int) ∧ IntKind.u64.wrap (2 ^ f) = (pw f : Int) ∧ q < pw f ∧
      IntKind.u64.wrap (2 ^ (e + f)) = (T : Int) ∧ IntKind.u64.wrap ((q : Int) + (T : Int)) = (R2 : Int) ∧
      joinN e f neg 0 (m * pw (x - (1 - (biasN e : Int) - f)).toNat) = if neg = true then R2 else q := by
  have q2 := shift_low (k := (x - (1 - (biasN e : Int) - f)).toNat) (f := f) hhi (by have := biasN_le he; omega)
  clear hhi
  have c1 : (m : Int) * 2 ^ (x - (1 - (biasN e : Int) - (f : Int))).toNat = ((m * pw (x - (1 - (biasN e : Int) - f)).toNat : Nat) : Int) := by unfold pw; simp
  rw [c1]
  generalize m * pw (x - (1 - (biasN e : Int) - f)).toNat = q at q2 ⊢
  have h1 : pw f ≤ pw (f + e) := pw_le (by omega)
  have h2 := pw_succ (f + e)
  have h63 : pw (f + e + 1) ≤ 18446744073709551616 := pw64 ▸ pw_le (by omega)
  have c2 : (2 : Int) ^ f = (pw f : Int) := by unfold pw; simp
  have c4 : (2 : Int) ^ (e + f) = (pw (f + e) : Int) := by rw [Nat.add_comm e f]; unfold pw; simp
  refine ⟨q, pw (f + e), q + pw (f + e), ?_, ?_, q2, ?_, ?_, ?_⟩
  · exact u64n (by omega)
  · rw [c2]; exact u64n (by omega)
  · rw [c4]; exact u64n (by omega)
  · rw [← Int.natCast_add]; exact u64n (by omega)
  · unfold joinN putN
    rw [Nat.one_mul, Nat.add_comm e f, Nat.zero_mul, Nat.add_zero]

end Go.Proofs.YtkifhlgmbckekaaGreatDoor

namespace Go.Proofs.YtkifhlgmbckekaaGreatDoor

open Go.RowKit Go.Lb

set_option maxHeartbeats 800000 in
theorem may0_any (e f : Int) (w : World) :
    Calls Tryz.prog 162 #[.agg #[.int .i64 e, .int .i64 f], .int .u64 0] w fun en w' => en = .returned (.int .i64 (formE e f)) ∧ Below w.heap.size w w' := by
  rcases (by omega : e < 2 ∨ (2 ≤ e ∧ 11 < e) ∨ (2 ≤ e ∧ e ≤ 11 ∧ f < 1) ∨ (2 ≤ e ∧ e ≤ 11 ∧ 1 ≤ f ∧ 52 < f) ∨ (2 ≤ e ∧ e ≤ 11 ∧ 1 ≤ f ∧ f ≤ 52)) with h | ⟨h1, h⟩ | ⟨h1, h2, h⟩ | ⟨h1, h2, h3, h⟩ | ⟨h1, h2, h3, h⟩
  · have H := Lib.hid (formE_no (e := e) (f := f) (by omega))
    go_enter Tryz.func162, Tryz.ntmps162
    go_wp2
    go_ret
    exact ⟨by rw [H.out]; rfl, more (Below.refl _ _) _⟩
  · have H := Lib.hid (formE_no (e := e) (f := f) (by omega))
    go_enter Tryz.func162, Tryz.ntmps162
    go_wp2
    go_ret
    exact ⟨by rw [H.out]; rfl, more (Below.refl _ _) _⟩
  · have H := Lib.hid (formE_no (e := e) (f := f) (by omega))
    go_enter Tryz.func162, Tryz.ntmps162
    go_wp2
    go_ret
    exact ⟨by rw [H.out]; rfl, more (Below.refl _ _) _⟩
  · have H := Lib.hid (formE_no (e := e) (f := f) (by omega))
    go_enter Tryz.func162, Tryz.ntmps162
    go_wp2
    go_ret
    exact ⟨by rw [H.out]; rfl, more (Below.refl _ _) _⟩
  · have H := Lib.hid (formE_yes (e := e) (f := f) (by omega))
    by_cases h5 : e + f < 63
    all_goals
      go_enter Tryz.func162, Tryz.ntmps162
      go_wp2
      go_ret
      exact ⟨by rw [H.out]; rfl, more (Below.refl _ _) _⟩

set_option maxHeartbeats 1000000 in
theorem rfBits_form (e f : Int) (neg : Bool) (ao : Option Addr) (n c : Nat) (x : Int) (xs : List Nat) (w : World) (h : Sl w ao n c xs) (h0 : formE e f ≠ 0) :
    Calls Tryz.prog 260 #[.agg #[.int .i64 e, .int .i64 f], .agg #[.bool neg, .slice ao n c, .int .i64 x]] w fun en w' => en = .returned (.tuple #[.int .u64 0, .bool false, .int .i64 (formE e f)]) ∧ Below w.heap.size w w' := by
  have h0b : (formE e f == 0) = false := by simp [h0]
  have h0c : (formE e f != 0) = true := by simp [h0]
  clear h0
  go_enter Tryz.func260, Tryz.ntmps260
  go_wp2_with (first
    | (go_at_call 162; refine (may0_any e f _).mono ?_; rintro en w1 ⟨rfl, hb1⟩; have hc1 := (bcell hb1).1; have c0 : w1.cell? ⟨w.heap.size, 0, none⟩ = some (.int .i64 e) := (hc1 _ _ (by simp <;> omega)).trans (boxA _ _ _ _ _); have c1 : w1.cell? ⟨w.heap.size, 1, none⟩ = some (.int .i64 f) := (hc1 _ _ (by simp <;> omega)).trans (boxA _ _ _ _ _); have c2 : w1.cell? ⟨w.heap.size + 1, 0, none⟩ = some (.bool neg) := (hc1 _ _ (by simp <;> omega)).trans (boxB _ _ _ _ _); have c3 : w1.cell? ⟨w.heap.size + 1, 1, none⟩ = some (.slice ao n c) := (hc1 _ _ (by simp <;> omega)).trans (boxB _ _ _ _ _); have c4 : w1.cell? ⟨w.heap.size + 1, 2, none⟩ = some (.int .i64 x) := (hc1 _ _ (by simp <;> omega)).trans (boxB _ _ _ _ _); have hW := next (more (more (Below.refl _ _) _) _) hb1; have S1 := ((h.alloc _).alloc _).below hb1; clear hc1))
  go_ret3
  exact ⟨rfl, hW⟩

set_option maxHeartbeats 1000000 in
theorem rfBits_dy (e f : Nat) (he1 : 2 ≤ e) (he : e ≤ 11) (hf1 : 1 ≤ f) (hf : f ≤ 52) (neg : Bool) (ao : Option Addr) (n c : Nat) (x : Int) (xs : List Nat) (w : World) (h : Sl w ao n c xs) (h1 : dchk neg xs x ≠ 0) :
    Calls Tryz.prog 260 #[.agg #[.int .i64 e, .int .i64 f], .agg #[.bool neg, .slice ao n c, .int .i64 x]] w fun en w' => en = .returned (.tuple #[.int .u64 0, .bool false, .int .i64 (dchk neg xs x)]) ∧ Below w.heap.size w w' := by
  have hok : formE (e : Int) (f : Int) = 0 := formE_yes (by omega)
  have hokb : (formE (e : Int) (f : Int) == 0) = true := by simp [hok]
  clear hok
  have h1c : (dchk neg xs x != 0) = true := by simp [h1]
  clear h1
  go_enter Tryz.func260, Tryz.ntmps260
  go_wp2_with (first
    | (go_at_call 162; refine (may0_any (e : Int) (f : Int) _).mono ?_; rintro en w1 ⟨rfl, hb1⟩; have hc1 := (bcell hb1).1; have c0 : w1.cell? ⟨w.heap.size, 0, none⟩ = some (.int .i64 (e : Int)) := (hc1 _ _ (by simp <;> omega)).trans (boxA _ _ _ _ _); have c1 : w1.cell? ⟨w.heap.size, 1, none⟩ = some (.int .i64 (f : Int)) := (hc1 _ _ (by simp <;> omega)).trans (boxA _ _ _ _ _); have c2 : w1.cell? ⟨w.heap.size + 1, 0, none⟩ = some (.bool neg) := (hc1 _ _ (by simp <;> omega)).trans (boxB _ _ _ _ _); have c3 : w1.cell? ⟨w.heap.size + 1, 1, none⟩ = some (.slice ao n c) := (hc1 _ _ (by simp <;> omega)).trans (boxB _ _ _ _ _); have c4 : w1.cell? ⟨w.heap.size + 1, 2, none⟩ = some (.int .i64 x) := (hc1 _ _ (by simp <;> omega)).trans (boxB _ _ _ _ _); have hW := next (more (more (Below.refl _ _) _) _) hb1; have S1 := ((h.alloc _).alloc _).below hb1; clear hc1)
    | (go_at_call 315; refine (refDyCheck_any neg ao n c x xs _ S1).mono ?_; rintro en w2 ⟨rfl, hb2⟩; replace c0 := cellStay c0 hb2; replace c1 := cellStay c1 hb2; replace c2 := cellStay c2 hb2; replace c3 := cellStay c3 hb2; replace c4 := cellStay c4 hb2; replace hW := next hW hb2; replace S1 := S1.below hb2))
  go_ret3
  exact ⟨rfl, hW⟩

set_option maxHeartbeats 1000000 in
theorem rfBits_none (e f : Nat) (he1 : 2 ≤ e) (he : e ≤ 11) (hf1 : 1 ≤ f) (hf : f ≤ 52) (neg : Bool) (ao : Option Addr) (n c : Nat) (x : Int) (xs : List Nat) (w : World) (h : Sl w ao n c xs) (h1 : dchk neg xs x = 0) (hn : noneB n = true) :
    Calls Tryz.prog 260 #[.agg #[.int .i64 e, .int .i64 f], .agg #[.bool neg, .slice ao n c, .int .i64 x]] w fun en w' => en = .returned (.tuple #[.int .u64 0, .bool true, .int .i64 0]) ∧ Below w.heap.size w w' := by
  have hok : formE (e : Int) (f : Int) = 0 := formE_yes (by omega)
  have hokb : (formE (e : Int) (f : Int) == 0) = true := by simp [hok]
  clear hok
  have h1c : (dchk neg xs x != 0) = false := by simp [h1]
  clear h1
  go_enter Tryz.func260, Tryz.ntmps260
  go_wp2_with (first
    | (go_at_call 162; refine (may0_any (e : Int) (f : Int) _).mono ?_; rintro en w1 ⟨rfl, hb1⟩; have hc1 := (bcell hb1).1; have c0 : w1.cell? ⟨w.heap.size, 0, none⟩ = some (.int .i64 (e : Int)) := (hc1 _ _ (by simp <;> omega)).trans (boxA _ _ _ _ _); have c1 : w1.cell? ⟨w.heap.size, 1, none⟩ = some (.int .i64 (f : Int)) := (hc1 _ _ (by simp <;> omega)).trans (boxA _ _ _ _ _); have c2 : w1.cell? ⟨w.heap.size + 1, 0, none⟩ = some (.bool neg) := (hc1 _ _ (by simp <;> omega)).trans (boxB _ _ _ _ _); have c3 : w1.cell? ⟨w.heap.size + 1, 1, none⟩ = some (.slice ao n c) := (hc1 _ _ (by simp <;> omega)).trans (boxB _ _ _ _ _); have c4 : w1.cell? ⟨w.heap.size + 1, 2, none⟩ = some (.int .i64 x) := (hc1 _ _ (by simp <;> omega)).trans (boxB _ _ _ _ _); have hW := next (more (more (Below.refl _ _) _) _) hb1; have S1 := ((h.alloc _).alloc _).below hb1; clear hc1)
    | (go_at_call 315; refine (refDyCheck_any neg ao n c x xs _ S1).mono ?_; rintro en w2 ⟨rfl, hb2⟩; replace c0 := cellStay c0 hb2; replace c1 := cellStay c1 hb2; replace c2 := cellStay c2 hb2; replace c3 := cellStay c3 hb2; replace c4 := cellStay c4 hb2; replace hW := next hW hb2; replace S1 := S1.below hb2)
    | (go_at_call 248; refine (refNone_any ao n c _).mono ?_; rintro en w3 ⟨rfl, hb3⟩; replace c0 := cellStay c0 hb3; replace c1 := cellStay c1 hb3; replace c2 := cellStay c2 hb3; replace c3 := cellStay c3 hb3; replace c4 := cellStay c4 hb3; replace hW := next hW hb3; replace S1 := S1.below hb3))
  go_ret3
  exact ⟨rfl, hW⟩

set_option maxRecDepth 100000 in
set_option maxHeartbeats 2000000 in
theorem rfBits_big_norm (e f : Nat) (he1 : 2 ≤ e) (he : e ≤ 11) (hf1 : 1 ≤ f) (hf : f ≤ 52) (neg : Bool) (ao : Option Addr) (n c : Nat) (x : Int) (xs : List Nat) (w : World) (h : Sl w ao n c xs) (h1 : dchk neg xs x = 0) (hn : noneB n = false) (s m : Nat) (hs : bitsN xs = (s : Int)) (hsl : s ≤ 524288) (_hm : lowN xs = m) (hx1 : -1073741824 ≤ x) (hx2 : x ≤ 1073741824) (hA : f + 1 < s) (hB : 1 ≤ x + s - 1 + biasN e) :
    Calls Tryz.prog 260 #[.agg #[.int .i64 e, .int .i64 f], .agg #[.bool neg, .slice ao n c, .int .i64 x]] w fun en w' => en = .returned (.tuple #[.int .u64 0, .bool false, .int .i64 0]) ∧ Below w.heap.size w w' := by
  have hok : formE (e : Int) (f : Int) = 0 := formE_yes (by omega)
  have hokb : (formE (e : Int) (f : Int) == 0) = true := by simp [hok]
  clear hok
  have h1c : (dchk neg xs x != 0) = false := by simp [h1]
  have hble := biasN_le he
  have hbpos := biasN_pos he1
  have hpwe := pw_wrap he
  have htwo := biasN_two he1
  have hple : pw e ≤ 2048 := by omega
  have h2b : pw e = 2 * biasN e + 2 := by omega
  have H2b := Lib.hid h2b
  have h2a : pw e ≤ 2 * biasN e + 2 := by omega
  have h2c : 2 * biasN e + 2 ≤ pw e := by omega
  clear h1 htwo h2b
  have hAd : decide ((f : Int) + 1 < s) = true := by simp; omega
  have hNd : decide (x + (s : Int) - 1 - (f : Int) < 1 - (biasN e : Int) - (f : Int)) = false := by simp; omega
  have hw0 : IntKind.i64.wrap ((f : Int) + 1) = (f : Int) + 1 := IntWalk.i64_in _ (by omega)
  have hw1 : IntKind.i64.wrap (1 - (biasN e : Int)) = 1 - (biasN e : Int) := IntWalk.i64_in _ (by omega)
  have hw2 : IntKind.i64.wrap (1 - (biasN e : Int) - (f : Int)) = 1 - (biasN e : Int) - (f : Int) := IntWalk.i64_in _ (by omega)
  go_enter Tryz.func260, Tryz.ntmps260
  go_wp2_with (first
    | (go_at_call 162; refine (may0_any (e : Int) (f : Int) _).mono ?_; rintro en w1 ⟨rfl, hb1⟩; have hc1 := (bcell hb1).1; have c0 : w1.cell? ⟨w.heap.size, 0, none⟩ = some (.int .i64 (e : Int)) := (hc1 _ _ (by simp <;> omega)).trans (boxA _ _ _ _ _); have c1 : w1.cell? ⟨w.heap.size, 1, none⟩ = some (.int .i64 (f : Int)) := (hc1 _ _ (by simp <;> omega)).trans (boxA _ _ _ _ _); have c2 : w1.cell? ⟨w.heap.size + 1, 0, none⟩ = some (.bool neg) := (hc1 _ _ (by simp <;> omega)).trans (boxB _ _ _ _ _); have c3 : w1.cell? ⟨w.heap.size + 1, 1, none⟩ = some (.slice ao n c) := (hc1 _ _ (by simp <;> omega)).trans (boxB _ _ _ _ _); have c4 : w1.cell? ⟨w.heap.size + 1, 2, none⟩ = some (.int .i64 x) := (hc1 _ _ (by simp <;> omega)).trans (boxB _ _ _ _ _); have hW := next (more (more (Below.refl _ _) _) _) hb1; have S1 := ((h.alloc _).alloc _).below hb1; clear hc1)
    | (go_at_call 315; refine (refDyCheck_any neg ao n c x xs _ S1).mono ?_; rintro en w2 ⟨rfl, hb2⟩; replace c0 := cellStay c0 hb2; replace c1 := cellStay c1 hb2; replace c2 := cellStay c2 hb2; replace c3 := cellStay c3 hb2; replace c4 := cellStay c4 hb2; replace hW := next hW hb2; replace S1 := S1.below hb2)
    | (go_at_call 248; refine (refNone_any ao n c _).mono ?_; rintro en w3 ⟨rfl, hb3⟩; replace c0 := cellStay c0 hb3; replace c1 := cellStay c1 hb3; replace c2 := cellStay c2 hb3; replace c3 := cellStay c3 hb3; replace c4 := cellStay c4 hb3; replace hW := next hW hb3; replace S1 := S1.below hb3)
    | (go_at_call 257; refine (refBits_any ao n c xs _ S1).mono ?_; rintro en w4 ⟨rfl, hb4⟩; replace c0 := cellStay c0 hb4; replace c1 := cellStay c1 hb4; replace c2 := cellStay c2 hb4; replace c3 := cellStay c3 hb4; replace c4 := cellStay c4 hb4; replace hW := next hW hb4; replace S1 := S1.below hb4)
    | (go_at_call 326; refine (refLow_any ao n c xs _ S1).mono ?_; rintro en w5 ⟨rfl, hb5⟩; replace c0 := cellStay c0 hb5; replace c1 := cellStay c1 hb5; replace c2 := cellStay c2 hb5; replace c3 := cellStay c3 hb5; replace c4 := cellStay c4 hb5; replace hW := next hW hb5))
  go_region_held3 (fun w' => w'.cell? ⟨w.heap.size, 0, none⟩ = some (.int .i64 (e : Int)) ∧ w'.cell? ⟨w.heap.size, 1, none⟩ = some (.int .i64 (f : Int)) ∧ w'.cell? ⟨w.heap.size + 1, 0, none⟩ = some (.bool neg) ∧ w'.cell? ⟨w.heap.size + 1, 1, none⟩ = some (.slice ao n c) ∧ w'.cell? ⟨w.heap.size + 1, 2, none⟩ = some (.int .i64 x) ∧ Below w.heap.size w w' ∧ Sl w' ao n c xs)
    ((go_split_ands; refine ⟨?_, ?_, ?_, ?_, ?_, ?_, ?_⟩ <;> (first | assumption | exact Below.drew (by assumption) | exact Sl.drew (by assumption) | exact cellStay (by assumption) hbB | exact next (by assumption) hbB | exact Sl.below (by assumption) hbB | (go_keep; done))))
    (first | (go_at_call 258; (with_reducible refine (bias_any e f _ he1 he).mono ?_); rintro en wB ⟨rfl, hbB⟩))
  go_split_ands
  go_wp2
  go_quiet (fail)
  go_wp2
  all_goals go_ret3
  all_goals exact ⟨rfl, (by first | assumption | exact drewn (by assumption) _)⟩

set_option maxRecDepth 100000 in
set_option maxHeartbeats 2000000 in
theorem rfBits_big_sub (e f : Nat) (he1 : 2 ≤ e) (he : e ≤ 11) (hf1 : 1 ≤ f) (hf : f ≤ 52) (neg : Bool) (ao : Option Addr) (n c : Nat) (x : Int) (xs : List Nat) (w : World) (h : Sl w ao n c xs) (h1 : dchk neg xs x = 0) (hn : noneB n = false) (s m : Nat) (hs : bitsN xs = (s : Int)) (_hsl : s ≤ 524288) (_hm : lowN xs = m) (hx1 : -1073741824 ≤ x) (hx2 : x ≤ 1073741824) (hA : f + 1 < s) (hB : x + s - 1 + biasN e < 1) :
    Calls Tryz.prog 260 #[.agg #[.int .i64 e, .int .i64 f], .agg #[.bool neg, .slice ao n c, .int .i64 x]] w fun en w' => en = .returned (.tuple #[.int .u64 0, .bool false, .int .i64 0]) ∧ Below w.heap.size w w' := by
  have hok : formE (e : Int) (f : Int) = 0 := formE_yes (by omega)
  have hokb : (formE (e : Int) (f : Int) == 0) = true := by simp [hok]
  clear hok
  have h1c : (dchk neg xs x != 0) = false := by simp [h1]
  have hble := biasN_le he
  have hbpos := biasN_pos he1
  have hpwe := pw_wrap he
  have htwo := biasN_two he1
  have hple : pw e ≤ 2048 := by omega
  have h2b : pw e = 2 * biasN e + 2 := by omega
  have H2b := Lib.hid h2b
  have h2a : pw e ≤ 2 * biasN e + 2 := by omega
  have h2c : 2 * biasN e + 2 ≤ pw e := by omega
  clear h1 htwo h2b
  have hAd : decide ((f : Int) + 1 < s) = true := by simp; omega
  have hNd : decide (x + (s : Int) - 1 - (f : Int) < 1 - (biasN e : Int) - (f : Int)) = true := by simp; omega
  have hw0 : IntKind.i64.wrap ((f : Int) + 1) = (f : Int) + 1 := IntWalk.i64_in _ (by omega)
  have hw1 : IntKind.i64.wrap (1 - (biasN e : Int)) = 1 - (biasN e : Int) := IntWalk.i64_in _ (by omega)
  have hw2 : IntKind.i64.wrap (1 - (biasN e : Int) - (f : Int)) = 1 - (biasN e : Int) - (f : Int) := IntWalk.i64_in _ (by omega)
  go_enter Tryz.func260, Tryz.ntmps260
  go_wp2_with (first
    | (go_at_call 162; refine (may0_any (e : Int) (f : Int) _).mono ?_; rintro en w1 ⟨rfl, hb1⟩; have hc1 := (bcell hb1).1; have c0 : w1.cell? ⟨w.heap.size, 0, none⟩ = some (.int .i64 (e : Int)) := (hc1 _ _ (by simp <;> omega)).trans (boxA _ _ _ _ _); have c1 : w1.cell? ⟨w.heap.size, 1, none⟩ = some (.int .i64 (f : Int)) := (hc1 _ _ (by simp <;> omega)).trans (boxA _ _ _ _ _); have c2 : w1.cell? ⟨w.heap.size + 1, 0, none⟩ = some (.bool neg) := (hc1 _ _ (by simp <;> omega)).trans (boxB _ _ _ _ _); have c3 : w1.cell? ⟨w.heap.size + 1, 1, none⟩ = some (.slice ao n c) := (hc1 _ _ (by simp <;> omega)).trans (boxB _ _ _ _ _); have c4 : w1.cell? ⟨w.heap.size + 1, 2, none⟩ = some (.int .i64 x) := (hc1 _ _ (by simp <;> omega)).trans (boxB _ _ _ _ _); have hW := next (more (more (Below.refl _ _) _) _) hb1; have S1 := ((h.alloc _).alloc _).below hb1; clear hc1)
    | (go_at_call 315; refine (refDyCheck_any neg ao n c x xs _ S1).mono ?_; rintro en w2 ⟨rfl, hb2⟩; replace c0 := cellStay c0 hb2; replace c1 := cellStay c1 hb2; replace c2 := cellStay c2 hb2; replace c3 := cellStay c3 hb2; replace c4 := cellStay c4 hb2; replace hW := next hW hb2; replace S1 := S1.below hb2)
    | (go_at_call 248; refine (refNone_any ao n c _).mono ?_; rintro en w3 ⟨rfl, hb3⟩; replace c0 := cellStay c0 hb3; replace c1 := cellStay c1 hb3; replace c2 := cellStay c2 hb3; replace c3 := cellStay c3 hb3; replace c4 := cellStay c4 hb3; replace hW := next hW hb3; replace S1 := S1.below hb3)
    | (go_at_call 257; refine (refBits_any ao n c xs _ S1).mono ?_; rintro en w4 ⟨rfl, hb4⟩; replace c0 := cellStay c0 hb4; replace c1 := cellStay c1 hb4; replace c2 := cellStay c2 hb4; replace c3 := cellStay c3 hb4; replace c4 := cellStay c4 hb4; replace hW := next hW hb4; replace S1 := S1.below hb4)
    | (go_at_call 326; refine (refLow_any ao n c xs _ S1).mono ?_; rintro en w5 ⟨rfl, hb5⟩; replace c0 := cellStay c0 hb5; replace c1 := cellStay c1 hb5; replace c2 := cellStay c2 hb5; replace c3 := cellStay c3 hb5; replace c4 := cellStay c4 hb5; replace hW := next hW hb5))
  go_region_held3 (fun w' => w'.cell? ⟨w.heap.size, 0, none⟩ = some (.int .i64 (e : Int)) ∧ w'.cell? ⟨w.heap.size, 1, none⟩ = some (.int .i64 (f : Int)) ∧ w'.cell? ⟨w.heap.size + 1, 0, none⟩ = some (.bool neg) ∧ w'.cell? ⟨w.heap.size + 1, 1, none⟩ = some (.slice ao n c) ∧ w'.cell? ⟨w.heap.size + 1, 2, none⟩ = some (.int .i64 x) ∧ Below w.heap.size w w' ∧ Sl w' ao n c xs)
    ((go_split_ands; refine ⟨?_, ?_, ?_, ?_, ?_, ?_, ?_⟩ <;> (first | assumption | exact Below.drew (by assumption) | exact Sl.drew (by assumption) | exact cellStay (by assumption) hbB | exact next (by assumption) hbB | exact Sl.below (by assumption) hbB | (go_keep; done))))
    (first | (go_at_call 258; (with_reducible refine (bias_any e f _ he1 he).mono ?_); rintro en wB ⟨rfl, hbB⟩))
  go_split_ands
  go_wp2
  go_quiet (fail)
  go_wp2
  all_goals go_ret3
  all_goals exact ⟨rfl, (by first | assumption | exact drewn (by assumption) _)⟩

set_option maxRecDepth 100000 in
set_option maxHeartbeats 2000000 in
theorem rfBits_low (e f : Nat) (he1 : 2 ≤ e) (he : e ≤ 11) (hf1 : 1 ≤ f) (hf : f ≤ 52) (neg : Bool) (ao : Option Addr) (n c : Nat) (x : Int) (xs : List Nat) (w : World) (h : Sl w ao n c xs) (h1 : dchk neg xs x = 0) (hn : noneB n = false) (s m : Nat) (hs : bitsN xs = (s : Int)) (hsl : s ≤ 524288) (_hm : lowN xs = m) (hx1 : -1073741824 ≤ x) (hx2 : x ≤ 1073741824) (hA : s ≤ f + 1) (hB : x + s - 1 + biasN e < 1) (hC : x < 1 - (biasN e : Int) - f) :
    Calls Tryz.prog 260 #[.agg #[.int .i64 e, .int .i64 f], .agg #[.bool neg, .slice ao n c, .int .i64 x]] w fun en w' => en = .returned (.tuple #[.int .u64 0, .bool false, .int .i64 0]) ∧ Below w.heap.size w w' := by
  have hok : formE (e : Int) (f : Int) = 0 := formE_yes (by omega)
  have hokb : (formE (e : Int) (f : Int) == 0) = true := by simp [hok]
  clear hok
  have h1c : (dchk neg xs x != 0) = false := by simp [h1]
  have hble := biasN_le he
  have hbpos := biasN_pos he1
  have hpwe := pw_wrap he
  have htwo := biasN_two he1
  have hple : pw e ≤ 2048 := by omega
  have h2b : pw e = 2 * biasN e + 2 := by omega
  have H2b := Lib.hid h2b
  have h2a : pw e ≤ 2 * biasN e + 2 := by omega
  have h2c : 2 * biasN e + 2 ≤ pw e := by omega
  clear h1 htwo h2b
  have hAd : decide ((f : Int) + 1 < s) = false := by simp; omega
  have hNd : decide (x + (s : Int) - 1 - (f : Int) < 1 - (biasN e : Int) - (f : Int)) = true := by simp; omega
  have hBd : decide (x < 1 - (biasN e : Int) - f) = true := by simp; omega
  have hw0 : IntKind.i64.wrap ((f : Int) + 1) = (f : Int) + 1 := IntWalk.i64_in _ (by omega)
  have hw1 : IntKind.i64.wrap (1 - (biasN e : Int)) = 1 - (biasN e : Int) := IntWalk.i64_in _ (by omega)
  have hw2 : IntKind.i64.wrap (1 - (biasN e : Int) - (f : Int)) = 1 - (biasN e : Int) - (f : Int) := IntWalk.i64_in _ (by omega)
  go_enter Tryz.func260, Tryz.ntmps260
  go_wp2_with (first
    | (go_at_call 162; refine (may0_any (e : Int) (f : Int) _).mono ?_; rintro en w1 ⟨rfl, hb1⟩; have hc1 := (bcell hb1).1; have c0 : w1.cell? ⟨w.heap.size, 0, none⟩ = some (.int .i64 (e : Int)) := (hc1 _ _ (by simp <;> omega)).trans (boxA _ _ _ _ _); have c1 : w1.cell? ⟨w.heap.size, 1, none⟩ = some (.int .i64 (f : Int)) := (hc1 _ _ (by simp <;> omega)).trans (boxA _ _ _ _ _); have c2 : w1.cell? ⟨w.heap.size + 1, 0, none⟩ = some (.bool neg) := (hc1 _ _ (by simp <;> omega)).trans (boxB _ _ _ _ _); have c3 : w1.cell? ⟨w.heap.size + 1, 1, none⟩ = some (.slice ao n c) := (hc1 _ _ (by simp <;> omega)).trans (boxB _ _ _ _ _); have c4 : w1.cell? ⟨w.heap.size + 1, 2, none⟩ = some (.int .i64 x) := (hc1 _ _ (by simp <;> omega)).trans (boxB _ _ _ _ _); have hW := next (more (more (Below.refl _ _) _) _) hb1; have S1 := ((h.alloc _).alloc _).below hb1; clear hc1)
    | (go_at_call 315; refine (refDyCheck_any neg ao n c x xs _ S1).mono ?_; rintro en w2 ⟨rfl, hb2⟩; replace c0 := cellStay c0 hb2; replace c1 := cellStay c1 hb2; replace c2 := cellStay c2 hb2; replace c3 := cellStay c3 hb2; replace c4 := cellStay c4 hb2; replace hW := next hW hb2; replace S1 := S1.below hb2)
    | (go_at_call 248; refine (refNone_any ao n c _).mono ?_; rintro en w3 ⟨rfl, hb3⟩; replace c0 := cellStay c0 hb3; replace c1 := cellStay c1 hb3; replace c2 := cellStay c2 hb3; replace c3 := cellStay c3 hb3; replace c4 := cellStay c4 hb3; replace hW := next hW hb3; replace S1 := S1.below hb3)
    | (go_at_call 257; refine (refBits_any ao n c xs _ S1).mono ?_; rintro en w4 ⟨rfl, hb4⟩; replace c0 := cellStay c0 hb4; replace c1 := cellStay c1 hb4; replace c2 := cellStay c2 hb4; replace c3 := cellStay c3 hb4; replace c4 := cellStay c4 hb4; replace hW := next hW hb4; replace S1 := S1.below hb4)
    | (go_at_call 326; refine (refLow_any ao n c xs _ S1).mono ?_; rintro en w5 ⟨rfl, hb5⟩; replace c0 := cellStay c0 hb5; replace c1 := cellStay c1 hb5; replace c2 := cellStay c2 hb5; replace c3 := cellStay c3 hb5; replace c4 := cellStay c4 hb5; replace hW := next hW hb5))
  go_region_held3 (fun w' => w'.cell? ⟨w.heap.size, 0, none⟩ = some (.int .i64 (e : Int)) ∧ w'.cell? ⟨w.heap.size, 1, none⟩ = some (.int .i64 (f : Int)) ∧ w'.cell? ⟨w.heap.size + 1, 0, none⟩ = some (.bool neg) ∧ w'.cell? ⟨w.heap.size + 1, 1, none⟩ = some (.slice ao n c) ∧ w'.cell? ⟨w.heap.size + 1, 2, none⟩ = some (.int .i64 x) ∧ Below w.heap.size w w' ∧ Sl w' ao n c xs)
    ((go_split_ands; refine ⟨?_, ?_, ?_, ?_, ?_, ?_, ?_⟩ <;> (first | assumption | exact Below.drew (by assumption) | exact Sl.drew (by assumption) | exact cellStay (by assumption) hbB | exact next (by assumption) hbB | exact Sl.below (by assumption) hbB | (go_keep; done))))
    (first | (go_at_call 258; (with_reducible refine (bias_any e f _ he1 he).mono ?_); rintro en wB ⟨rfl, hbB⟩))
  go_split_ands
  go_wp2
  go_quiet (fail)
  go_wp2
  all_goals go_ret3
  all_goals exact ⟨rfl, (by first | assumption | exact drewn (by assumption) _)⟩

set_option maxRecDepth 100000 in
set_option maxHeartbeats 2000000 in
theorem rfBits_over (e f : Nat) (he1 : 2 ≤ e) (he : e ≤ 11) (hf1 : 1 ≤ f) (hf : f ≤ 52) (neg : Bool) (ao : Option Addr) (n c : Nat) (x : Int) (xs : List Nat) (w : World) (h : Sl w ao n c xs) (h1 : dchk neg xs x = 0) (hn : noneB n = false) (s m : Nat) (hs : bitsN xs = (s : Int)) (_hsl : s ≤ 524288) (_hm : lowN xs = m) (hx1 : -1073741824 ≤ x) (hx2 : x ≤ 1073741824) (hA : s ≤ f + 1) (hB : 1 ≤ x + s - 1 + biasN e) (hC : 2 * (biasN e : Int) < x + s - 1 + biasN e) :
    Calls Tryz.prog 260 #[.agg #[.int .i64 e, .int .i64 f], .agg #[.bool neg, .slice ao n c, .int .i64 x]] w fun en w' => en = .returned (.tuple #[.int .u64 0, .bool false, .int .i64 0]) ∧ Below w.heap.size w w' := by
  have hok : formE (e : Int) (f : Int) = 0 := formE_yes (by omega)
  have hokb : (formE (e : Int) (f : Int) == 0) = true := by simp [hok]
  clear hok
  have h1c : (dchk neg xs x != 0) = false := by simp [h1]
  have hble := biasN_le he
  have hbpos := biasN_pos he1
  have hpwe := pw_wrap he
  have htwo := biasN_two he1
  have hple : pw e ≤ 2048 := by omega
  have h2b : pw e = 2 * biasN e + 2 := by omega
  have H2b := Lib.hid h2b
  have h2a : pw e ≤ 2 * biasN e + 2 := by omega
  have h2c : 2 * biasN e + 2 ≤ pw e := by omega
  clear h1 htwo h2b
  have hAd : decide ((f : Int) + 1 < s) = false := by simp; omega
  have hNd : decide (x + (s : Int) - 1 - (f : Int) < 1 - (biasN e : Int) - (f : Int)) = false := by simp; omega
  have hBd : decide (x < x + s - 1 - f) = false := by simp; omega
  have hCd : decide ((pw e : Int) - 2 - (biasN e : Int) - (f : Int) < x + (s : Int) - 1 - (f : Int)) = true := by have := H2b.out; simp; omega
  have hw0 : IntKind.i64.wrap ((f : Int) + 1) = (f : Int) + 1 := IntWalk.i64_in _ (by omega)
  have hw3 : IntKind.i64.wrap ((pw e : Int) - 2) = (pw e : Int) - 2 := IntWalk.i64_in _ (by omega)
  have hw4 : IntKind.i64.wrap ((pw e : Int) - 2 - (biasN e : Int)) = (pw e : Int) - 2 - (biasN e : Int) := IntWalk.i64_in _ (by omega)
  have hw5 : IntKind.i64.wrap ((pw e : Int) - 2 - (biasN e : Int) - (f : Int)) = (pw e : Int) - 2 - (biasN e : Int) - (f : Int) := IntWalk.i64_in _ (by omega)
  have hw6 := pw_wrapI he
  have hwE : IntKind.u64.wrap (e : Int) = (e : Int) := IntWalk.u64_in _ (by omega)
  have hmE : min e 64 = e := Nat.min_eq_left (by omega)
  have hw1 : IntKind.i64.wrap (1 - (biasN e : Int)) = 1 - (biasN e : Int) := IntWalk.i64_in _ (by omega)
  have hw2 : IntKind.i64.wrap (1 - (biasN e : Int) - (f : Int)) = 1 - (biasN e : Int) - (f : Int) := IntWalk.i64_in _ (by omega)
  go_enter Tryz.func260, Tryz.ntmps260
  go_wp2_with (first
    | (go_at_call 162; refine (may0_any (e : Int) (f : Int) _).mono ?_; rintro en w1 ⟨rfl, hb1⟩; have hc1 := (bcell hb1).1; have c0 : w1.cell? ⟨w.heap.size, 0, none⟩ = some (.int .i64 (e : Int)) := (hc1 _ _ (by simp <;> omega)).trans (boxA _ _ _ _ _); have c1 : w1.cell? ⟨w.heap.size, 1, none⟩ = some (.int .i64 (f : Int)) := (hc1 _ _ (by simp <;> omega)).trans (boxA _ _ _ _ _); have c2 : w1.cell? ⟨w.heap.size + 1, 0, none⟩ = some (.bool neg) := (hc1 _ _ (by simp <;> omega)).trans (boxB _ _ _ _ _); have c3 : w1.cell? ⟨w.heap.size + 1, 1, none⟩ = some (.slice ao n c) := (hc1 _ _ (by simp <;> omega)).trans (boxB _ _ _ _ _); have c4 : w1.cell? ⟨w.heap.size + 1, 2, none⟩ = some (.int .i64 x) := (hc1 _ _ (by simp <;> omega)).trans (boxB _ _ _ _ _); have hW := next (more (more (Below.refl _ _) _) _) hb1; have S1 := ((h.alloc _).alloc _).below hb1; clear hc1)
    | (go_at_call 315; refine (refDyCheck_any neg ao n c x xs _ S1).mono ?_; rintro en w2 ⟨rfl, hb2⟩; replace c0 := cellStay c0 hb2; replace c1 := cellStay c1 hb2; replace c2 := cellStay c2 hb2; replace c3 := cellStay c3 hb2; replace c4 := cellStay c4 hb2; replace hW := next hW hb2; replace S1 := S1.below hb2)
    | (go_at_call 248; refine (refNone_any ao n c _).mono ?_; rintro en w3 ⟨rfl, hb3⟩; replace c0 := cellStay c0 hb3; replace c1 := cellStay c1 hb3; replace c2 := cellStay c2 hb3; replace c3 := cellStay c3 hb3; replace c4 := cellStay c4 hb3; replace hW := next hW hb3; replace S1 := S1.below hb3)
    | (go_at_call 257; refine (refBits_any ao n c xs _ S1).mono ?_; rintro en w4 ⟨rfl, hb4⟩; replace c0 := cellStay c0 hb4; replace c1 := cellStay c1 hb4; replace c2 := cellStay c2 hb4; replace c3 := cellStay c3 hb4; replace c4 := cellStay c4 hb4; replace hW := next hW hb4; replace S1 := S1.below hb4)
    | (go_at_call 326; refine (refLow_any ao n c xs _ S1).mono ?_; rintro en w5 ⟨rfl, hb5⟩; replace c0 := cellStay c0 hb5; replace c1 := cellStay c1 hb5; replace c2 := cellStay c2 hb5; replace c3 := cellStay c3 hb5; replace c4 := cellStay c4 hb5; replace hW := next hW hb5))
  go_region_held3 (fun w' => w'.cell? ⟨w.heap.size, 0, none⟩ = some (.int .i64 (e : Int)) ∧ w'.cell? ⟨w.heap.size, 1, none⟩ = some (.int .i64 (f : Int)) ∧ w'.cell? ⟨w.heap.size + 1, 0, none⟩ = some (.bool neg) ∧ w'.cell? ⟨w.heap.size + 1, 1, none⟩ = some (.slice ao n c) ∧ w'.cell? ⟨w.heap.size + 1, 2, none⟩ = some (.int .i64 x) ∧ Below w.heap.size w w' ∧ Sl w' ao n c xs)
    ((go_split_ands; refine ⟨?_, ?_, ?_, ?_, ?_, ?_, ?_⟩ <;> (first | assumption | exact Below.drew (by assumption) | exact Sl.drew (by assumption) | exact cellStay (by assumption) hbB | exact next (by assumption) hbB | exact Sl.below (by assumption) hbB | (go_keep; done))))
    (first | (go_at_call 258; (with_reducible refine (bias_any e f _ he1 he).mono ?_); rintro en wB ⟨rfl, hbB⟩))
  go_split_ands
  go_wp2
  go_region_held3 (fun w' => w'.cell? ⟨w.heap.size, 0, none⟩ = some (.int .i64 (e : Int)) ∧ w'.cell? ⟨w.heap.size, 1, none⟩ = some (.int .i64 (f : Int)) ∧ w'.cell? ⟨w.heap.size + 1, 0, none⟩ = some (.bool neg) ∧ w'.cell? ⟨w.heap.size + 1, 1, none⟩ = some (.slice ao n c) ∧ w'.cell? ⟨w.heap.size + 1, 2, none⟩ = some (.int .i64 x) ∧ Below w.heap.size w w' ∧ Sl w' ao n c xs)
    ((go_split_ands; refine ⟨?_, ?_, ?_, ?_, ?_, ?_, ?_⟩ <;> (first | assumption | exact Below.drew (by assumption) | exact Sl.drew (by assumption) | exact cellStay (by assumption) hbB | exact next (by assumption) hbB | exact Sl.below (by assumption) hbB | (go_keep; done))))
    (first | (go_at_call 258; (with_reducible refine (bias_any e f _ he1 he).mono ?_); rintro en wB ⟨rfl, hbB⟩))
  go_split_ands
  go_wp2
  all_goals go_ret3
  all_goals exact ⟨rfl, (by first | assumption | exact drewn (by assumption) _)⟩

end Go.Proofs.YtkifhlgmbckekaaGreatDoor

namespace Go.Proofs.YtkifhlgmbckekaaGreatDoor

open Go.RowKit Go.Lb

set_option maxRecDepth 100000 in
set_option maxHeartbeats 2000000 in
theorem rfBits_norm (e f : Nat) (he1 : 2 ≤ e) (he : e ≤ 11) (hf1 : 1 ≤ f) (hf : f ≤ 52) (neg : Bool) (ao : Option Addr) (n c : Nat) (x : Int) (xs : List Nat) (w : World) (h : Sl w ao n c xs) (h1 : dchk neg xs x = 0) (hn : noneB n = false) (s m : Nat) (hs : bitsN xs = (s : Int)) (hsl : s ≤ 524288) (hm : lowN xs = m) (hx1 : -1073741824 ≤ x) (hx2 : x ≤ 1073741824) (hA : s ≤ f + 1) (hB : 1 ≤ x + s - 1 + biasN e) (hC : ¬ 2 * (biasN e : Int) < x + s - 1 + biasN e) (hs1 : 1 ≤ s) (hlo : pw (s - 1) ≤ m) (hhi : m < pw s) :
    Calls Tryz.prog 260 #[.agg #[.int .i64 e, .int .i64 f], .agg #[.bool neg, .slice ao n c, .int .i64 x]] w fun en w' => en = .returned (.tuple #[.int .u64 (joinN e f neg (x + s - 1 + biasN e).toNat (m * pw (f + 1 - s) - pw f) : Int), .bool true, .int .i64 0]) ∧ Below w.heap.size w w' := by
  obtain ⟨q, r0, E, F, R, T, R2, F1, F2, F3, F4, F5, F6, F7, F8, F9, F10, F11, F12⟩ := norm_words (neg := neg) he1 he hf1 hf hx1 hx2 hA hB hC hs1 hlo hhi
  have G := And.intro F1 (And.intro F2 (And.intro F4 (And.intro F5 (And.intro F6 (And.intro F7 (And.intro F8 (And.intro F9 (And.intro F10 F11))))))))
  have HG := Lib.hid G
  have H12 := Lib.hid F12
  have H3 := Lib.hid F3
  clear hlo hhi G F1 F2 F3 F4 F5 F6 F7 F8 F9 F10 F11 F12
  have hok : formE (e : Int) (f : Int) = 0 := formE_yes (by omega)
  have hokb : (formE (e : Int) (f : Int) == 0) = true := by simp [hok]
  clear hok
  have h1c : (dchk neg xs x != 0) = false := by simp [h1]
  have hble := biasN_le he
  have hbpos := biasN_pos he1
  have hpwe := pw_wrap he
  have htwo := biasN_two he1
  have hple : pw e ≤ 2048 := by omega
  have h2b : pw e = 2 * biasN e + 2 := by omega
  have H2b := Lib.hid h2b
  have h2a : pw e ≤ 2 * biasN e + 2 := by omega
  have h2c : 2 * biasN e + 2 ≤ pw e := by omega
  clear h1 htwo h2b
  have hAd : decide ((f : Int) + 1 < s) = false := by simp; omega
  have hNd : decide (x + (s : Int) - 1 - (f : Int) < 1 - (biasN e : Int) - (f : Int)) = false := by simp; omega
  have hBd : decide (x < x + s - 1 - f) = false := by simp; omega
  have hw0 : IntKind.i64.wrap ((f : Int) + 1) = (f : Int) + 1 := IntWalk.i64_in _ (by omega)
  have hw3 : IntKind.i64.wrap ((pw e : Int) - 2) = (pw e : Int) - 2 := IntWalk.i64_in _ (by omega)
  have hw4 : IntKind.i64.wrap ((pw e : Int) - 2 - (biasN e : Int)) = (pw e : Int) - 2 - (biasN e : Int) := IntWalk.i64_in _ (by omega)
  have hw5 : IntKind.i64.wrap ((pw e : Int) - 2 - (biasN e : Int) - (f : Int)) = (pw e : Int) - 2 - (biasN e : Int) - (f : Int) := IntWalk.i64_in _ (by omega)
  have hw6 := pw_wrapI he
  have hwE : IntKind.u64.wrap (e : Int) = (e : Int) := IntWalk.u64_in _ (by omega)
  have hmE : min e 64 = e := Nat.min_eq_left (by omega)
  have hwF : IntKind.u64.wrap (f : Int) = (f : Int) := IntWalk.u64_in _ (by omega)
  have hmF : min f 64 = f := Nat.min_eq_left (by omega)
  obtain ⟨F1, F2, F4, F5, F6, F7, F8, F9, F10, F11⟩ := HG.out
  have F3 : (pw f : Int) ≤ (q : Int) := by have := H3.out; exact Int.ofNat_le.2 this
  have hw1 : IntKind.i64.wrap (1 - (biasN e : Int)) = 1 - (biasN e : Int) := IntWalk.i64_in _ (by omega)
  have hw2 : IntKind.i64.wrap (1 - (biasN e : Int) - (f : Int)) = 1 - (biasN e : Int) - (f : Int) := IntWalk.i64_in _ (by omega)
  go_enter Tryz.func260, Tryz.ntmps260
  go_wp2_with (first
    | (go_at_call 162; refine (may0_any (e : Int) (f : Int) _).mono ?_; rintro en w1 ⟨rfl, hb1⟩; have hc1 := (bcell hb1).1; have c0 : w1.cell? ⟨w.heap.size, 0, none⟩ = some (.int .i64 (e : Int)) := (hc1 _ _ (by simp <;> omega)).trans (boxA _ _ _ _ _); have c1 : w1.cell? ⟨w.heap.size, 1, none⟩ = some (.int .i64 (f : Int)) := (hc1 _ _ (by simp <;> omega)).trans (boxA _ _ _ _ _); have c2 : w1.cell? ⟨w.heap.size + 1, 0, none⟩ = some (.bool neg) := (hc1 _ _ (by simp <;> omega)).trans (boxB _ _ _ _ _); have c3 : w1.cell? ⟨w.heap.size + 1, 1, none⟩ = some (.slice ao n c) := (hc1 _ _ (by simp <;> omega)).trans (boxB _ _ _ _ _); have c4 : w1.cell? ⟨w.heap.size + 1, 2, none⟩ = some (.int .i64 x) := (hc1 _ _ (by simp <;> omega)).trans (boxB _ _ _ _ _); have hW := next (more (more (Below.refl _ _) _) _) hb1; have S1 := ((h.alloc _).alloc _).below hb1; clear hc1)
    | (go_at_call 315; refine (refDyCheck_any neg ao n c x xs _ S1).mono ?_; rintro en w2 ⟨rfl, hb2⟩; replace c0 := cellStay c0 hb2; replace c1 := cellStay c1 hb2; replace c2 := cellStay c2 hb2; replace c3 := cellStay c3 hb2; replace c4 := cellStay c4 hb2; replace hW := next hW hb2; replace S1 := S1.below hb2)
    | (go_at_call 248; refine (refNone_any ao n c _).mono ?_; rintro en w3 ⟨rfl, hb3⟩; replace c0 := cellStay c0 hb3; replace c1 := cellStay c1 hb3; replace c2 := cellStay c2 hb3; replace c3 := cellStay c3 hb3; replace c4 := cellStay c4 hb3; replace hW := next hW hb3; replace S1 := S1.below hb3)
    | (go_at_call 257; refine (refBits_any ao n c xs _ S1).mono ?_; rintro en w4 ⟨rfl, hb4⟩; replace c0 := cellStay c0 hb4; replace c1 := cellStay c1 hb4; replace c2 := cellStay c2 hb4; replace c3 := cellStay c3 hb4; replace c4 := cellStay c4 hb4; replace hW := next hW hb4; replace S1 := S1.below hb4)
    | (go_at_call 326; refine (refLow_any ao n c xs _ S1).mono ?_; rintro en w5 ⟨rfl, hb5⟩; replace c0 := cellStay c0 hb5; replace c1 := cellStay c1 hb5; replace c2 := cellStay c2 hb5; replace c3 := cellStay c3 hb5; replace c4 := cellStay c4 hb5; replace hW := next hW hb5))
  go_region_held3 (fun w' => w'.cell? ⟨w.heap.size, 0, none⟩ = some (.int .i64 (e : Int)) ∧ w'.cell? ⟨w.heap.size, 1, none⟩ = some (.int .i64 (f : Int)) ∧ w'.cell? ⟨w.heap.size + 1, 0, none⟩ = some (.bool neg) ∧ w'.cell? ⟨w.heap.size + 1, 1, none⟩ = some (.slice ao n c) ∧ w'.cell? ⟨w.heap.size + 1, 2, none⟩ = some (.int .i64 x) ∧ Below w.heap.size w w' ∧ Sl w' ao n c xs)
    ((go_split_ands; refine ⟨?_, ?_, ?_, ?_, ?_, ?_, ?_⟩ <;> (first | assumption | exact Below.drew (by assumption) | exact Sl.drew (by assumption) | exact cellStay (by assumption) hbB | exact next (by assumption) hbB | exact Sl.below (by assumption) hbB | (go_keep; done))))
    (first | (go_at_call 258; (with_reducible refine (bias_any e f _ he1 he).mono ?_); rintro en wB ⟨rfl, hbB⟩))
  go_split_ands
  go_wp2
  go_region_held3 (fun w' => w'.cell? ⟨w.heap.size, 0, none⟩ = some (.int .i64 (e : Int)) ∧ w'.cell? ⟨w.heap.size, 1, none⟩ = some (.int .i64 (f : Int)) ∧ w'.cell? ⟨w.heap.size + 1, 0, none⟩ = some (.bool neg) ∧ w'.cell? ⟨w.heap.size + 1, 1, none⟩ = some (.slice ao n c) ∧ w'.cell? ⟨w.heap.size + 1, 2, none⟩ = some (.int .i64 x) ∧ Below w.heap.size w w' ∧ Sl w' ao n c xs)
    ((go_split_ands; refine ⟨?_, ?_, ?_, ?_, ?_, ?_, ?_⟩ <;> (first | assumption | exact Below.drew (by assumption) | exact Sl.drew (by assumption) | exact cellStay (by assumption) hbB | exact next (by assumption) hbB | exact Sl.below (by assumption) hbB | (go_keep; done))))
    (first | (go_at_call 258; (with_reducible refine (bias_any e f _ he1 he).mono ?_); rintro en wB ⟨rfl, hbB⟩))
  go_split_ands
  go_wp2_with (go_at_call 326; refine (refLow_any ao n c xs _ (by assumption)).mono ?_; rintro en w5 ⟨rfl, hb5⟩; have d0 : w5.cell? ⟨w.heap.size, 0, none⟩ = some (.int .i64 (e : Int)) := cellStay (by assumption) hb5; have d1 : w5.cell? ⟨w.heap.size, 1, none⟩ = some (.int .i64 (f : Int)) := cellStay (by assumption) hb5; have d2 : w5.cell? ⟨w.heap.size + 1, 0, none⟩ = some (.bool neg) := cellStay (by assumption) hb5; have d3 : w5.cell? ⟨w.heap.size + 1, 1, none⟩ = some (.slice ao n c) := cellStay (by assumption) hb5; have d4 : w5.cell? ⟨w.heap.size + 1, 2, none⟩ = some (.int .i64 x) := cellStay (by assumption) hb5; have hV : Below w.heap.size w w5 := next (by assumption) hb5; have S5 : Sl w5 ao n c xs := Sl.below (by assumption) hb5)
  go_region_held3 (fun w' => w'.cell? ⟨w.heap.size, 0, none⟩ = some (.int .i64 (e : Int)) ∧ w'.cell? ⟨w.heap.size, 1, none⟩ = some (.int .i64 (f : Int)) ∧ w'.cell? ⟨w.heap.size + 1, 0, none⟩ = some (.bool neg) ∧ w'.cell? ⟨w.heap.size + 1, 1, none⟩ = some (.slice ao n c) ∧ w'.cell? ⟨w.heap.size + 1, 2, none⟩ = some (.int .i64 x) ∧ Below w.heap.size w w' ∧ Sl w' ao n c xs)
    ((go_split_ands; refine ⟨?_, ?_, ?_, ?_, ?_, ?_, ?_⟩ <;> (first | assumption | exact Below.drew (by assumption) | exact Sl.drew (by assumption) | exact cellStay (by assumption) hbB | exact next (by assumption) hbB | exact Sl.below (by assumption) hbB | (go_keep; done))))
    (first | (go_at_call 258; (with_reducible refine (bias_any e f _ he1 he).mono ?_); rintro en wB ⟨rfl, hbB⟩))
  go_split_ands
  cases neg
  · go_wp2
    go_ret3
    exact ⟨by rw [H12.out]; rfl, (by first | assumption | exact drewn (by assumption) _)⟩
  · go_wp2
    go_ret3
    exact ⟨by rw [H12.out]; rfl, (by first | assumption | exact drewn (by assumption) _)⟩

set_option maxRecDepth 100000 in
set_option maxHeartbeats 2000000 in
theorem rfBits_sub (e f : Nat) (he1 : 2 ≤ e) (he : e ≤ 11) (hf1 : 1 ≤ f) (hf : f ≤ 52) (neg : Bool) (ao : Option Addr) (n c : Nat) (x : Int) (xs : List Nat) (w : World) (h : Sl w ao n c xs) (h1 : dchk neg xs x = 0) (hn : noneB n = false) (s m : Nat) (hs : bitsN xs = (s : Int)) (hsl : s ≤ 524288) (hm : lowN xs = m) (hx1 : -1073741824 ≤ x) (hx2 : x ≤ 1073741824) (hA : s ≤ f + 1) (hB : x + s - 1 + biasN e < 1) (hC : ¬ x < 1 - (biasN e : Int) - f) (hhi : m < pw s) :
    Calls Tryz.prog 260 #[.agg #[.int .i64 e, .int .i64 f], .agg #[.bool neg, .slice ao n c, .int .i64 x]] w fun en w' => en = .returned (.tuple #[.int .u64 (joinN e f neg 0 (m * pw (x - (1 - (biasN e : Int) - f)).toNat) : Int), .bool true, .int .i64 0]) ∧ Below w.heap.size w w' := by
  obtain ⟨q, T, R2, F1, F2, F3, F10, F11, F12⟩ := sub_words (neg := neg) he1 he hf1 hf hB hC hhi
  have G := And.intro F1 (And.intro F2 (And.intro F10 F11))
  have HG := Lib.hid G
  have H12 := Lib.hid F12
  have H3 := Lib.hid F3
  clear hhi G F1 F2 F3 F10 F11 F12
  have hok : formE (e : Int) (f : Int) = 0 := formE_yes (by omega)
  have hokb : (formE (e : Int) (f : Int) == 0) = true := by simp [hok]
  clear hok
  have h1c : (dchk neg xs x != 0) = false := by simp [h1]
  have hble := biasN_le he
  have hbpos := biasN_pos he1
  have hpwe := pw_wrap he
  have htwo := biasN_two he1
  have hple : pw e ≤ 2048 := by omega
  have h2b : pw e = 2 * biasN e + 2 := by omega
  have H2b := Lib.hid h2b
  have h2a : pw e ≤ 2 * biasN e + 2 := by omega
  have h2c : 2 * biasN e + 2 ≤ pw e := by omega
  clear h1 htwo h2b
  have hAd : decide ((f : Int) + 1 < s) = false := by simp; omega
  have hNd : decide (x + (s : Int) - 1 - (f : Int) < 1 - (biasN e : Int) - (f : Int)) = true := by simp; omega
  have hBd : decide (x < 1 - (biasN e : Int) - f) = false := by simp; omega
  have hw0 : IntKind.i64.wrap ((f : Int) + 1) = (f : Int) + 1 := IntWalk.i64_in _ (by omega)
  have hw3 : IntKind.i64.wrap ((pw e : Int) - 2) = (pw e : Int) - 2 := IntWalk.i64_in _ (by omega)
  have hw4 : IntKind.i64.wrap ((pw e : Int) - 2 - (biasN e : Int)) = (pw e : Int) - 2 - (biasN e : Int) := IntWalk.i64_in _ (by omega)
  have hw5 : IntKind.i64.wrap ((pw e : Int) - 2 - (biasN e : Int) - (f : Int)) = (pw e : Int) - 2 - (biasN e : Int) - (f : Int) := IntWalk.i64_in _ (by omega)
  have hw6 := pw_wrapI he
  have hwE : IntKind.u64.wrap (e : Int) = (e : Int) := IntWalk.u64_in _ (by omega)
  have hmE : min e 64 = e := Nat.min_eq_left (by omega)
  have hwF : IntKind.u64.wrap (f : Int) = (f : Int) := IntWalk.u64_in _ (by omega)
  have hmF : min f 64 = f := Nat.min_eq_left (by omega)
  obtain ⟨F1, F2, F10, F11⟩ := HG.out
  have F3 : (q : Int) < (pw f : Int) := by have := H3.out; exact Int.ofNat_lt.2 this
  have hw1 : IntKind.i64.wrap (1 - (biasN e : Int)) = 1 - (biasN e : Int) := IntWalk.i64_in _ (by omega)
  have hw2 : IntKind.i64.wrap (1 - (biasN e : Int) - (f : Int)) = 1 - (biasN e : Int) - (f : Int) := IntWalk.i64_in _ (by omega)
  go_enter Tryz.func260, Tryz.ntmps260
  go_wp2_with (first
    | (go_at_call 162; refine (may0_any (e : Int) (f : Int) _).mono ?_; rintro en w1 ⟨rfl, hb1⟩; have hc1 := (bcell hb1).1; have c0 : w1.cell? ⟨w.heap.size, 0, none⟩ = some (.int .i64 (e : Int)) := (hc1 _ _ (by simp <;> omega)).trans (boxA _ _ _ _ _); have c1 : w1.cell? ⟨w.heap.size, 1, none⟩ = some (.int .i64 (f : Int)) := (hc1 _ _ (by simp <;> omega)).trans (boxA _ _ _ _ _); have c2 : w1.cell? ⟨w.heap.size + 1, 0, none⟩ = some (.bool neg) := (hc1 _ _ (by simp <;> omega)).trans (boxB _ _ _ _ _); have c3 : w1.cell? ⟨w.heap.size + 1, 1, none⟩ = some (.slice ao n c) := (hc1 _ _ (by simp <;> omega)).trans (boxB _ _ _ _ _); have c4 : w1.cell? ⟨w.heap.size + 1, 2, none⟩ = some (.int .i64 x) := (hc1 _ _ (by simp <;> omega)).trans (boxB _ _ _ _ _); have hW := next (more (more (Below.refl _ _) _) _) hb1; have S1 := ((h.alloc _).alloc _).below hb1; clear hc1)
    | (go_at_call 315; refine (refDyCheck_any neg ao n c x xs _ S1).mono ?_; rintro en w2 ⟨rfl, hb2⟩; replace c0 := cellStay c0 hb2; replace c1 := cellStay c1 hb2; replace c2 := cellStay c2 hb2; replace c3 := cellStay c3 hb2; replace c4 := cellStay c4 hb2; replace hW := next hW hb2; replace S1 := S1.below hb2)
    | (go_at_call 248; refine (refNone_any ao n c _).mono ?_; rintro en w3 ⟨rfl, hb3⟩; replace c0 := cellStay c0 hb3; replace c1 := cellStay c1 hb3; replace c2 := cellStay c2 hb3; replace c3 := cellStay c3 hb3; replace c4 := cellStay c4 hb3; replace hW := next hW hb3; replace S1 := S1.below hb3)
    | (go_at_call 257; refine (refBits_any ao n c xs _ S1).mono ?_; rintro en w4 ⟨rfl, hb4⟩; replace c0 := cellStay c0 hb4; replace c1 := cellStay c1 hb4; replace c2 := cellStay c2 hb4; replace c3 := cellStay c3 hb4; replace c4 := cellStay c4 hb4; replace hW := next hW hb4; replace S1 := S1.below hb4)
    | (go_at_call 326; refine (refLow_any ao n c xs _ S1).mono ?_; rintro en w5 ⟨rfl, hb5⟩; replace c0 := cellStay c0 hb5; replace c1 := cellStay c1 hb5; replace c2 := cellStay c2 hb5; replace c3 := cellStay c3 hb5; replace c4 := cellStay c4 hb5; replace hW := next hW hb5))
  go_region_held3 (fun w' => w'.cell? ⟨w.heap.size, 0, none⟩ = some (.int .i64 (e : Int)) ∧ w'.cell? ⟨w.heap.size, 1, none⟩ = some (.int .i64 (f : Int)) ∧ w'.cell? ⟨w.heap.size + 1, 0, none⟩ = some (.bool neg) ∧ w'.cell? ⟨w.heap.size + 1, 1, none⟩ = some (.slice ao n c) ∧ w'.cell? ⟨w.heap.size + 1, 2, none⟩ = some (.int .i64 x) ∧ Below w.heap.size w w' ∧ Sl w' ao n c xs)
    ((go_split_ands; refine ⟨?_, ?_, ?_, ?_, ?_, ?_, ?_⟩ <;> (first | assumption | exact Below.drew (by assumption) | exact Sl.drew (by assumption) | exact cellStay (by assumption) hbB | exact next (by assumption) hbB | exact Sl.below (by assumption) hbB | (go_keep; done))))
    (first | (go_at_call 258; (with_reducible refine (bias_any e f _ he1 he).mono ?_); rintro en wB ⟨rfl, hbB⟩))
  go_split_ands
  go_wp2
  go_region_held3 (fun w' => w'.cell? ⟨w.heap.size, 0, none⟩ = some (.int .i64 (e : Int)) ∧ w'.cell? ⟨w.heap.size, 1, none⟩ = some (.int .i64 (f : Int)) ∧ w'.cell? ⟨w.heap.size + 1, 0, none⟩ = some (.bool neg) ∧ w'.cell? ⟨w.heap.size + 1, 1, none⟩ = some (.slice ao n c) ∧ w'.cell? ⟨w.heap.size + 1, 2, none⟩ = some (.int .i64 x) ∧ Below w.heap.size w w' ∧ Sl w' ao n c xs)
    ((go_split_ands; refine ⟨?_, ?_, ?_, ?_, ?_, ?_, ?_⟩ <;> (first | assumption | exact Below.drew (by assumption) | exact Sl.drew (by assumption) | exact cellStay (by assumption) hbB | exact next (by assumption) hbB | exact Sl.below (by assumption) hbB | (go_keep; done))))
    (first | (go_at_call 258; (with_reducible refine (bias_any e f _ he1 he).mono ?_); rintro en wB ⟨rfl, hbB⟩))
  go_split_ands
  go_wp2_with (go_at_call 326; refine (refLow_any ao n c xs _ (by assumption)).mono ?_; rintro en w5 ⟨rfl, hb5⟩; have d0 : w5.cell? ⟨w.heap.size, 0, none⟩ = some (.int .i64 (e : Int)) := cellStay (by assumption) hb5; have d1 : w5.cell? ⟨w.heap.size, 1, none⟩ = some (.int .i64 (f : Int)) := cellStay (by assumption) hb5; have d2 : w5.cell? ⟨w.heap.size + 1, 0, none⟩ = some (.bool neg) := cellStay (by assumption) hb5; have d3 : w5.cell? ⟨w.heap.size + 1, 1, none⟩ = some (.slice ao n c) := cellStay (by assumption) hb5; have d4 : w5.cell? ⟨w.heap.size + 1, 2, none⟩ = some (.int .i64 x) := cellStay (by assumption) hb5; have hV : Below w.heap.size w w5 := next (by assumption) hb5; have S5 : Sl w5 ao n c xs := Sl.below (by assumption) hb5)
  all_goals go_ret3
  · have hn1 : neg = true := by assumption
    exact ⟨by rw [H12.out, if_pos hn1]; rfl, hV⟩
  · have hn1 : ¬ neg = true := by simp_all
    exact ⟨by rw [H12.out, if_neg hn1]; rfl, hV⟩

end Go.Proofs.YtkifhlgmbckekaaGreatDoor

namespace Go.Proofs.YtkifhlgmbckekaaGreatDoor

open Go.RowKit Go.Lb

theorem rfBits_any (e f : Int) (neg : Bool) (ao : Option Addr) (n c : Nat) (x : Int) (xs : List Nat) (w : World) (h : Sl w ao n c xs) :
    Calls Tryz.prog 260 #[.agg #[.int .i64 e, .int .i64 f], .agg #[.bool neg, .slice ao n c, .int .i64 x]] w fun en w' => en = .returned (.tuple #[.int .u64 (bitsV e f neg xs x : Int), .bool (bitsIs e f neg xs x), .int .i64 (bitsE e f neg xs x)]) ∧ Below w.heap.size w w' := by
  refine bits_all e f neg n x xs h.len h.ok (fun v b r => Calls Tryz.prog 260 #[.agg #[.int .i64 e, .int .i64 f], .agg #[.bool neg, .slice ao n c, .int .i64 x]] w fun en w' => en = .returned (.tuple #[.int .u64 (v : Int), .bool b, .int .i64 r]) ∧ Below w.heap.size w w') ?_ ?_ ?_ ?_
  · exact fun h0 => rfBits_form e f neg ao n c x xs w h h0
  · rintro e f rfl rfl a1 a2 a3 a4 h1; exact rfBits_dy e f a1 a2 a3 a4 neg ao n c x xs w h h1
  · rintro e f rfl rfl a1 a2 a3 a4 h1 hn; exact rfBits_none e f a1 a2 a3 a4 neg ao n c x xs w h h1 hn
  · rintro e f rfl rfl a1 a2 a3 a4 h1 hn hs hsl x1 x2 hl
    exact bitsP_all e f neg (szN xs) (lowN xs) x (fun v b => Calls Tryz.prog 260 #[.agg #[.int .i64 e, .int .i64 f], .agg #[.bool neg, .slice ao n c, .int .i64 x]] w fun en w' => en = .returned (.tuple #[.int .u64 (v : Int), .bool b, .int .i64 0]) ∧ Below w.heap.size w w')
      (fun hA hB => rfBits_big_sub e f a1 a2 a3 a4 neg ao n c x xs w h h1 hn _ _ hs hsl rfl x1 x2 hA hB)
      (fun hA hB => rfBits_big_norm e f a1 a2 a3 a4 neg ao n c x xs w h h1 hn _ _ hs hsl rfl x1 x2 hA hB)
      (fun hA hB hC => rfBits_over e f a1 a2 a3 a4 neg ao n c x xs w h h1 hn _ _ hs hsl rfl x1 x2 hA hB hC)
      (fun hA hB hC => rfBits_low e f a1 a2 a3 a4 neg ao n c x xs w h h1 hn _ _ hs hsl rfl x1 x2 hA hB hC)
      (fun hA hB hC => rfBits_norm e f a1 a2 a3 a4 neg ao n c x xs w h h1 hn _ _ hs hsl rfl x1 x2 hA hB hC (hl hA).1 (hl hA).2.1 (hl hA).2.2)
      (fun hA hB hC => rfBits_sub e f a1 a2 a3 a4 neg ao n c x xs w h h1 hn _ _ hs hsl rfl x1 x2 hA hB hC (hl hA).2.2)

end Go.Proofs.YtkifhlgmbckekaaGreatDoor

