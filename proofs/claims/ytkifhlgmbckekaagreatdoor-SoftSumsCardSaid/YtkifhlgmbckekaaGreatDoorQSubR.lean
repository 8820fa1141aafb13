/-
  Add and Sub of soft and of the reference, whole: one answer.
-/
import Derived.Test.YtkifhlgmbckekaaGreatDoorQMS22
namespace Go.Proofs.YtkifhlgmbckekaaGreatDoor

open Go.RowKit Go.Lb

attribute [local go_sem] Go.World.cell?_alloc_some

theorem refAdd7_any (e f : Int) (a b m : Nat) (w : World) (_hm : m < 256) (ha : a < 18446744073709551616) (hb : b < 18446744073709551616) :
    Calls Tryz.prog 17 #[.agg #[.int .i64 e, .int .i64 f], .int .u64 (a : Int), .int .u64 (b : Int), .int .u8 (m : Int)] w fun en w' => en = .returned (.tuple #[.int .u64 (soB e f a b m : Int), .int .u8 (soG e f a b m), .int .i64 (askE e f m [a, b])]) ∧ Below w.heap.size w w' := by
  by_cases h0 : askE e f (m : Int) [a, b] = 0
  · obtain ⟨h1, hm5⟩ := ask_two h0
    obtain ⟨p1, p2⟩ := twoE_ok h1
    obtain ⟨f1, l1⟩ := fitsE_parts p1
    have l2 := (fitsE_parts p2).2
    obtain ⟨q1, q2, q3, q4⟩ := formE_ok f1
    obtain ⟨e, rfl⟩ := Int.eq_ofNat_of_zero_le (by omega : 0 ≤ e)
    obtain ⟨f, rfl⟩ := Int.eq_ofNat_of_zero_le (by omega : 0 ≤ f)
    have hB : soB (e : Int) (f : Int) a b m = adB e f a b m := if_pos h0
    have hG : soG (e : Int) (f : Int) a b m = adG e f a b m := if_pos h0
    rw [hB, hG, h0]
    exact refAdd7_good e f a b m w hm5 ha hb h1 (fun xa xb => by
      obtain ⟨_, _, s3, s4, s5⟩ := sum_bounds f1 l1 l2 xa xb (adD e f a b) rfl
      exact ⟨by omega, by omega, by omega⟩)
  · have hB : soB e f a b m = 0 := if_neg h0
    have hG : soG e f a b m = 0 := if_neg h0
    rw [hB, hG]
    exact refAdd7_bad e f a b m w ha hb h0

/-- With the sign turned, a float fits as before. -/
theorem fits_turn {e f : Int} {b : Nat} (h : fitsE e f b = 0) : fitsE e f (b ^^^ pw (e.toNat + f.toNat)) = 0 := by
  obtain ⟨h1, h2⟩ := fitsE_parts h
  unfold fitsE
  rw [if_neg (by simp [h1]), if_pos]
  unfold pw at *
  exact Nat.xor_lt_two_pow h2 (Nat.pow_lt_pow_right (by decide) (by omega))

/-- What Sub answers. -/
def suB (e f : Int) (a b m : Nat) : Nat := if askE e f m [a, b] = 0 then soB e f a (b ^^^ pw (e.toNat + f.toNat)) m else 0

def suG (e f : Int) (a b m : Nat) : Int := if askE e f m [a, b] = 0 then soG e f a (b ^^^ pw (e.toNat + f.toNat)) m else 0

theorem ask_turn {e f : Int} {a b m : Nat} (h : askE e f m [a, b] = 0) : askE e f m [a, b ^^^ pw (e.toNat + f.toNat)] = 0 := by
  obtain ⟨h1, hm⟩ := ask_two h
  obtain ⟨h2, h3⟩ := twoE_ok h1
  unfold askE
  have : twoE e f a (b ^^^ pw (e.toNat + f.toNat)) = 0 := by unfold twoE; rw [if_neg (by simp [h2])]; exact fits_turn h3
  rw [askL_two, if_neg (by simp [this]), if_neg (by omega)]

/-- The top bit's worth is small. -/
theorem top_small {e f : Int} (h : formE e f = 0) : pw (e.toNat + f.toNat) < 18446744073709551616 := by
  obtain ⟨q1, q2, q3, q4⟩ := formE_ok h
  have := pw_le (show e.toNat + f.toNat ≤ 63 by omega)
  rw [show pw 63 = 9223372036854775808 by unfold pw; rfl] at this
  omega

set_option maxRecDepth 100000 in
set_option maxHeartbeats 2000000 in
theorem refSub7_any (e f : Int) (a b m : Nat) (w : World) (hm : m < 256) (ha : a < 18446744073709551616) (hb : b < 18446744073709551616) :
    Calls Tryz.prog 19 #[.agg #[.int .i64 e, .int .i64 f], .int .u64 (a : Int), .int .u64 (b : Int), .int .u8 (m : Int)] w fun en w' => en = .returned (.tuple #[.int .u64 (suB e f a b m : Int), .int .u8 (suG e f a b m), .int .i64 (askE e f m [a, b])]) ∧ Below w.heap.size w w' := by
  have cA := fun W hv => asked_any (w.heap.size + 1) e f (m : Int) [a, b] W (by simp) hv
  have hv : ∀ W : World, W.cell? ⟨w.heap.size + 1, 0, none⟩ = some (.int .u64 a) → W.cell? ⟨w.heap.size + 1, 1, none⟩ = some (.int .u64 b) → ∀ j, (h : j < [a, b].length) → [a, b][j] < 18446744073709551616 ∧ W.cell? ⟨w.heap.size + 1, j, none⟩ = some (.int .u64 ([a, b][j] : Nat)) := by
    intro W c0 c1 j hj
    match j, hj with
    | 0, _ => exact ⟨ha, c0⟩
    | 1, _ => exact ⟨hb, c1⟩
  by_cases h0 : askE e f (m : Int) [a, b] = 0
  · obtain ⟨h1, hm5⟩ := ask_two h0
    obtain ⟨p1, p2⟩ := twoE_ok h1
    obtain ⟨f1, l1⟩ := fitsE_parts p1
    have hP := top_small f1
    have hx : b ^^^ pw (e.toNat + f.toNat) < 18446744073709551616 := by
      have := Nat.xor_lt_two_pow (n := 64) (by omega : b < 2 ^ 64) (by omega : pw (e.toNat + f.toNat) < 2 ^ 64)
      omega
    have hu := u64_xor_nat b (pw (e.toNat + f.toNat)) hb hP
    have cS := fun W => refSign7_any e f true W f1
    have cB := fun W => refAdd7_any e f a (b ^^^ pw (e.toNat + f.toNat)) m W hm ha hx
    rw [ask_turn h0] at cB
    have hB : suB e f a b m = soB e f a (b ^^^ pw (e.toNat + f.toNat)) m := if_pos h0
    have hG : suG e f a b m = soG e f a (b ^^^ pw (e.toNat + f.toNat)) m := if_pos h0
    rw [hB, hG, h0]
    rw [h0] at cA
    simp only [if_true] at cS
    generalize soB e f a (b ^^^ pw (e.toNat + f.toNat)) m = B at *
    generalize soG e f a (b ^^^ pw (e.toNat + f.toNat)) m = G at *
    generalize b ^^^ pw (e.toNat + f.toNat) = X at *
    generalize pw (e.toNat + f.toNat) = P at *
    clear hB hG h0 h1 p1 p2 f1 l1 hP hx
    go_enter Tryz.func19, Tryz.ntmps19
    go_wp2_with (first
      | (go_at_call 65; refine (cA _ (hv _ (by simp) (by simp))).mono ?_; rintro en w1 ⟨rfl, hb1⟩; have hW := next (more (more (Below.refl _ _) _) _) hb1; have A := ((box2_new w (.int .i64 e) (.int .i64 f) 23).alloc (.cells #[.int .u64 (a : Int), .int .u64 (b : Int)] 24)).stay hb1; have ⟨a0, a1⟩ := A)
      | fail "stop")
    have kS : ∀ w' : World, Below w1.heap.size w1 w' → (w'.cell? ⟨w.heap.size, 0, none⟩ = some (.int .i64 e) ∧ w'.cell? ⟨w.heap.size, 1, none⟩ = some (.int .i64 f) ∧ Below w1.heap.size w1 w') := fun w' hb => ⟨cellStay a0 hb, cellStay a1 hb, hb⟩
    go_region_held3 (fun w' => w'.cell? ⟨w.heap.size, 0, none⟩ = some (.int .i64 e) ∧ w'.cell? ⟨w.heap.size, 1, none⟩ = some (.int .i64 f) ∧ Below w1.heap.size w1 w')
      ((refine kS _ ?_; (repeat (with_reducible (first | assumption | exact Below.refl _ _ | refine Below.drew ?_ | refine more ?_ _))); done))
      (first
        | (go_at_call 71; (with_reducible refine (cS _).mono ?_); rintro en wX ⟨rfl, hbX⟩; have hWX : Below w1.heap.size w1 wX := (by go_split_ands; exact next (by assumption) hbX))
        | (go_at_call 17; (with_reducible refine (cB _).mono ?_); rintro en wX ⟨rfl, hbX⟩; have hWX : Below w1.heap.size w1 wX := (by go_split_ands; exact next (by assumption) hbX)))
    go_split_ands
    go_wp2
    refine bodyPost_ret (v := .tuple #[.int .u64 (B : Int), .int .u8 G, .int .i64 0]) (by simp [results, Tryz.results19, go_sem]) rfl ⟨rfl, next hW (by assumption)⟩
  · have hB : suB e f a b m = 0 := if_neg h0
    have hG : suG e f a b m = 0 := if_neg h0
    have hBB : (askE e f (m : Int) [a, b] != 0) = true := by simp [h0]
    rw [hB, hG]
    clear hB hG
    generalize askE e f (m : Int) [a, b] = E at hBB cA h0 ⊢
    go_enter Tryz.func19, Tryz.ntmps19
    go_wp2_with (go_at_call 65; refine (cA _ (hv _ (by simp) (by simp))).mono ?_; rintro en w1 ⟨rfl, hb1⟩)
    refine bodyPost_ret (v := .tuple #[.int .u64 0, .int .u8 0, .int .i64 E]) (by simp [results, Tryz.results19, go_sem]) rfl ⟨rfl, next (more (more (Below.refl _ _) _) _) hb1⟩

set_option maxRecDepth 100000 in
set_option maxHeartbeats 2000000 in
theorem softSub_any (e f : Int) (a b m : Nat) (w : World) (hm : m < 256) (ha : a < 18446744073709551616) (hb : b < 18446744073709551616) (hT : Tab w) :
    Calls Tryz.prog 18 #[.agg #[.int .i64 e, .int .i64 f], .int .u64 (a : Int), .int .u64 (b : Int), .int .u8 (m : Int)] w fun en w' => en = .returned (.tuple #[.int .u64 (suB e f a b m : Int), .int .u8 (suG e f a b m), .int .i64 (askE e f m [a, b])]) ∧ Below w.heap.size w w' := by
  have hv : ∀ W : World, W.cell? ⟨w.heap.size + 1, 0, none⟩ = some (.int .u64 a) → W.cell? ⟨w.heap.size + 1, 1, none⟩ = some (.int .u64 b) → ∀ j, (h : j < [a, b].length) → [a, b][j] < 18446744073709551616 ∧ W.cell? ⟨w.heap.size + 1, j, none⟩ = some (.int .u64 ([a, b][j] : Nat)) := by
    intro W c0 c1 j hj
    match j, hj with
    | 0, _ => exact ⟨ha, c0⟩
    | 1, _ => exact ⟨hb, c1⟩
  have cA := fun W hv hT => all_list (w.heap.size + 1) e f m [a, b] W hm (by simp) (by simp) hv hT
  unfold AllO at cA
  by_cases h0 : askE e f (m : Int) [a, b] = 0
  · obtain ⟨h1, hm5⟩ := ask_two h0
    obtain ⟨p1, p2⟩ := twoE_ok h1
    obtain ⟨f1, l1⟩ := fitsE_parts p1
    have hP := top_small f1
    have hx : b ^^^ pw (e.toNat + f.toNat) < 18446744073709551616 := by
      have := Nat.xor_lt_two_pow (n := 64) (by omega : b < 2 ^ 64) (by omega : pw (e.toNat + f.toNat) < 2 ^ 64)
      omega
    have hu := u64_xor_nat b (pw (e.toNat + f.toNat)) hb hP
    have cS := fun W => softNeg_any e f b W hb
    have hsn : snNegN e f b = ((b ^^^ pw (e.toNat + f.toNat) : Nat) : Int) := by
      unfold snNegN topN
      rw [if_pos p2, if_pos p2, hu]
    rw [hsn, p2] at cS
    have cB := fun W hT => softAdd_any e f a (b ^^^ pw (e.toNat + f.toNat)) m W hm ha hx hT
    rw [ask_turn h0] at cB
    have hB : suB e f a b m = soB e f a (b ^^^ pw (e.toNat + f.toNat)) m := if_pos h0
    have hG : suG e f a b m = soG e f a (b ^^^ pw (e.toNat + f.toNat)) m := if_pos h0
    rw [hB, hG, h0]
    rw [h0] at cA
    generalize soB e f a (b ^^^ pw (e.toNat + f.toNat)) m = B at *
    generalize soG e f a (b ^^^ pw (e.toNat + f.toNat)) m = G at *
    generalize b ^^^ pw (e.toNat + f.toNat) = X at *
    generalize alB e f m [a, b] = tb at *
    generalize alF e f m [a, b] = tf at *
    generalize alK e f m [a, b] = tk at *
    clear hB hG h0 h1 p1 p2 f1 l1 hP hx hu hsn
    go_enter Tryz.func18, Tryz.ntmps18
    have A0 := (box2_new w (.int .i64 e) (.int .i64 f) 23).alloc (.cells #[.int .u64 (a : Int), .int .u64 (b : Int)] 24)
    go_upto_region 1 with fail
    go_wp2_with fail
    refine (cA _ (hv _ (by simp) (by simp)) ((hT.alloc _).alloc _)).mono ?_
    rintro en w1 ⟨pk, out, rfl, hR, hQ, hb1⟩
    have hW := next (more (more (Below.refl _ _) _) _) hb1
    have hT1 := ((hT.alloc (.cells #[.int .i64 e, .int .i64 f] 23)).alloc (.cells #[.int .u64 a, .int .u64 b] 24)).below hb1
    have A1 := (A0.stay hb1).alloc (.cells #[.int .u64 tb, .int .u8 tf, .int .i64 0] 90)
    have R2 := box3_new w1 (.int .u64 tb) (.int .u8 tf) (.int .i64 0) 90
    have hW2 := more hW (.cells #[.int .u64 tb, .int .u8 tf, .int .i64 0] 90)
    have hT2 := hT1.alloc (.cells #[.int .u64 tb, .int .u8 tf, .int .i64 0] 90)
    go_upto_region 2 with fail
    clear A0 hb1 hR hQ hT1 cA hv hW
    obtain ⟨Z, hZ⟩ : ∃ Z, Z = w1.heap.size := ⟨_, rfl⟩
    rw [← hZ] at R2 ⊢
    clear hZ
    generalize w1.alloc (.cells #[.int .u64 tb, .int .u8 tf, .int .i64 0] 90) = w2 at *
    have ⟨a0, a1⟩ := A1
    have ⟨r0, r1, r2, rz0, rz1, rz2⟩ := R2
    go_wp2_with fail
    refine (cS w2).mono ?_
    rintro en w3 ⟨rfl, hb3⟩
    have A3 := A1.stay hb3
    have ⟨b0, b1⟩ := A3
    have hW3 := next hW2 hb3
    go_wp2_with fail
    refine (cB w3 (hT2.below hb3)).mono ?_
    rintro en w4 ⟨rfl, hb4⟩
    go_wp2
    refine bodyPost_ret (v := .tuple #[.int .u64 (B : Int), .int .u8 G, .int .i64 0]) (by simp [results, Tryz.results18, go_sem]) rfl ⟨rfl, next hW3 hb4⟩
  · have hB : suB e f a b m = 0 := if_neg h0
    have hG : suG e f a b m = 0 := if_neg h0
    have hBB : (askE e f (m : Int) [a, b] != 0) = true := by simp [h0]
    have hb0 : alB e f m [a, b] = 0 := if_neg (fun h => h0 h.1)
    have hf0 : alF e f m [a, b] = 0 := if_neg (fun h => h0 h.1)
    rw [hb0, hf0] at cA
    rw [hB, hG]
    clear hB hG hb0 hf0
    generalize askE e f (m : Int) [a, b] = E at *
    generalize alK e f m [a, b] = tk at *
    go_enter Tryz.func18, Tryz.ntmps18
    go_wp2_with (go_at_call 64; refine (cA _ (hv _ (by simp) (by simp)) ((hT.alloc _).alloc _)).mono ?_; rintro en w1 ⟨pk, out, rfl, hR, hQ, hb1⟩; have hW := next (more (more (Below.refl _ _) _) _) hb1)
    go_quiet (fail)
    go_wp2
    refine bodyPost_ret (v := .tuple #[.int .u64 0, .int .u8 0, .int .i64 E]) (by simp [results, Tryz.results18, go_sem]) rfl ⟨rfl, drewn (more hW _) nq⟩

end Go.Proofs.YtkifhlgmbckekaaGreatDoor

