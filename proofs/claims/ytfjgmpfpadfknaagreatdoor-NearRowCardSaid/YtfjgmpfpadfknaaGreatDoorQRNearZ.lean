/-
  Merged.
-/
import Derived.Test.YtfjgmpfpadfknaaGreatDoorQNbBase
import Derived.Test.YtfjgmpfpadfknaaGreatDoorQRNearO
section
namespace Go.Proofs.YtfjgmpfpadfknaaGreatDoor

open Go.RowKit Go.Lb

/-- A float's place, a whole number with a sign. -/
def plI (e f b : Nat) : Int := if sgB e f b = true then -(mgN e f b : Int) else (mgN e f b : Int)

theorem pl_two {e f b : Nat} (hf : formE (e : Int) (f : Int) = 0) (hb : b < pw (1 + e + f)) : -9223372036854775808 < plI e f b ∧ plI e f b < 9223372036854775808 ∧ ((plN e f b : Int) = plI e f b ∨ (plN e f b : Int) = plI e f b + 18446744073709551616) := by
  have hm := mg_lt e f b
  have hP := (top63 hf).2
  have he := mg_eq hb
  unfold plI plN
  cases hs : sgB e f b
  · rw [hs] at he
    simp at he
    simp
    omega
  · simp
    omega

theorem pl_i64 {e f b : Nat} (hf : formE (e : Int) (f : Int) = 0) (hb : b < pw (1 + e + f)) : IntKind.i64.wrap (plN e f b : Int) = plI e f b := by
  obtain ⟨h1, h2, h3⟩ := pl_two hf hb
  rw [IntKind.wrap_i64]
  omega

theorem st_plain {E F a b : Nat} (hf : formE (E : Int) (F : Int) = 0) (l1 : a < pw (1 + E + F)) (l2 : b < pw (1 + E + F)) :
    stD E F a b = decide (plI E F b < plI E F a) ∧ stI E F a b = ((plI E F a - plI E F b).natAbs : Int) := by
  have hD : stD E F a b = decide (plI E F b < plI E F a) := by unfold stD; rw [pl_i64 hf l1, pl_i64 hf l2]
  refine ⟨hD, ?_⟩
  obtain ⟨a1, a2, a3⟩ := pl_two hf l1
  obtain ⟨b1, b2, b3⟩ := pl_two hf l2
  unfold stI
  rw [hD]
  by_cases h : plI E F b < plI E F a
  · rw [if_pos (decide_eq_true h), IntKind.wrap_u64]; omega
  · rw [if_neg (by simpa using h), IntKind.wrap_u64]; omega

theorem st_ok {E F a b : Nat} : stE (E : Int) (F : Int) a b = 0 ↔ formE (E : Int) (F : Int) = 0 ∧ a < pw (1 + E + F) ∧ b < pw (1 + E + F) ∧ nanB E F a = false ∧ nanB E F b = false := by
  constructor
  · intro h
    obtain ⟨E', F', h1, h2, hf, l1, l2, h0⟩ := st_forms h
    obtain rfl : E = E' := by omega
    obtain rfl : F = F' := by omega
    unfold stE at h
    rw [if_neg (by simp [h0])] at h
    refine ⟨hf, l1, l2, ?_⟩
    cases ha : nanB E F a <;> cases hb : nanB E F b
    · exact ⟨rfl, rfl⟩
    all_goals
      exfalso
      rw [if_pos (by show (nanB E F a || nanB E F b) = true; rw [ha, hb]; rfl)] at h
      cases h
  · rintro ⟨hf, l1, l2, n1, n2⟩
    have h0 : twoE (E : Int) (F : Int) a b = 0 := by unfold twoE; rw [if_neg (by simp [fits_of hf l1]), fits_of hf l2]
    unfold stE
    rw [if_neg (by simp [h0]), if_neg]
    show ¬ (nanB E F a || nanB E F b) = true
    rw [n1, n2]
    simp

end Go.Proofs.YtfjgmpfpadfknaaGreatDoor
end
section
namespace Go.Proofs.YtfjgmpfpadfknaaGreatDoor

open Go.RowKit Go.Lb

attribute [local go_sem] Go.World.cell?_alloc_some

set_option maxRecDepth 100000 in
theorem two6_any (e f : Int) (a b : Nat) (w : World) (ha : a < 18446744073709551616) (hb : b < 18446744073709551616) :
    Calls Tryz.prog 79 #[.agg #[.int .i64 e, .int .i64 f], .int .u64 (a : Int), .int .u64 (b : Int)] w fun en w' => en = .returned (.int .i64 (twoE e f a b)) ∧ Below w.heap.size w w' := by
  obtain ⟨W1, hW1⟩ : ∃ W1 : World, W1 = w.alloc (.cells #[.int .i64 e, .int .i64 f] 23) := ⟨_, rfl⟩
  have V : Below w.heap.size w W1 := hW1 ▸ more (Below.refl _ _) _
  have F0 : Box2 W1 w.heap.size (.int .i64 e) (.int .i64 f) := hW1 ▸ box2_new w _ _ _
  have cA := fun W => refFits3_any e f a W ha
  have cB := fun W => refFits3_any e f b W hb
  have hT : twoE e f a b = if fitsE e f a ≠ 0 then fitsE e f a else fitsE e f b := rfl
  have ⟨f0, f1⟩ := F0
  by_cases h0 : fitsE e f a = 0
  · rw [if_neg (by simp [h0])] at hT
    rw [hT]
    rw [h0] at cA
    clear hT h0
    go_enter Tryz.func79, Tryz.ntmps79
    go_upto_region 1 with fail
    rw [← hW1]
    clear hW1
    go_wp2_with fail
    refine (cA W1).mono ?_
    rintro en w2 ⟨rfl, hb2⟩
    have F2 := F0.stay hb2
    clear f0 f1
    have ⟨f0, f1⟩ := F2
    go_wp2_with fail
    refine (cB w2).mono ?_
    rintro en w3 ⟨rfl, hb3⟩
    go_wp2
    go_ret
    exact ⟨rfl, next (next V hb2) hb3⟩
  · rw [if_pos h0] at hT
    rw [hT]
    clear hT cB
    generalize fitsE e f a = T at *
    go_enter Tryz.func79, Tryz.ntmps79
    go_upto_region 1 with fail
    rw [← hW1]
    clear hW1
    go_wp2_with fail
    refine (cA W1).mono ?_
    rintro en w2 ⟨rfl, hb2⟩
    go_wp2
    go_ret
    exact ⟨by simp, next V hb2⟩

theorem pl_place {e f b : Nat} : ((sgB e f b && decide (mgN e f b ≠ 0)) = true → plI e f b = -(mgN e f b : Int) ∧ 0 < mgN e f b) ∧ ((sgB e f b && decide (mgN e f b ≠ 0)) = false → plI e f b = (mgN e f b : Int)) := by
  unfold plI
  cases hs : sgB e f b
  · simp
  · by_cases h0 : mgN e f b = 0
    · simp [h0]
    · simp [h0]
      omega

set_option maxRecDepth 100000 in
set_option maxHeartbeats 2000000 in
theorem steps6_any (e f a b : Nat) (w : World) (hf : formE (e : Int) (f : Int) = 0) (l1 : a < pw (1 + e + f)) (l2 : b < pw (1 + e + f)) :
    Calls Tryz.prog 80 #[.agg #[.int .i64 (e : Int), .int .i64 (f : Int)], .int .u64 (a : Int), .int .u64 (b : Int)] w fun en w' => en = .returned (.tuple #[.bool (stD e f a b), .int .u64 (stI e f a b)]) ∧ Below w.heap.size w w' := by
  obtain ⟨d1, s1⟩ := st_plain hf l1 l2
  have hP := (top63 hf).2
  have hpp : pw (1 + e + f) = 2 * pw (e + f) := pw_one_more e f
  have cA := fun W => place6_any e f a W hf (by omega) l1
  have cB := fun W => place6_any e f b W hf (by omega) l2
  obtain ⟨pa1, pa0⟩ := pl_place (e := e) (f := f) (b := a)
  obtain ⟨pb1, pb0⟩ := pl_place (e := e) (f := f) (b := b)
  have ma := mg_lt e f a
  have mb := mg_lt e f b
  rw [d1, s1]
  obtain ⟨W1, hW1⟩ : ∃ W1 : World, W1 = w.alloc (.cells #[.int .i64 (e : Int), .int .i64 (f : Int)] 23) := ⟨_, rfl⟩
  have V : Below w.heap.size w W1 := hW1 ▸ more (Below.refl _ _) _
  have F0 : Box2 W1 w.heap.size (.int .i64 (e : Int)) (.int .i64 (f : Int)) := hW1 ▸ box2_new w _ _ _
  have ⟨f0, f1⟩ := F0
  generalize (sgB e f a && decide (mgN e f a ≠ 0)) = sa at *
  generalize (sgB e f b && decide (mgN e f b ≠ 0)) = sb at *
  generalize mgN e f a = x at *
  generalize mgN e f b = y at *
  generalize plI e f a = A at *
  generalize plI e f b = B at *
  have xs : x < 9223372036854775808 := by omega
  have ys : y < 9223372036854775808 := by omega
  clear hP hpp l1 l2 d1 s1 ma mb hf
  have hw1 : IntKind.u64.wrap ((x : Int) + (y : Int)) = (x : Int) + (y : Int) := by rw [IntKind.wrap_u64]; omega
  have hw2 : y ≤ x → IntKind.u64.wrap ((x : Int) - (y : Int)) = (x : Int) - (y : Int) := fun h => by rw [IntKind.wrap_u64]; omega
  have hw3 : x ≤ y → IntKind.u64.wrap ((y : Int) - (x : Int)) = (y : Int) - (x : Int) := fun h => by rw [IntKind.wrap_u64]; omega
  have key : ∃ (D : Bool) (N : Int), decide (B < A) = D ∧ ((A - B).natAbs : Int) = N ∧
      (sa = true → sb = false → D = false ∧ N = (x : Int) + (y : Int)) ∧ (sa = false → sb = true → D = true ∧ N = (x : Int) + (y : Int)) ∧
      (sa = false → sb = false → x ≤ y → D = false ∧ N = (y : Int) - (x : Int)) ∧ (sa = false → sb = false → ¬ x ≤ y → D = true ∧ N = (x : Int) - (y : Int)) ∧
      (sa = true → sb = true → y ≤ x → D = false ∧ N = (x : Int) - (y : Int)) ∧ (sa = true → sb = true → ¬ y ≤ x → D = true ∧ N = (y : Int) - (x : Int)) := by
    refine ⟨_, _, rfl, rfl, ?_, ?_, ?_, ?_, ?_, ?_⟩
    · intro h1 h2
      have := pa1 h1; have := pb0 h2
      exact ⟨decide_eq_false (by omega), by omega⟩
    · intro h1 h2
      have := pa0 h1; have := pb1 h2
      exact ⟨decide_eq_true (by omega), by omega⟩
    · intro h1 h2 h3
      have := pa0 h1; have := pb0 h2
      exact ⟨decide_eq_false (by omega), by omega⟩
    · intro h1 h2 h3
      have := pa0 h1; have := pb0 h2
      exact ⟨decide_eq_true (by omega), by omega⟩
    · intro h1 h2 h3
      have := pa1 h1; have := pb1 h2
      exact ⟨decide_eq_false (by omega), by omega⟩
    · intro h1 h2 h3
      have := pa1 h1; have := pb1 h2
      exact ⟨decide_eq_true (by omega), by omega⟩
  obtain ⟨D, N, hD, hN, k1, k2, k3, k4, k5, k6⟩ := key
  rw [hD, hN]
  have K := Lib.hid (And.intro k1 (And.intro k2 (And.intro k3 (And.intro k4 (And.intro k5 k6)))))
  have HW2 := Lib.hid hw2
  have HW3 := Lib.hid hw3
  clear hD hN k1 k2 k3 k4 k5 k6 pa1 pa0 pb1 pb0 hw2 hw3
  go_enter Tryz.func80, Tryz.ntmps80
  go_upto_region 1 with fail
  rw [← hW1]
  clear hW1
  go_wp2_with fail
  refine (cA W1).mono ?_
  rintro en w2 ⟨rfl, hb2⟩
  have F2 := F0.stay hb2
  clear f0 f1
  have ⟨f0, f1⟩ := F2
  go_wp2_with fail
  refine (cB w2).mono ?_
  rintro en w3 ⟨rfl, hb3⟩
  have V3 := next (next V hb2) hb3
  clear cA cB F0 F2 hb2 hb3 f0 f1 V
  obtain ⟨k1, k2, k3, k4, k5, k6⟩ := K.out
  cases sa <;> cases sb
  · by_cases hxy : x ≤ y
    · obtain ⟨rfl, rfl⟩ := k3 rfl rfl hxy
      have h1 := HW3.out hxy
      have h2 : (x : Int) ≤ (y : Int) := by omega
      clear k1 k2 k3 k4 k5 k6 K HW2 HW3 hw1
      go_wp2
      go_ret2
      exact ⟨rfl, V3⟩
    · obtain ⟨rfl, rfl⟩ := k4 rfl rfl hxy
      have h1 := HW2.out (by omega)
      have h2 : ¬ (x : Int) ≤ (y : Int) := by omega
      clear k1 k2 k3 k4 k5 k6 K HW2 HW3 hw1
      go_wp2
      go_ret2
      exact ⟨rfl, V3⟩
  · obtain ⟨rfl, rfl⟩ := k2 rfl rfl
    clear k1 k2 k3 k4 k5 k6 K HW2 HW3
    go_wp2
    go_ret2
    exact ⟨rfl, V3⟩
  · obtain ⟨rfl, rfl⟩ := k1 rfl rfl
    clear k1 k2 k3 k4 k5 k6 K HW2 HW3
    go_wp2
    go_ret2
    exact ⟨rfl, V3⟩
  · by_cases hxy : y ≤ x
    · obtain ⟨rfl, rfl⟩ := k5 rfl rfl hxy
      have h1 := HW2.out hxy
      have h2 : (y : Int) ≤ (x : Int) := by omega
      clear k1 k2 k3 k4 k5 k6 K HW2 HW3 hw1
      go_wp2
      go_ret2
      exact ⟨rfl, V3⟩
    · obtain ⟨rfl, rfl⟩ := k6 rfl rfl hxy
      have h1 := HW3.out (by omega)
      have h2 : ¬ (y : Int) ≤ (x : Int) := by omega
      clear k1 k2 k3 k4 k5 k6 K HW2 HW3 hw1
      go_wp2
      go_ret2
      exact ⟨rfl, V3⟩

end Go.Proofs.YtfjgmpfpadfknaaGreatDoor
end
