/-
  Merged.
-/
import Derived.Laws.FloatArith
import Derived.Test.YtfjgmpfpadfknaaGreatDoorQNbBase
import Derived.Deep.CutRange
section
namespace Go.Proofs.YtfjgmpfpadfknaaGreatDoor

open Go.RowKit Go.Lb

def Tri (c a d : Int) : Prop := c = -1 ∧ a < d ∨ c = 0 ∧ a = d ∨ c = 1 ∧ d < a

theorem sgI_scale (s : Bool) (n k : Nat) : sgI s (n * k) = sgI s n * (k : Int) := by
  unfold sgI
  cases s <;> simp [Int.neg_mul]

theorem sg_word (x : Nat) : (x / 2 ^ 63 % 2 == 1) = sgB 11 52 x := by
  unfold sgB takeN
  rw [show pw 1 = 2 by unfold pw; rfl, show pw (52 + 11) = 2 ^ 63 by unfold pw; rfl, Bool.eq_iff_iff]
  simp

theorem rung_parts (x : Nat) : x % 2 ^ 63 / 2 ^ 52 = exN 11 52 x ∧ x % 2 ^ 63 % 2 ^ 52 = frN 52 x := by
  unfold exN frN takeN
  rw [show pw 0 = 1 by unfold pw; rfl, show pw 11 = 2 ^ 11 by unfold pw; rfl, show pw 52 = 2 ^ 52 by unfold pw; rfl]
  omega

theorem read_num {x : Nat} (h : exN 11 52 x ≠ maskN 11) : Ieee.double.read x = .number (sgB 11 52 x) (vN 11 52 x) (vX 11 52 x) := by
  have hm : maskN 11 = 2047 := by unfold maskN; rfl
  have hb : biasN 11 = 1023 := by unfold biasN; rfl
  have hl := exN_lt 11 52 x
  rw [show pw 11 = 2048 by unfold pw; rfl] at hl
  have hp : pw 52 = 2 ^ 52 := by unfold pw; rfl
  obtain ⟨e1, e2⟩ := rung_parts x
  have hs := sg_word x
  rw [hm] at h
  unfold vN vX
  rw [hb, hp]
  change (let neg := x / 2 ^ 63 % 2 == 1
    let rung := x % 2 ^ 63
    if rung < 2 ^ 52 then Ieee.Datum.number neg rung (-1074)
    else if rung < 2047 * 2 ^ 52 then .number neg (2 ^ 52 + rung % 2 ^ 52) (-1074 + (rung / 2 ^ 52 - 1 : Nat))
    else if rung = 2047 * 2 ^ 52 then .infinity neg
    else .nan neg (rung - 2047 * 2 ^ 52)) = _
  simp only
  rw [hs, e1, e2]
  generalize exN 11 52 x = ex at *
  generalize frN 52 x = fr at *
  by_cases h0 : ex = 0
  · rw [if_pos (by omega), if_pos h0, if_pos h0]
    congr 1
    omega
  · rw [if_neg (by omega), if_pos (by omega), if_neg h0, if_neg h0]
    congr 1
    omega

theorem signed_wI (s : Bool) (m : Nat) (x b : Int) : Ieee.signed s m (x - b).toNat = wI s m x b := by
  unfold Ieee.signed wI sgI upW
  rw [Nat.shiftLeft_eq]

theorem wI_down {s : Bool} {m : Nat} {x n b : Int} (h : n ≤ x) (hb : b ≤ n) : wI s m x b = wI s m x n * (2 ^ (n - b).toNat : Nat) := by
  unfold wI
  rw [upW_down h hb, sgI_scale]

theorem tri_scale {c A B : Int} {k : Nat} (hk : 0 < k) (h : Tri c (A * k) (B * k)) : Tri c A B := by
  have hk' : (0 : Int) < k := by omega
  rcases h with ⟨h1, h2⟩ | ⟨h1, h2⟩ | ⟨h1, h2⟩
  · exact .inl ⟨h1, Int.lt_of_mul_lt_mul_right h2 (Int.le_of_lt hk')⟩
  · exact .inr (.inl ⟨h1, Int.eq_of_mul_eq_mul_right (by omega) h2⟩)
  · exact .inr (.inr ⟨h1, Int.lt_of_mul_lt_mul_right h2 (Int.le_of_lt hk')⟩)

def ordC (c : Int) : Ordering := if c = -1 then .lt else if c = 0 then .eq else .gt

theorem order_fin {x y : Nat} (hx : exN 11 52 x ≠ maskN 11) (hy : exN 11 52 y ≠ maskN 11) {c : Int} (h : Tri c (sgI (sgB 11 52 x) (gN 11 52 x)) (sgI (sgB 11 52 y) (gN 11 52 y))) :
    Ieee.double.order x y = some (ordC c) := by
  unfold Ieee.Format.order
  rw [read_num hx, read_num hy]
  unfold Ieee.Datum.order
  simp only
  rw [signed_wI, signed_wI]
  have l1 := vX_low 11 52 x
  have l2 := vX_low 11 52 y
  change Tri c (wI (sgB 11 52 x) (vN 11 52 x) (vX 11 52 x) (baseI 11 52)) (wI (sgB 11 52 y) (vN 11 52 y) (vX 11 52 y) (baseI 11 52)) at h
  rw [wI_down (n := min (vX 11 52 x) (vX 11 52 y)) (by omega) (by omega), wI_down (s := sgB 11 52 y) (n := min (vX 11 52 x) (vX 11 52 y)) (by omega) (by omega)] at h
  have h' := tri_scale (Nat.two_pow_pos _) h
  generalize wI (sgB 11 52 x) _ _ _ = A at h' ⊢
  generalize wI (sgB 11 52 y) _ _ _ = B at h' ⊢
  congr 1
  unfold ordC
  rcases h' with ⟨h1, h2⟩ | ⟨h1, h2⟩ | ⟨h1, h2⟩
  · rw [h1, if_pos rfl]
    exact Int.compare_eq_lt.2 h2
  · rw [h1, if_neg (by decide), if_pos rfl]
    exact Int.compare_eq_eq.2 h2
  · rw [h1, if_neg (by decide), if_neg (by decide)]
    exact Int.compare_eq_gt.2 h2

end Go.Proofs.YtfjgmpfpadfknaaGreatDoor
end
section
namespace Go.Proofs.YtfjgmpfpadfknaaGreatDoor

open Go.RowKit Go.Lb

/-- a ^ 2^k turns the bit k. -/
theorem xor_turn {k a : Nat} (h : a < 2 * 2 ^ k) : a ^^^ 2 ^ k = if 2 ^ k ≤ a then a - 2 ^ k else a + 2 ^ k := by
  by_cases h1 : 2 ^ k ≤ a
  · rw [if_pos h1]
    obtain ⟨r, rfl⟩ : ∃ r, a = 2 ^ k + r := ⟨a - 2 ^ k, by omega⟩
    have hr : r < 2 ^ k := by omega
    rw [Nat.add_sub_cancel_left]
    have e : 2 ^ k + r = 2 ^ k ^^^ r := by
      have := Nat.two_pow_add_eq_or_of_lt hr 1
      rw [Nat.mul_one] at this
      rw [this]
      refine Nat.eq_of_testBit_eq fun i => ?_
      rw [Nat.testBit_or, Nat.testBit_xor, Nat.testBit_two_pow]
      by_cases hi : k = i
      · subst hi
        rw [Nat.testBit_lt_two_pow hr]
        simp
      · simp [hi]
    rw [e, Nat.xor_comm (2 ^ k) r, Nat.xor_assoc, Nat.xor_self, Nat.xor_zero]
  · rw [if_neg h1]
    have hr : a < 2 ^ k := by omega
    have := Nat.two_pow_add_eq_or_of_lt hr 1
    rw [Nat.mul_one] at this
    rw [Nat.add_comm, this]
    refine Nat.eq_of_testBit_eq fun i => ?_
    rw [Nat.testBit_or, Nat.testBit_xor, Nat.testBit_two_pow]
    by_cases hi : k = i
    · subst hi
      rw [Nat.testBit_lt_two_pow hr]
      simp
    · simp [hi]

end Go.Proofs.YtfjgmpfpadfknaaGreatDoor
end
section
namespace Go.Proofs.YtfjgmpfpadfknaaGreatDoor

open Go.RowKit Go.Lb

attribute [local go_sem] Go.World.cell?_alloc_some

/-- Cmp's outcome. -/
def cmV (e f : Int) (a b : Nat) : Int := if stE e f a b = 0 then (if IntKind.i64.wrap (plN e.toNat f.toNat a : Int) < IntKind.i64.wrap (plN e.toNat f.toNat b : Int) then -1 else if IntKind.i64.wrap (plN e.toNat f.toNat b : Int) < IntKind.i64.wrap (plN e.toNat f.toNat a : Int) then 1 else 0) else 0

theorem number_two (e f : Int) (a b pl : Nat) (W : World) (ha : a < 18446744073709551616) (hb : b < 18446744073709551616) (c0 : W.cell? ⟨pl, 0, none⟩ = some (.int .u64 (a : Int))) (c1 : W.cell? ⟨pl, 1, none⟩ = some (.int .u64 (b : Int))) :
    Calls Tryz.prog 47 #[.agg #[.int .i64 e, .int .i64 f], .slice (some ⟨pl, 0, none⟩) 2 2] W fun en w' => en = .returned (.tuple #[.int .i64 (twoE e f a b), .bool (decide (stE e f a b = 0))]) ∧ Below W.heap.size W w' := by
  have h := nearNumber_any pl e f [a, b] W (by simp) (by simp) (two_cells ha hb c0 c1)
  rw [askL_two, anN_two] at h
  have hq : (decide (twoE e f a b = 0) && !(nanB e.toNat f.toNat a || nanB e.toNat f.toNat b)) = decide (stE e f a b = 0) := by
    unfold stE
    by_cases h0 : twoE e f a b = 0
    · rw [decide_eq_true h0, if_neg (by simp [h0])]
      cases (nanB e.toNat f.toNat a || nanB e.toNat f.toNat b) <;> decide
    · rw [decide_eq_false h0, if_pos h0, decide_eq_false h0]; rfl
  rw [hq] at h
  exact h

theorem st_forms {e f : Int} {a b : Nat} (h : stE e f a b = 0) : ∃ E F : Nat, e = (E : Int) ∧ f = (F : Int) ∧ formE (E : Int) (F : Int) = 0 ∧ a < pw (1 + E + F) ∧ b < pw (1 + E + F) ∧ twoE e f a b = 0 := by
  have h0 : twoE e f a b = 0 := by
    by_cases h0 : twoE e f a b = 0
    · exact h0
    · unfold stE at h
      rw [if_pos h0] at h
      exact absurd h h0
  obtain ⟨p1, p2⟩ := twoE_ok h0
  obtain ⟨hf, l1⟩ := fitsE_parts p1
  obtain ⟨_, l2⟩ := fitsE_parts p2
  obtain ⟨q1, q2, q3, q4⟩ := formE_ok hf
  obtain ⟨E, rfl⟩ := Int.eq_ofNat_of_zero_le (by omega : 0 ≤ e)
  obtain ⟨F, rfl⟩ := Int.eq_ofNat_of_zero_le (by omega : 0 ≤ f)
  exact ⟨E, F, rfl, rfl, hf, l1, l2, h0⟩

set_option maxRecDepth 100000 in
set_option maxHeartbeats 2000000 in
theorem nearCmp_any (e f : Int) (a b : Nat) (w : World) (ha : a < 18446744073709551616) (hb : b < 18446744073709551616) :
    Calls Tryz.prog 27 #[.agg #[.int .i64 e, .int .i64 f], .int .u64 (a : Int), .int .u64 (b : Int)] w fun en w' => en = .returned (.tuple #[.int .i64 (cmV e f a b), .bool (decide (stE e f a b = 0)), .int .i64 (twoE e f a b)]) ∧ Below w.heap.size w w' := by
  have cN := fun W c0 c1 => number_two e f a b (w.heap.size + 1) W ha hb c0 c1
  have hW0 := more (more (Below.refl w.heap.size w) (.cells #[.int .i64 e, .int .i64 f] 23)) (.cells #[.int .u64 (a : Int), .int .u64 (b : Int)] 24)
  by_cases hs : stE e f a b = 0
  · obtain ⟨E, F, rfl, rfl, hf, l1, l2, h0⟩ := st_forms hs
    rw [decide_eq_true hs, h0] at cN
    rw [decide_eq_true hs, h0]
    have hV : cmV (E : Int) (F : Int) a b = if IntKind.i64.wrap (plN E F a : Int) < IntKind.i64.wrap (plN E F b : Int) then -1 else if IntKind.i64.wrap (plN E F b : Int) < IntKind.i64.wrap (plN E F a : Int) then 1 else 0 := if_pos hs
    have cP := fun W => nearPlace_any E F a W hf l1
    have cQ := fun W => nearPlace_any E F b W hf l2
    have HV := Lib.hid hV
    clear hs hV h0 l1 l2 hf
    generalize cmV (E : Int) (F : Int) a b = R at *
    generalize plN E F a = x at *
    generalize plN E F b = y at *
    have A0 := (box2_new w (.int .i64 (E : Int)) (.int .i64 (F : Int)) 23).alloc (.cells #[.int .u64 (a : Int), .int .u64 (b : Int)] 24)
    go_enter Tryz.func27, Tryz.ntmps27
    go_upto_region 1 with fail
    go_wp2_with fail
    refine (cN _ (by simp) (by simp)).mono ?_
    rintro en w1 ⟨rfl, hb1⟩
    have A1 := A0.stay hb1
    have ⟨a0, a1⟩ := A1
    have hW1 := next hW0 hb1
    clear A0 hW0 hb1 cN
    go_upto_region 4 with fail
    have hbb := Below.refl w1.heap.size w1
    go_region_held3 (fun w' => w'.cell? ⟨w.heap.size, 0, none⟩ = some (.int .i64 (E : Int)) ∧ w'.cell? ⟨w.heap.size, 1, none⟩ = some (.int .i64 (F : Int)) ∧ Below w1.heap.size w1 w')
      ((go_split_ands; refine ⟨?_, ?_, ?_⟩ <;> (first | assumption | exact Below.drew (by assumption) | exact cellStay (by assumption) hbX | exact next (by assumption) hbX | (go_keep; done))))
      (first | (go_at_call 77; (with_reducible refine (cP _).mono ?_); rintro en wX ⟨rfl, hbX⟩) | (go_at_call 77; (with_reducible refine (cQ _).mono ?_); rintro en wX ⟨rfl, hbX⟩))
    all_goals go_split_ands
    all_goals
      by_cases g1 : IntKind.i64.wrap (x : Int) < IntKind.i64.wrap (y : Int)
      · have h3 := HV.out
        rw [if_pos g1] at h3
        subst h3
        have h2 : wrap64 (x : Int) < wrap64 (y : Int) := by rwa [IntWalk.i64_left, IntWalk.i64_left] at g1
        clear HV
        go_wp2
        refine bodyPost_ret (v := .tuple #[.int .i64 (-1), .bool true, .int .i64 0]) (by simp [results, Tryz.results27, go_sem]) rfl ⟨rfl, next hW1 (by assumption)⟩
      · by_cases g2 : IntKind.i64.wrap (y : Int) < IntKind.i64.wrap (x : Int)
        · have h3 := HV.out
          rw [if_neg g1, if_pos g2] at h3
          subst h3
          have h1 : ¬ (wrap64 (x : Int) < wrap64 (y : Int)) := by rwa [IntWalk.i64_left, IntWalk.i64_left] at g1
          have h2 : wrap64 (y : Int) < wrap64 (x : Int) := by rwa [IntWalk.i64_left, IntWalk.i64_left] at g2
          clear HV
          go_wp2
          refine bodyPost_ret (v := .tuple #[.int .i64 1, .bool true, .int .i64 0]) (by simp [results, Tryz.results27, go_sem]) rfl ⟨rfl, next hW1 (by assumption)⟩
        · have h3 := HV.out
          rw [if_neg g1, if_neg g2] at h3
          subst h3
          have h1 : ¬ (wrap64 (x : Int) < wrap64 (y : Int)) := by rwa [IntWalk.i64_left, IntWalk.i64_left] at g1
          have h2 : ¬ (wrap64 (y : Int) < wrap64 (x : Int)) := by rwa [IntWalk.i64_left, IntWalk.i64_left] at g2
          clear HV
          go_wp2
          refine bodyPost_ret (v := .tuple #[.int .i64 0, .bool true, .int .i64 0]) (by simp [results, Tryz.results27, go_sem]) rfl ⟨rfl, next hW1 (by assumption)⟩
  · rw [decide_eq_false hs] at cN
    rw [show cmV e f a b = 0 from if_neg hs, decide_eq_false hs]
    clear hs
    generalize twoE e f a b = T at *
    by_cases h0 : T = 0
    · subst h0
      go_enter Tryz.func27, Tryz.ntmps27
      go_upto_region 1 with fail
      go_wp2_with fail
      refine (cN _ (by simp) (by simp)).mono ?_
      rintro en w1 ⟨rfl, hb1⟩
      go_wp2
      refine bodyPost_ret (v := .tuple #[.int .i64 0, .bool false, .int .i64 0]) (by simp [results, Tryz.results27, go_sem]) rfl ⟨rfl, next hW0 hb1⟩
    · go_enter Tryz.func27, Tryz.ntmps27
      go_upto_region 1 with fail
      go_wp2_with fail
      refine (cN _ (by simp) (by simp)).mono ?_
      rintro en w1 ⟨rfl, hb1⟩
      go_wp2
      refine bodyPost_ret (v := .tuple #[.int .i64 0, .bool false, .int .i64 T]) (by simp [results, Tryz.results27, go_sem]) rfl ⟨rfl, next hW0 hb1⟩

end Go.Proofs.YtfjgmpfpadfknaaGreatDoor
end
section
namespace Go.Proofs.YtfjgmpfpadfknaaGreatDoor

open Go.RowKit Go.Lb

/-- A float's place, a whole number with a sign. -/
def plI (e f b : Nat) : Int := if sgB e f b = true then -(mgN e f b : Int) else (mgN e f b : Int)

theorem pl_two {e f b : Nat} (hf : formE (e : Int) (f : Int) = 0) (hb : b < pw (1 + e + f)) : -9223372036854775808 < plI e f b ∧ plI e f b < 9223372036854775808 ∧ ((plN e f b : Int) = plI e f b ∨ (plN e f b : Int) = plI e f b + 18446744073709551616) := by
  have hm := mg_lt e f b
  have hP := (top63 hf).2
  have he := mg_eq hb
  unfold plI plN
  cases hs : sgB e f b
  · rw [hs] at he
    simp at he
    simp
    omega
  · simp
    omega

theorem pl_i64 {e f b : Nat} (hf : formE (e : Int) (f : Int) = 0) (hb : b < pw (1 + e + f)) : IntKind.i64.wrap (plN e f b : Int) = plI e f b := by
  obtain ⟨h1, h2, h3⟩ := pl_two hf hb
  rw [IntKind.wrap_i64]
  omega

theorem fl_pl {e f b : Nat} (hb : b < pw (1 + e + f)) : plI e f (flN e f b) = -plI e f b := by
  obtain ⟨_, h2, h3, _, _⟩ := fl_bits hb
  unfold plI
  rw [h2, h3]
  cases sgB e f b <;> simp

end Go.Proofs.YtfjgmpfpadfknaaGreatDoor
end
section
namespace Go.Proofs.YtfjgmpfpadfknaaGreatDoor

open Go.RowKit Go.Lb

theorem uniq_div {P a b c d : Nat} (hb : b < P) (hd : d < P) (h : a * P + b = c * P + d) : a = c ∧ b = d := by
  have hp : 0 < P := by omega
  have e1 : (a * P + b) / P = a := by rw [Nat.mul_comm, Nat.mul_add_div hp, Nat.div_eq_of_lt hb, Nat.add_zero]
  have e2 : (c * P + d) / P = c := by rw [Nat.mul_comm, Nat.mul_add_div hp, Nat.div_eq_of_lt hd, Nat.add_zero]
  have h1 : a = c := by rw [← e1, h, e2]
  subst h1
  exact ⟨rfl, by omega⟩

theorem gN_next {e f m : Nat} (h : m + 1 < pw (e + f)) : gN e f (m + 1) = gN e f m + 2 ^ (max (exN e f m) 1 - 1) := by
  have hp := pw_pos f
  have la : frN f m < pw f := by rw [frN_eq]; exact Nat.mod_lt _ hp
  have lb : frN f (m + 1) < pw f := by rw [frN_eq]; exact Nat.mod_lt _ hp
  have p1 := mg_parts e f m
  have p2 := mg_parts e f (m + 1)
  rw [mag_self (by omega)] at p1
  rw [mag_self h] at p2
  have hx : ∀ b, (vX e f b - baseI e f).toNat = max (exN e f b) 1 - 1 := fun b => by
    unfold vX baseI
    by_cases h0 : exN e f b = 0
    · rw [if_pos h0, h0]; omega
    · rw [if_neg h0]; omega
  unfold gN upW
  rw [hx, hx]
  unfold vN
  by_cases hc : frN f m + 1 < pw f
  · obtain ⟨q1, q2⟩ := uniq_div (P := pw f) (a := exN e f (m + 1)) (b := frN f (m + 1)) (c := exN e f m) (d := frN f m + 1) lb hc (by omega)
    rw [q1, q2]
    by_cases h0 : exN e f m = 0
    · rw [if_pos h0, if_pos h0, h0]; simp
    · rw [if_neg h0, if_neg h0, ← Nat.add_assoc, Nat.add_mul, Nat.one_mul]
  · have hc' : frN f m + 1 = pw f := by omega
    obtain ⟨q1, q2⟩ := uniq_div (P := pw f) (a := exN e f (m + 1)) (b := frN f (m + 1)) (c := exN e f m + 1) (d := 0) lb hp (by rw [Nat.add_mul, Nat.one_mul]; omega)
    rw [q1, q2]
    by_cases h0 : exN e f m = 0
    · rw [if_neg (by omega), if_pos h0, h0]; simp; omega
    · rw [if_neg (by omega), if_neg h0, Nat.add_zero, show max (exN e f m + 1) 1 - 1 = (exN e f m - 1) + 1 by omega, show max (exN e f m) 1 - 1 = exN e f m - 1 by omega, Nat.pow_succ]
      generalize 2 ^ (exN e f m - 1) = Z
      have h1 : (pw f + frN f m) * Z + Z = (pw f + frN f m + 1) * Z := by rw [Nat.add_mul (pw f + frN f m) 1, Nat.one_mul]
      rw [h1, show pw f + frN f m + 1 = 2 * pw f by omega, Nat.mul_comm Z 2, ← Nat.mul_assoc, Nat.mul_comm (pw f) 2]

end Go.Proofs.YtfjgmpfpadfknaaGreatDoor
end
section
namespace Go.Proofs.YtfjgmpfpadfknaaGreatDoor

open Go.RowKit Go.Lb

theorem gN_step {E F m : Nat} (h : m + 1 < pw (E + F)) : gN E F m < gN E F (m + 1) := by
  rw [gN_next h]
  have := Nat.two_pow_pos (max (exN E F m) 1 - 1)
  omega

theorem gN_mono {E F a b : Nat} (hab : a ≤ b) (hb : b < pw (E + F)) : gN E F a ≤ gN E F b := by
  induction b with
  | zero => rw [show a = 0 by omega]; exact Nat.le_refl _
  | succ b ih =>
    rcases Nat.lt_or_eq_of_le hab with h | h
    · exact Nat.le_trans (ih (by omega) (by omega)) (Nat.le_of_lt (gN_step hb))
    · rw [h]; exact Nat.le_refl _

end Go.Proofs.YtfjgmpfpadfknaaGreatDoor
end
