/-
  The walks of near.Steps (whole), near.Cmp, near.row, near.Order.
-/
import Derived.Deep.CutRange
import Derived.Test.YtfjgmpfpadfknaaGreatDoorQNbBase
namespace Go.Proofs.YtfjgmpfpadfknaaGreatDoor

open Go.RowKit Go.Lb

attribute [local go_sem] Go.World.cell?_alloc_some

/-- Steps: downward; how many. -/
def stB (e f : Int) (a b : Nat) : Bool := if stE e f a b = 0 then stD e.toNat f.toNat a b else false

def stN (e f : Int) (a b : Nat) : Int := if stE e f a b = 0 then stI e.toNat f.toNat a b else 0

/-- Cmp's outcome. -/
def cmV (e f : Int) (a b : Nat) : Int := if stE e f a b = 0 then (if IntKind.i64.wrap (plN e.toNat f.toNat a : Int) < IntKind.i64.wrap (plN e.toNat f.toNat b : Int) then -1 else if IntKind.i64.wrap (plN e.toNat f.toNat b : Int) < IntKind.i64.wrap (plN e.toNat f.toNat a : Int) then 1 else 0) else 0

theorem number_two (e f : Int) (a b pl : Nat) (W : World) (ha : a < 18446744073709551616) (hb : b < 18446744073709551616) (c0 : W.cell? ⟨pl, 0, none⟩ = some (.int .u64 (a : Int))) (c1 : W.cell? ⟨pl, 1, none⟩ = some (.int .u64 (b : Int))) :
    Calls Tryz.prog 47 #[.agg #[.int .i64 e, .int .i64 f], .slice (some ⟨pl, 0, none⟩) 2 2] W fun en w' => en = .returned (.tuple #[.int .i64 (twoE e f a b), .bool (decide (stE e f a b = 0))]) ∧ Below W.heap.size W w' := by
  have h := nearNumber_any pl e f [a, b] W (by simp) (by simp) (two_cells ha hb c0 c1)
  rw [askL_two, anN_two] at h
  have hq : (decide (twoE e f a b = 0) && !(nanB e.toNat f.toNat a || nanB e.toNat f.toNat b)) = decide (stE e f a b = 0) := by
    unfold stE
    by_cases h0 : twoE e f a b = 0
    · rw [decide_eq_true h0, if_neg (by simp [h0])]
      cases (nanB e.toNat f.toNat a || nanB e.toNat f.toNat b) <;> decide
    · rw [decide_eq_false h0, if_pos h0, decide_eq_false h0]; rfl
  rw [hq] at h
  exact h

theorem st_forms {e f : Int} {a b : Nat} (h : stE e f a b = 0) : ∃ E F : Nat, e = (E : Int) ∧ f = (F : Int) ∧ formE (E : Int) (F : Int) = 0 ∧ a < pw (1 + E + F) ∧ b < pw (1 + E + F) ∧ twoE e f a b = 0 := by
  have h0 : twoE e f a b = 0 := by
    by_cases h0 : twoE e f a b = 0
    · exact h0
    · unfold stE at h
      rw [if_pos h0] at h
      exact absurd h h0
  obtain ⟨p1, p2⟩ := twoE_ok h0
  obtain ⟨hf, l1⟩ := fitsE_parts p1
  obtain ⟨_, l2⟩ := fitsE_parts p2
  obtain ⟨q1, q2, q3, q4⟩ := formE_ok hf
  obtain ⟨E, rfl⟩ := Int.eq_ofNat_of_zero_le (by omega : 0 ≤ e)
  obtain ⟨F, rfl⟩ := Int.eq_ofNat_of_zero_le (by omega : 0 ≤ f)
  exact ⟨E, F, rfl, rfl, hf, l1, l2, h0⟩

theorem st_two {e f : Int} {a b : Nat} (h : stE e f a b ≠ 0) (h0 : twoE e f a b = 0) : stE e f a b = 2 := by
  unfold stE at h ⊢
  rw [if_neg (by simp [h0])] at h ⊢
  split at h
  · rename_i hh; rw [if_pos hh]
  · exact absurd rfl h

set_option maxRecDepth 100000 in
set_option maxHeartbeats 2000000 in
theorem nearSteps_any (e f : Int) (a b : Nat) (w : World) (ha : a < 18446744073709551616) (hb : b < 18446744073709551616) :
    Calls Tryz.prog 26 #[.agg #[.int .i64 e, .int .i64 f], .int .u64 (a : Int), .int .u64 (b : Int)] w fun en w' => en = .returned (.tuple #[.bool (stB e f a b), .int .u64 (stN e f a b), .int .i64 (stE e f a b)]) ∧ Below w.heap.size w w' := by
  by_cases hs : stE e f a b = 0
  · obtain ⟨E, F, rfl, rfl, hf, _, _, _⟩ := st_forms hs
    have := nearSteps_ok E F a b w hs ha hb
    rw [show stB (E : Int) (F : Int) a b = stD E F a b from if_pos hs, show stN (E : Int) (F : Int) a b = stI E F a b from if_pos hs, hs]
    exact this
  · have cN := fun W c0 c1 => number_two e f a b (w.heap.size + 1) W ha hb c0 c1
    rw [decide_eq_false hs] at cN
    rw [show stB e f a b = false from if_neg hs, show stN e f a b = 0 from if_neg hs]
    have hW0 := more (more (Below.refl w.heap.size w) (.cells #[.int .i64 e, .int .i64 f] 23)) (.cells #[.int .u64 (a : Int), .int .u64 (b : Int)] 24)
    by_cases h0 : twoE e f a b = 0
    · rw [st_two hs h0]
      rw [h0] at cN
      clear hs h0
      go_enter Tryz.func26, Tryz.ntmps26
      go_upto_region 1 with fail
      go_wp2_with fail
      refine (cN _ (by simp) (by simp)).mono ?_
      rintro en w1 ⟨rfl, hb1⟩
      go_wp2
      refine bodyPost_ret (v := .tuple #[.bool false, .int .u64 0, .int .i64 2]) (by simp [results, Tryz.results26, go_sem]) rfl ⟨rfl, next hW0 hb1⟩
    · have hE : stE e f a b = twoE e f a b := by unfold stE; rw [if_pos h0]
      rw [hE]
      clear hs hE
      generalize twoE e f a b = T at *
      go_enter Tryz.func26, Tryz.ntmps26
      go_upto_region 1 with fail
      go_wp2_with fail
      refine (cN _ (by simp) (by simp)).mono ?_
      rintro en w1 ⟨rfl, hb1⟩
      go_wp2
      refine bodyPost_ret (v := .tuple #[.bool false, .int .u64 0, .int .i64 T]) (by simp [results, Tryz.results26, go_sem]) rfl ⟨rfl, next hW0 hb1⟩

set_option maxRecDepth 100000 in
set_option maxHeartbeats 2000000 in
theorem nearCmp_any (e f : Int) (a b : Nat) (w : World) (ha : a < 18446744073709551616) (hb : b < 18446744073709551616) :
    Calls Tryz.prog 27 #[.agg #[.int .i64 e, .int .i64 f], .int .u64 (a : Int), .int .u64 (b : Int)] w fun en w' => en = .returned (.tuple #[.int .i64 (cmV e f a b), .bool (decide (stE e f a b = 0)), .int .i64 (twoE e f a b)]) ∧ Below w.heap.size w w' := by
  have cN := fun W c0 c1 => number_two e f a b (w.heap.size + 1) W ha hb c0 c1
  have hW0 := more (more (Below.refl w.heap.size w) (.cells #[.int .i64 e, .int .i64 f] 23)) (.cells #[.int .u64 (a : Int), .int .u64 (b : Int)] 24)
  by_cases hs : stE e f a b = 0
  · obtain ⟨E, F, rfl, rfl, hf, l1, l2, h0⟩ := st_forms hs
    rw [decide_eq_true hs, h0] at cN
    rw [decide_eq_true hs, h0]
    have hV : cmV (E : Int) (F : Int) a b = if IntKind.i64.wrap (plN E F a : Int) < IntKind.i64.wrap (plN E F b : Int) then -1 else if IntKind.i64.wrap (plN E F b : Int) < IntKind.i64.wrap (plN E F a : Int) then 1 else 0 := if_pos hs
    have cP := fun W => nearPlace_any E F a W hf l1
    have cQ := fun W => nearPlace_any E F b W hf l2
    have HV := Lib.hid hV
    clear hs hV h0 l1 l2 hf
    generalize cmV (E : Int) (F : Int) a b = R at *
    generalize plN E F a = x at *
    generalize plN E F b = y at *
    have A0 := (box2_new w (.int .i64 (E : Int)) (.int .i64 (F : Int)) 23).alloc (.cells #[.int .u64 (a : Int), .int .u64 (b : Int)] 24)
    go_enter Tryz.func27, Tryz.ntmps27
    go_upto_region 1 with fail
    go_wp2_with fail
    refine (cN _ (by simp) (by simp)).mono ?_
    rintro en w1 ⟨rfl, hb1⟩
    have A1 := A0.stay hb1
    have ⟨a0, a1⟩ := A1
    have hW1 := next hW0 hb1
    clear A0 hW0 hb1 cN
    go_upto_region 4 with fail
    have hbb := Below.refl w1.heap.size w1
    go_region_held3 (fun w' => w'.cell? ⟨w.heap.size, 0, none⟩ = some (.int .i64 (E : Int)) ∧ w'.cell? ⟨w.heap.size, 1, none⟩ = some (.int .i64 (F : Int)) ∧ Below w1.heap.size w1 w')
      ((go_split_ands; refine ⟨?_, ?_, ?_⟩ <;> (first | assumption | exact Below.drew (by assumption) | exact cellStay (by assumption) hbX | exact next (by assumption) hbX | (go_keep; done))))
      (first | (go_at_call 77; (with_reducible refine (cP _).mono ?_); rintro en wX ⟨rfl, hbX⟩) | (go_at_call 77; (with_reducible refine (cQ _).mono ?_); rintro en wX ⟨rfl, hbX⟩))
    all_goals go_split_ands
    all_goals
      by_cases g1 : IntKind.i64.wrap (x : Int) < IntKind.i64.wrap (y : Int)
      · have h3 := HV.out
        rw [if_pos g1] at h3
        subst h3
        have h2 : wrap64 (x : Int) < wrap64 (y : Int) := by rwa [IntWalk.i64_left, IntWalk.i64_left] at g1
        clear HV
        go_wp2
        refine bodyPost_ret (v := .tuple #[.int .i64 (-1), .bool true, .int .i64 0]) (by simp [results, Tryz.results27, go_sem]) rfl ⟨rfl, next hW1 (by assumption)⟩
      · by_cases g2 : IntKind.i64.wrap (y : Int) < IntKind.i64.wrap (x : Int)
        · have h3 := HV.out
          rw [if_neg g1, if_pos g2] at h3
          subst h3
          have h1 : ¬ (wrap64 (x : Int) < wrap64 (y : Int)) := by rwa [IntWalk.i64_left, IntWalk.i64_left] at g1
          have h2 : wrap64 (y : Int) < wrap64 (x : Int) := by rwa [IntWalk.i64_left, IntWalk.i64_left] at g2
          clear HV
          go_wp2
          refine bodyPost_ret (v := .tuple #[.int .i64 1, .bool true, .int .i64 0]) (by simp [results, Tryz.results27, go_sem]) rfl ⟨rfl, next hW1 (by assumption)⟩
        · have h3 := HV.out
          rw [if_neg g1, if_neg g2] at h3
          subst h3
          have h1 : ¬ (wrap64 (x : Int) < wrap64 (y : Int)) := by rwa [IntWalk.i64_left, IntWalk.i64_left] at g1
          have h2 : ¬ (wrap64 (y : Int) < wrap64 (x : Int)) := by rwa [IntWalk.i64_left, IntWalk.i64_left] at g2
          clear HV
          go_wp2
          refine bodyPost_ret (v := .tuple #[.int .i64 0, .bool true, .int .i64 0]) (by simp [results, Tryz.results27, go_sem]) rfl ⟨rfl, next hW1 (by assumption)⟩
  · rw [decide_eq_false hs] at cN
    rw [show cmV e f a b = 0 from if_neg hs, decide_eq_false hs]
    clear hs
    generalize twoE e f a b = T at *
    by_cases h0 : T = 0
    · subst h0
      go_enter Tryz.func27, Tryz.ntmps27
      go_upto_region 1 with fail
      go_wp2_with fail
      refine (cN _ (by simp) (by simp)).mono ?_
      rintro en w1 ⟨rfl, hb1⟩
      go_wp2
      refine bodyPost_ret (v := .tuple #[.int .i64 0, .bool false, .int .i64 0]) (by simp [results, Tryz.results27, go_sem]) rfl ⟨rfl, next hW0 hb1⟩
    · go_enter Tryz.func27, Tryz.ntmps27
      go_upto_region 1 with fail
      go_wp2_with fail
      refine (cN _ (by simp) (by simp)).mono ?_
      rintro en w1 ⟨rfl, hb1⟩
      go_wp2
      refine bodyPost_ret (v := .tuple #[.int .i64 0, .bool false, .int .i64 T]) (by simp [results, Tryz.results27, go_sem]) rfl ⟨rfl, next hW0 hb1⟩

/-- The row of all bits. -/
def rwA (e f b : Nat) : Int := if sgB e f b = true then 0 else 1

def rwN (e f b : Nat) : Nat := if sgB e f b = true then 2 * pw (e + f) - 1 - b else b

theorem row_words {P b : Nat} (h2 : b < 2 * P) (hP : P ≤ 9223372036854775808) (h0 : 0 < P) : ∃ u v : Int, IntKind.u64.wrap ((P : Int) * 2) = u ∧ IntKind.u64.wrap (u - 1) = v ∧ IntKind.u64.wrap (v - (b : Int)) = ((2 * P - 1 - b : Nat) : Int) := by
  by_cases hq : P = 9223372036854775808
  · subst hq
    exact ⟨0, 18446744073709551615, by decide, by decide, by rw [IntKind.wrap_u64]; omega⟩
  · exact ⟨(P : Int) * 2, (P : Int) * 2 - 1, by rw [IntKind.wrap_u64]; omega, by rw [IntKind.wrap_u64]; omega, by rw [IntKind.wrap_u64]; omega⟩

set_option maxRecDepth 100000 in
set_option maxHeartbeats 2000000 in
theorem nearRow_any (e f b : Nat) (w : World) (h : formE (e : Int) (f : Int) = 0) (hp : b < pw (1 + e + f)) :
    Calls Tryz.prog 78 #[.agg #[.int .i64 (e : Int), .int .i64 (f : Int)], .int .u64 (b : Int)] w fun en w' => en = .returned (.agg #[.int .u64 (rwA e f b), .int .u64 (rwN e f b : Int)]) ∧ Below w.heap.size w w' := by
  obtain ⟨hk, hP⟩ := top63 h
  have h2p : b < 2 * pw (e + f) := by rw [pw_one_more] at hp; exact hp
  have hat := and_top (b := b) (k := e + f) h2p hk
  have hsg := sg_iff hp
  have cS := fun W => nearSign_any e f W h
  obtain ⟨u, v, q1, q2, q3⟩ := row_words h2p hP (pw_pos _)
  have hpos := pw_pos (e + f)
  unfold rwA rwN
  obtain ⟨W2, hW2⟩ : ∃ W2 : World, W2 = (w.alloc (.cells #[.int .i64 (e : Int), .int .i64 (f : Int)] 23)).alloc (.cells #[.int .u64 0, .int .u64 0] 111) := ⟨_, rfl⟩
  have hb2 : Below w.heap.size w W2 := hW2 ▸ more (more (Below.refl _ _) _) _
  have F2 : Box2 W2 w.heap.size (.int .i64 (e : Int)) (.int .i64 (f : Int)) := hW2 ▸ (box2_new w _ _ _).alloc _
  have R2 : W2.cell? ⟨w.heap.size + 1, 0, none⟩ = some (.int .u64 0) ∧ W2.cell? ⟨w.heap.size + 1, 1, none⟩ = some (.int .u64 0) ∧ W2.frozen? ⟨w.heap.size + 1, 0, none⟩ = false ∧ W2.frozen? ⟨w.heap.size + 1, 1, none⟩ = false := by
    rw [hW2]
    refine ⟨?_, ?_, ?_, ?_⟩ <;> simp [go_sem]
  have hrl : w.heap.size + 1 < W2.heap.size := World.block_lt_of_cell? W2 ⟨w.heap.size + 1, 0, none⟩ R2.1
  have hR : ∀ w', Below W2.heap.size W2 w' → w'.cell? ⟨w.heap.size + 1, 0, none⟩ = some (.int .u64 0) ∧ w'.cell? ⟨w.heap.size + 1, 1, none⟩ = some (.int .u64 0) ∧ w'.frozen? ⟨w.heap.size + 1, 0, none⟩ = false ∧ w'.frozen? ⟨w.heap.size + 1, 1, none⟩ = false := fun w' hb =>
    ⟨cellStay R2.1 hb, cellStay R2.2.1 hb, (hb.frozen (p := ⟨w.heap.size + 1, 0, none⟩) hrl).trans R2.2.2.1, (hb.frozen (p := ⟨w.heap.size + 1, 1, none⟩) hrl).trans R2.2.2.2⟩
  have HR := Lib.hid hR
  clear R2 hR hp hP hk h2p
  rw [hsg]
  by_cases hl : b < pw (e + f)
  · rw [if_pos hl] at hat
    rw [if_neg (by simpa using hl), if_neg (by simpa using hl)]
    replace hat : bits BinOp.and IntKind.u64 (b : Int) (pw (e + f) : Int) = 0 := hat
    clear hl q1 q2 q3 hsg
    have ⟨f0, f1⟩ := F2
    go_enter Tryz.func78, Tryz.ntmps78
    go_upto_region 1 with fail
    rw [← hW2]
    clear hW2
    go_wp2_with fail
    refine (cS W2).mono ?_
    rintro en w3 ⟨rfl, hb3⟩
    have ⟨r0, r1, r2, r3⟩ := HR.out w3 hb3
    go_wp2
    refine bodyPost_ret (v := .agg #[.int .u64 1, .int .u64 (b : Int)]) (by simp [results, Tryz.results78, go_sem, r0, r1, World.cell?_setCell_other, cell_same]) rfl ⟨rfl, ((next hb2 hb3).setCell (by simp) _).setCell (by simp) _⟩
  · rw [if_neg hl] at hat
    rw [if_pos (by simpa using hl), if_pos (by simpa using hl)]
    have hne : ¬ ((pw (e + f) : Int) = 0) := by omega
    generalize 2 * pw (e + f) - 1 - b = Z at *
    clear hl hsg
    have ⟨f0, f1⟩ := F2
    go_enter Tryz.func78, Tryz.ntmps78
    go_upto_region 1 with fail
    rw [← hW2]
    clear hW2
    go_wp2_with fail
    refine (cS W2).mono ?_
    rintro en w3 ⟨rfl, hb3⟩
    have F3 := F2.stay hb3
    have g0 := F3.c0
    have g1 := F3.c1
    go_wp2_with fail
    refine (cS w3).mono ?_
    rintro en w4 ⟨rfl, hb4⟩
    have ⟨r0, r1, r2, r3⟩ := HR.out w4 (next hb3 hb4)
    go_wp2
    refine bodyPost_ret (v := .agg #[.int .u64 0, .int .u64 (Z : Int)]) (by simp [results, Tryz.results78, go_sem, r0, r1, World.cell?_setCell_other, cell_same]) rfl ⟨rfl, ((next hb2 (next hb3 hb4)).setCell (by simp) _).setCell (by simp) _⟩

end Go.Proofs.YtfjgmpfpadfknaaGreatDoor

