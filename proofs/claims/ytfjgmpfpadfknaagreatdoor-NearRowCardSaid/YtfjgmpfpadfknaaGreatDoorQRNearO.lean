/-
  The walk of near.Order: how two stand in the row of all bits.
-/
import Derived.Deep.CutRange
import Derived.ChangeKeysEq
import Derived.Test.YtfjgmpfpadfknaaGreatDoorQNbBase
import Derived.Test.YtfjgmpfpadfknaaGreatDoorQRNearU
namespace Go.Proofs.YtfjgmpfpadfknaaGreatDoor

open Go.RowKit Go.Lb

attribute [local go_sem] Go.World.cell?_alloc_some

/-- A block of two words that may be written. -/
structure BoxW (w : World) (b : Nat) (u v : Value) : Prop where
  c0 : w.cell? ⟨b, 0, none⟩ = some u
  c1 : w.cell? ⟨b, 1, none⟩ = some v
  z0 : w.frozen? ⟨b, 0, none⟩ = false
  z1 : w.frozen? ⟨b, 1, none⟩ = false

theorem bw_new (w : World) (u v : Value) (t : TypeId) : BoxW (w.alloc (.cells #[u, v] t)) w.heap.size u v := ⟨by simp, by simp, by simp [go_sem], by simp [go_sem]⟩

theorem BoxW.lt {w : World} {b : Nat} {u v : Value} (h : BoxW w b u v) : b < w.heap.size := World.block_lt_of_cell? w ⟨b, 0, none⟩ h.c0

theorem BoxW.stay {wp w' : World} {b : Nat} {u v : Value} (h : BoxW wp b u v) (k : Below wp.heap.size wp w') : BoxW w' b u v :=
  ⟨(cfStay ⟨h.c0, h.z0⟩ k).1, (cfStay ⟨h.c1, h.z1⟩ k).1, (cfStay ⟨h.c0, h.z0⟩ k).2, (cfStay ⟨h.c1, h.z1⟩ k).2⟩

theorem BoxW.alloc {w : World} {b : Nat} {u v : Value} (h : BoxW w b u v) (o : Obj) : BoxW (w.alloc o) b u v := h.stay ((Below.refl _ _).alloc (Nat.le_refl _) o)

theorem BoxW.drew {w : World} {b : Nat} {u v : Value} (h : BoxW w b u v) : BoxW w.drew b u v := h.stay (Below.refl _ _).drew

theorem bw_nex (w : World) (o : Obj) (u v : Value) (t : TypeId) : BoxW ((w.alloc o).alloc (.cells #[u, v] t)) (w.heap.size + 1) u v := by
  have := bw_new (w.alloc o) u v t
  rw [World.size_alloc] at this
  exact this

/-- Such a block, whatever it holds. -/
def BoxE (w : World) (b : Nat) : Prop := ∃ u v, BoxW w b u v

theorem BoxW.e {w : World} {b : Nat} {u v : Value} (h : BoxW w b u v) : BoxE w b := ⟨u, v, h⟩

theorem bw_put {w : World} {b : Nat} (h : BoxE w b) (x y : Value) : BoxW ((w.setCell ⟨b, 0, none⟩ x).setCell ⟨b, 1, none⟩ y) b x y := by
  obtain ⟨u, v, h⟩ := h
  exact ⟨(World.cell?_setCell_other _ _ _ _ (fun e => by cases e)).trans (World.cell?_setCell_same _ _ _ h.c0),
   World.cell?_setCell_same _ _ _ ((World.cell?_setCell_other _ _ _ _ (fun e => by cases e)).trans h.c1), by simp [h.z0], by simp [h.z1]⟩

theorem BoxW.other {w : World} {b p : Nat} {u v : Value} (h : BoxW w b u v) (hne : b ≠ p) (x y : Value) : BoxW ((w.setCell ⟨p, 0, none⟩ x).setCell ⟨p, 1, none⟩ y) b u v :=
  ⟨((World.cell?_setCell_other _ _ _ _ (fun e => hne (congrArg Addr.block e).symm)).trans (World.cell?_setCell_other _ _ _ _ (fun e => hne (congrArg Addr.block e).symm))).trans h.c0,
   ((World.cell?_setCell_other _ _ _ _ (fun e => hne (congrArg Addr.block e).symm)).trans (World.cell?_setCell_other _ _ _ _ (fun e => hne (congrArg Addr.block e).symm))).trans h.c1, by simp [h.z0], by simp [h.z1]⟩

theorem BoxE.other {w : World} {b p : Nat} (h : BoxE w b) (hne : b ≠ p) (x y : Value) : BoxE ((w.setCell ⟨p, 0, none⟩ x).setCell ⟨p, 1, none⟩ y) b := by
  obtain ⟨u, v, h⟩ := h
  exact (h.other hne x y).e

theorem BoxE.alloc {w : World} {b : Nat} (h : BoxE w b) (o : Obj) : BoxE (w.alloc o) b := by
  obtain ⟨u, v, h⟩ := h
  exact (h.alloc o).e

theorem eqArr2 {P : Program} (d : Nat) (t e : TypeId) (p q r s : Int) (W : World) (h : P.underlying t = some (.array 2 e)) (he : P.underlying e = some (.int .u64)) (hs : (P.info? e).map (·.size) = some 1) : (Op.equalIn (d + 1 + 1) t (.agg #[.int .u64 p, .int .u64 q]) (.agg #[.int .u64 r, .int .u64 s])).run P W = .ok (p == r && q == s) W := by
  obtain ⟨i, hi, hz⟩ := Option.map_eq_some_iff.1 hs
  have hI := run_equalIn_int W d e .u64 .u64 p r he
  have hJ := run_equalIn_int W d e .u64 .u64 q s he
  have hc : P.cellsOf e = 1 := by simp [Program.cellsOf, hi, hz]
  rw [run_equalIn_array W (d + 1) _ _ h hi, hc, show List.range 2 = [0, 1] from rfl]
  by_cases hpq : p = r
  · subst hpq
    by_cases hrs : q = s
    · subst hrs; simp [Op.eqItems, part, isAgg, run_underlying he, hI, hJ]
    · simp [Op.eqItems, part, isAgg, run_underlying he, hI, hJ, hrs]
  · simp [Op.eqItems, part, isAgg, run_underlying he, hI, hpq]

theorem eqRow (p q r s : Int) (W : World) : (Op.equalIn 10000 111 (.agg #[.int .u64 p, .int .u64 q]) (.agg #[.int .u64 r, .int .u64 s])).run Tryz.prog W = .ok (p == r && q == s) W :=
  eqArr2 9998 111 24 p q r s W Tryz.underlying111 Tryz.underlying24 (by kernel_rfl)

/-- Order's outcome. -/
def orV (e f : Int) (a b : Nat) : Int := if twoE e f a b ≠ 0 then 0 else if a = b then 0 else if rwA e.toNat f.toNat a < rwA e.toNat f.toNat b ∨ rwA e.toNat f.toNat a = rwA e.toNat f.toNat b ∧ rwN e.toNat f.toNat a < rwN e.toNat f.toNat b then -1 else 1

theorem row_same {E F a b : Nat} (l1 : a < pw (1 + E + F)) (l2 : b < pw (1 + E + F)) : (rwA E F a = rwA E F b ∧ rwN E F a = rwN E F b) ↔ a = b := by
  constructor
  · rintro ⟨h1, h2⟩
    unfold rwA at h1
    unfold rwN at h2
    rw [pw_one_more] at l1 l2
    cases ha : sgB E F a <;> cases hb : sgB E F b <;> rw [ha, hb] at h1 h2 <;> simp at h1 h2 <;> omega
  · rintro rfl
    exact ⟨rfl, rfl⟩

set_option maxRecDepth 100000 in
set_option maxHeartbeats 4000000 in
theorem nearOrder_any (e f : Int) (a b : Nat) (w : World) (ha : a < 18446744073709551616) (hb : b < 18446744073709551616) :
    Calls Tryz.prog 28 #[.agg #[.int .i64 e, .int .i64 f], .int .u64 (a : Int), .int .u64 (b : Int)] w fun en w' => en = .returned (.tuple #[.int .i64 (orV e f a b), .int .i64 (twoE e f a b)]) ∧ Below w.heap.size w w' := by
  have cN := fun W c0 c1 => number_two e f a b (w.heap.size + 1) W ha hb c0 c1
  have hW0 := more (more (Below.refl w.heap.size w) (.cells #[.int .i64 e, .int .i64 f] 23)) (.cells #[.int .u64 (a : Int), .int .u64 (b : Int)] 24)
  generalize decide (stE e f a b = 0) = is at cN
  by_cases h0 : twoE e f a b = 0
  · obtain ⟨p1, p2⟩ := twoE_ok h0
    obtain ⟨hf, l1⟩ := fitsE_parts p1
    obtain ⟨_, l2⟩ := fitsE_parts p2
    obtain ⟨q1, q2, q3, q4⟩ := formE_ok hf
    obtain ⟨E, rfl⟩ := Int.eq_ofNat_of_zero_le (by omega : 0 ≤ e)
    obtain ⟨F, rfl⟩ := Int.eq_ofNat_of_zero_le (by omega : 0 ≤ f)
    replace l1 : a < pw (1 + E + F) := l1
    replace l2 : b < pw (1 + E + F) := l2
    rw [h0] at cN
    rw [h0]
    have cP := fun W => nearRow_any E F a W hf l1
    have cQ := fun W => nearRow_any E F b W hf l2
    have hV : orV (E : Int) (F : Int) a b = if a = b then 0 else if rwA E F a < rwA E F b ∨ rwA E F a = rwA E F b ∧ rwN E F a < rwN E F b then -1 else 1 := if_neg (by simp [h0])
    have hS := row_same (E := E) (F := F) l1 l2
    have HV := Lib.hid hV
    have HS := Lib.hid hS
    clear hV hS p1 p2 hf l1 l2 q1 q2 q3 q4 h0
    generalize orV (E : Int) (F : Int) a b = R at *
    generalize rwA E F a = x0 at *
    generalize rwN E F a = x1 at *
    generalize rwA E F b = y0 at *
    generalize rwN E F b = y1 at *
    have A0 := (box2_new w (.int .i64 (E : Int)) (.int .i64 (F : Int)) 23).alloc (.cells #[.int .u64 (a : Int), .int .u64 (b : Int)] 24)
    go_enter Tryz.func28, Tryz.ntmps28
    go_upto_region 1 with fail
    go_wp2_with fail
    refine (cN _ (by simp) (by simp)).mono ?_
    rintro en w1 ⟨rfl, hb1⟩
    have A1 := A0.stay hb1
    have ⟨a0, a1⟩ := A1
    have hW1 := next hW0 hb1
    clear A0 hW0 hb1 cN
    go_upto_region 4 with fail
    go_cut [10, 11] from 23 to 28 (fun v10 v11 wx => ∃ P Q, v10 = .pointer (some ⟨P, 0, none⟩) ∧ v11 = .pointer (some ⟨Q, 0, none⟩) ∧ Below w1.heap.size w1 wx ∧ BoxW wx P (.int .u64 x0) (.int .u64 (x1 : Int)) ∧ BoxW wx Q (.int .u64 y0) (.int .u64 (y1 : Int)))
    case first => as_aux_lemma =>
      have kS : ∀ w' : World, Below w1.heap.size w1 w' → (w'.cell? ⟨w.heap.size, 0, none⟩ = some (.int .i64 (E : Int)) ∧ w'.cell? ⟨w.heap.size, 1, none⟩ = some (.int .i64 (F : Int)) ∧ Below w1.heap.size w1 w') := fun w' hb => ⟨cellStay a0 hb, cellStay a1 hb, hb⟩
      go_region_held3 (fun w' => w'.cell? ⟨w.heap.size, 0, none⟩ = some (.int .i64 (E : Int)) ∧ w'.cell? ⟨w.heap.size, 1, none⟩ = some (.int .i64 (F : Int)) ∧ Below w1.heap.size w1 w')
        ((refine kS _ ?_; (repeat (with_reducible (first | exact hAY | exact hAX | exact Below.refl _ _ | refine Below.drew ?_ | refine more ?_ _ | refine Below.setCell ?_ ?_ _ | exact Nat.le_refl _ | exact szX | exact szY | exact Nat.le_succ_of_le szX | exact Nat.le_succ_of_le szY | exact Nat.le_succ _))); done))
        (first
          | (go_at_call 78; (with_reducible refine (cP _).mono ?_); rintro en wX ⟨rfl, hbX⟩; have hAX : Below w1.heap.size w1 wX := (by with_reducible first | exact hbX | exact undrew hbX | exact next (more (Below.refl _ _) _) hbX | exact next (more (Below.refl _ _) _) (undrew hbX) | exact next (more (more (Below.refl _ _) _) _) hbX | exact next (more (more (Below.refl _ _) _) _) (undrew hbX)); have szX := hAX.size; (first | (have Z1 : BoxW wX w1.heap.size (.int .u64 0) (.int .u64 0) := (by with_reducible first | exact ((bw_new w1 (.int .u64 0) (.int .u64 0) 111).alloc _).stay hbX | exact ((bw_new w1 (.int .u64 0) (.int .u64 0) 111).alloc _).stay (undrew hbX)); have Z2 : BoxW wX (w1.heap.size + 1) (.int .u64 0) (.int .u64 0) := (by with_reducible first | exact (bw_nex w1 _ (.int .u64 0) (.int .u64 0) 111).stay hbX | exact (bw_nex w1 _ (.int .u64 0) (.int .u64 0) 111).stay (undrew hbX))) | (have Z1 : BoxW wX w1.heap.size (.int .u64 0) (.int .u64 0) := (by with_reducible first | exact (bw_new w1 (.int .u64 0) (.int .u64 0) 111).stay hbX | exact (bw_new w1 (.int .u64 0) (.int .u64 0) 111).stay (undrew hbX))) | skip); (try have ⟨z0, z1, z2, z3⟩ := Z1); (try have ⟨t0, t1, t2, t3⟩ := Z2))
          | (go_at_call 78; (with_reducible refine (cQ _).mono ?_); rintro en wY ⟨rfl, hbX⟩; have hXY : Below wX.heap.size wX wY := (by with_reducible first | exact hbX | exact undrew hbX | exact next (more (Below.refl _ _) _) hbX | exact next (more (Below.refl _ _) _) (undrew hbX) | exact next (more (more (Below.refl _ _) _) _) hbX | exact next (more (more (Below.refl _ _) _) _) (undrew hbX)); have hAY := next hAX hXY; have szY := hAY.size; (try have Z3 := Z1.stay hXY); (try have Z4 := Z2.stay hXY); (first | (have Y1 : BoxW wY wX.heap.size (.int .u64 0) (.int .u64 0) := (by with_reducible first | exact ((bw_new wX (.int .u64 0) (.int .u64 0) 111).alloc _).stay hbX | exact ((bw_new wX (.int .u64 0) (.int .u64 0) 111).alloc _).stay (undrew hbX)); have Y2 : BoxW wY (wX.heap.size + 1) (.int .u64 0) (.int .u64 0) := (by with_reducible first | exact (bw_nex wX _ (.int .u64 0) (.int .u64 0) 111).stay hbX | exact (bw_nex wX _ (.int .u64 0) (.int .u64 0) 111).stay (undrew hbX))) | (have Y1 : BoxW wY wX.heap.size (.int .u64 0) (.int .u64 0) := (by with_reducible first | exact (bw_new wX (.int .u64 0) (.int .u64 0) 111).stay hbX | exact (bw_new wX (.int .u64 0) (.int .u64 0) 111).stay (undrew hbX))) | skip); (try have ⟨z0, z1, z2, z3⟩ := Z3); (try have ⟨t0, t1, t2, t3⟩ := Z4); (try have ⟨z4, z5, z6, z7⟩ := Y1); (try have ⟨t4, t5, t6, t7⟩ := Y2); (try have n1 := Nat.ne_of_lt Y1.lt); (try have n2 := (Nat.ne_of_lt Y1.lt).symm); (try have n3 := Nat.ne_of_lt Z3.lt); (try have n4 := (Nat.ne_of_lt Z3.lt).symm); (try have n5 := Nat.ne_of_lt Z1.lt); (try have n6 := (Nat.ne_of_lt Z1.lt).symm); (try have ⟨i0, i1, i2, i3⟩ := Z3.alloc (.cells #[.int .u64 0, .int .u64 0] 111)); (try have ⟨i4, i5, i6, i7⟩ := Y1.alloc (.cells #[.int .u64 0, .int .u64 0] 111)); (try have ⟨j0, j1, j2, j3⟩ := Z3.alloc (.cells #[.int .u64 x0, .int .u64 (x1 : Int)] 111)); (try have ⟨j4, j5, j6, j7⟩ := Y1.alloc (.cells #[.int .u64 x0, .int .u64 (x1 : Int)] 111))))
      all_goals go_split_ands
      all_goals go_wp2
      all_goals go_meet
      all_goals
        refine ⟨_, _, rfl, rfl, ?_, ?_, ?_⟩
        · (repeat (with_reducible (first | exact hAY | exact hAX | exact Below.refl _ _ | refine Below.drew ?_ | refine more ?_ _ | refine Below.setCell ?_ ?_ _ | exact Nat.le_refl _ | exact szX | exact szY | exact Nat.le_succ_of_le szX | exact Nat.le_succ_of_le szY | exact Nat.le_succ _)))
        · (repeat (with_reducible (first | exact Z3 | exact Z4 | exact Y1 | exact Y2 | exact bw_new _ _ _ _ | exact bw_nex _ _ _ _ _ | exact Z3.e | exact Z4.e | exact Y1.e | exact Y2.e | exact (bw_new _ _ _ _).e | exact (bw_nex _ _ _ _ _).e | refine bw_put ?_ _ _ | refine BoxE.other ?_ (by omega) _ _ | refine BoxE.alloc ?_ _ | refine BoxW.other ?_ (by omega) _ _ | refine BoxW.alloc ?_ _ | refine BoxW.drew ?_)))
        · (repeat (with_reducible (first | exact Z3 | exact Z4 | exact Y1 | exact Y2 | exact bw_new _ _ _ _ | exact bw_nex _ _ _ _ _ | exact Z3.e | exact Z4.e | exact Y1.e | exact Y2.e | exact (bw_new _ _ _ _).e | exact (bw_nex _ _ _ _ _).e | refine bw_put ?_ _ _ | refine BoxE.other ?_ (by omega) _ _ | refine BoxE.alloc ?_ _ | refine BoxW.other ?_ (by omega) _ _ | refine BoxW.alloc ?_ _ | refine BoxW.drew ?_)))
    case rest => as_aux_lemma =>
      obtain ⟨P, Q, rfl, rfl, hbc, bP, bQ⟩ := hcut
      have hWc := next hW1 hbc
      have ⟨p0, p1, _, _⟩ := bP
      have ⟨r0, r1, _, _⟩ := bQ
      have hq := fun W => eqRow x0 (x1 : Int) y0 (y1 : Int) W
      clear cP cQ hW1 hbc a0 a1
      by_cases hab : a = b
      · obtain ⟨rfl, rfl⟩ := HS.out.2 hab
        have h3 := HV.out
        rw [if_pos hab] at h3
        subst h3
        clear HV HS hab
        go_wp2
        refine bodyPost_ret (v := .tuple #[.int .i64 0, .int .i64 0]) (by simp [results, Tryz.results28, go_sem]) rfl ⟨rfl, hWc⟩
      · have hne : (x0 == y0 && (x1 : Int) == (y1 : Int)) = false := by
          cases hh : (x0 == y0 && (x1 : Int) == (y1 : Int))
          · rfl
          · rw [Bool.and_eq_true, beq_iff_eq, beq_iff_eq] at hh
            exact absurd (HS.out.1 ⟨hh.1, by have := hh.2; omega⟩) hab
        rw [hne] at hq
        have h3 := HV.out
        rw [if_neg hab] at h3
        by_cases hlt : x0 < y0 ∨ x0 = y0 ∧ x1 < y1
        · rw [if_pos hlt] at h3
          subst h3
          clear HV HS hab hne
          rcases hlt with hlt | ⟨rfl, hlt⟩
          · go_wp2
            refine bodyPost_ret (v := .tuple #[.int .i64 (-1), .int .i64 0]) (by simp [results, Tryz.results28, go_sem]) rfl ⟨rfl, hWc⟩
          · have h4 : (x1 : Int) < (y1 : Int) := by omega
            go_wp2
            refine bodyPost_ret (v := .tuple #[.int .i64 (-1), .int .i64 0]) (by simp [results, Tryz.results28, go_sem]) rfl ⟨rfl, hWc⟩
        · rw [if_neg hlt] at h3
          subst h3
          clear HV HS hab hne
          have h5 : ¬ (x0 < y0) := fun h => hlt (.inl h)
          by_cases h6 : x0 = y0
          · subst h6
            have h4 : ¬ ((x1 : Int) < (y1 : Int)) := fun h => hlt (.inr ⟨rfl, by omega⟩)
            clear hlt
            go_wp2
            refine bodyPost_ret (v := .tuple #[.int .i64 1, .int .i64 0]) (by simp [results, Tryz.results28, go_sem]) rfl ⟨rfl, hWc⟩
          · clear hlt
            go_wp2
            refine bodyPost_ret (v := .tuple #[.int .i64 1, .int .i64 0]) (by simp [results, Tryz.results28, go_sem]) rfl ⟨rfl, hWc⟩
  · have hR : orV e f a b = 0 := if_pos h0
    rw [hR]
    clear hR
    generalize twoE e f a b = T at *
    go_enter Tryz.func28, Tryz.ntmps28
    go_upto_region 1 with fail
    go_wp2_with fail
    refine (cN _ (by simp) (by simp)).mono ?_
    rintro en w1 ⟨rfl, hb1⟩
    go_wp2
    refine bodyPost_ret (v := .tuple #[.int .i64 0, .int .i64 T]) (by simp [results, Tryz.results28, go_sem]) rfl ⟨rfl, next hW0 hb1⟩

end Go.Proofs.YtfjgmpfpadfknaaGreatDoor

