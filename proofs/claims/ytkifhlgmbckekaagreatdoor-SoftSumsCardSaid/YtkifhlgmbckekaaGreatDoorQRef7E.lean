/-
  The reference of layer 7: Add.
-/
import Derived.Test.YtkifhlgmbckekaaGreatDoorQMS15
import Derived.Test.YtkifhlgmbckekaaGreatDoorQMS17
namespace Go.Proofs.YtkifhlgmbckekaaGreatDoor

open Go.RowKit Go.Lb

attribute [local go_sem] Go.World.cell?_alloc_some

/-- The exact sum of two floats' worths. -/
def adD (e f a b : Nat) : Ds := addA (valS (e : Int) (f : Int) a) (limbs (valN (e : Int) (f : Int) a)) (valX (e : Int) (f : Int) a) (valS (e : Int) (f : Int) b) (limbs (valN (e : Int) (f : Int) b)) (valX (e : Int) (f : Int) b)

/-- A sum's bits and flags. -/
def adB (e f a b m : Nat) : Nat :=
  if (nanB e f a || nanB e f b) = true then nanN e f else if (infB e f a && infB e f b && (sgB e f a != sgB e f b)) = true then nanN e f else if infB e f a = true then a else if infB e f b = true then b else smB e f (adD e f a b) (smS (decide (valN (e : Int) (f : Int) a = 0)) (sgB e f a) (sgB e f b) m) m

def adG (e f a b m : Nat) : Int :=
  if (nanB e f a || nanB e f b) = true then loudN [(nanB e f a, qtB f a), (nanB e f b, qtB f b)] else if (infB e f a && infB e f b && (sgB e f a != sgB e f b)) = true then 16 else if infB e f a = true then 0 else if infB e f b = true then 0 else (smG e f (adD e f a b) m : Int)

set_option maxRecDepth 100000 in
set_option maxHeartbeats 4000000 in
theorem refAdd7_good (e f a b m : Nat) (w : World) (hm : m < 5) (ha : a < 18446744073709551616) (hb : b < 18446744073709551616) (h : twoE e f a b = 0)
    (hB : exN e f a ≠ maskN e → exN e f b ≠ maskN e → -5000 ≤ (adD e f a b).x ∧ (adD e f a b).x ≤ 5000 ∧ (limbs (adD e f a b).N).length ≤ 200) :
    Calls Tryz.prog 17 #[.agg #[.int .i64 (e : Int), .int .i64 (f : Int)], .int .u64 (a : Int), .int .u64 (b : Int), .int .u8 (m : Int)] w fun en w' => en = .returned (.tuple #[.int .u64 (adB e f a b m : Int), .int .u8 (adG e f a b m), .int .i64 0]) ∧ Below w.heap.size w w' := by
  have cA0 := fun W hv => asked_any (w.heap.size + 1) e f (m : Int) [a, b] W (by simp) hv
  have hE : askE e f (m : Int) [a, b] = 0 := by unfold askE; rw [askL_two, if_neg (by simp [h]), if_neg (by omega)]
  rw [hE] at cA0
  have hv : ∀ W : World, W.cell? ⟨w.heap.size + 1, 0, none⟩ = some (.int .u64 a) → W.cell? ⟨w.heap.size + 1, 1, none⟩ = some (.int .u64 b) → ∀ j, (h : j < [a, b].length) → [a, b][j] < 18446744073709551616 ∧ W.cell? ⟨w.heap.size + 1, j, none⟩ = some (.int .u64 ([a, b][j] : Nat)) := by
    intro W c0 c1 j hj
    match j, hj with
    | 0, _ => exact ⟨ha, c0⟩
    | 1, _ => exact ⟨hb, c1⟩
  clear hE
  obtain ⟨p1, p2⟩ := twoE_ok h
  obtain ⟨f1, l1⟩ := fitsE_parts p1
  have l2 := (fitsE_parts p2).2
  have cA := fun W => refOpen_any e f a W f1 ha l1
  have cB := fun W => refOpen_any e f b W f1 hb l2
  go_enter Tryz.func17, Tryz.ntmps17
  go_wp2_with (go_at_call 65; refine (cA0 _ (hv _ (by simp) (by simp))).mono ?_; rintro en w1 ⟨rfl, hb1⟩; have hW := next (more (more (Below.refl _ _) _) _) hb1; have A := ((box2_new w (.int .i64 (e : Int)) (.int .i64 (f : Int)) 23).alloc (.cells #[.int .u64 (a : Int), .int .u64 (b : Int)] 24)).stay hb1; have ⟨a0, a1⟩ := A)
  have kS : ∀ w' : World, Below w1.heap.size w1 w' → (w'.cell? ⟨w.heap.size, 0, none⟩ = some (.int .i64 (e : Int)) ∧ w'.cell? ⟨w.heap.size, 1, none⟩ = some (.int .i64 (f : Int)) ∧ Below w1.heap.size w1 w') := fun w' hb => ⟨cellStay a0 hb, cellStay a1 hb, hb⟩
  clear hv cA0
  go_cut [12, 13] from 18 (fun vx vy wx => ∃ bx bY qa sa aoa na ca xa qb sb aob nb cb xb, vx = .pointer (some ⟨bx, 0, none⟩) ∧ vy = .pointer (some ⟨bY, 0, none⟩) ∧ TwoF e f a b w1 wx bx bY qa sa aoa na ca xa qb sb aob nb cb xb)
  case first =>
    go_region_held3 (fun w' => w'.cell? ⟨w.heap.size, 0, none⟩ = some (.int .i64 (e : Int)) ∧ w'.cell? ⟨w.heap.size, 1, none⟩ = some (.int .i64 (f : Int)) ∧ Below w1.heap.size w1 w')
      ((refine kS _ ?_; (repeat (with_reducible (first | exact hWB | exact hWA | exact Below.refl _ _ | refine Below.drew ?_ | refine more ?_ _ | refine Below.setCell ?_ ?_ _ | exact Nat.le_refl _ | exact szA | exact szB | exact Nat.le_succ_of_le szA | exact Nat.le_succ _ | exact Nat.le_succ_of_le szB))); done))
      (first | (go_at_call 66; (with_reducible refine (cA _).mono ?_); rintro en wA ⟨qa, sa, aoa, na, ca, xa, rfl, hqa, hfa, hbA⟩; have hWA : Below w1.heap.size w1 wA := (by go_split_ands; exact next (by assumption) hbA); have szA := hWA.size; (first | (have Z1 := ((box7_new w1 (.bool false) (.bool false) (.bool false) (.bool false) (.bool false) (.slice none 0 0) (.int .i64 0) 98).alloc (.cells #[.bool false, .bool false, .bool false, .bool false, .bool false, .slice none 0 0, .int .i64 0] 98)).stay (by first | exact hbA | exact undrew hbA); have Z2 := (box7_new (w1.alloc (.cells #[.bool false, .bool false, .bool false, .bool false, .bool false, .slice none 0 0, .int .i64 0] 98)) (.bool false) (.bool false) (.bool false) (.bool false) (.bool false) (.slice none 0 0) (.int .i64 0) 98).stay (by first | exact hbA | exact undrew hbA); rw [World.size_alloc] at Z2; have ⟨v1_0, v1_1, v1_2, v1_3, v1_4, v1_5, v1_6, v1z0, v1z1, v1z2, v1z3, v1z4, v1z5, v1z6⟩ := Z1; have v1l := Z1.lt; have v1m := Nat.lt_succ_of_lt v1l; have ⟨v2_0, v2_1, v2_2, v2_3, v2_4, v2_5, v2_6, v2z0, v2z1, v2z2, v2z3, v2z4, v2z5, v2z6⟩ := Z2; have v2l := Z2.lt; have v2m := Nat.lt_succ_of_lt v2l) | (have Z1 := (box7_new w1 (.bool false) (.bool false) (.bool false) (.bool false) (.bool false) (.slice none 0 0) (.int .i64 0) 98).stay (by first | exact hbA | exact undrew hbA); have ⟨v3_0, v3_1, v3_2, v3_3, v3_4, v3_5, v3_6, v3z0, v3z1, v3z2, v3z3, v3z4, v3z5, v3z6⟩ := Z1; have v3l := Z1.lt; have v3m := Nat.lt_succ_of_lt v3l) | skip)) | (go_at_call 66; (with_reducible refine (cB _).mono ?_); rintro en wB ⟨qb, sb, aob, nb, cb, xb, rfl, hqb, hfb, hbB⟩; have hWB : Below w1.heap.size w1 wB := (by go_split_ands; exact next (by assumption) hbB); have szB := hWB.size; have hAB : Below wA.heap.size wA wB := (by first | exact hbB | exact undrew hbB | exact next (more (Below.refl _ _) _) hbB | exact next (more (Below.refl _ _) _).drew hbB | exact next (more (more (Below.refl _ _) _) _) hbB | exact next (more (more (Below.refl _ _) _) _).drew hbB); have szC := hAB.size; (first | (have Y1 := Z1.stay hAB; have Y2 := Z2.stay hAB; have ⟨v4_0, v4_1, v4_2, v4_3, v4_4, v4_5, v4_6, v4z0, v4z1, v4z2, v4z3, v4z4, v4z5, v4z6⟩ := Y1; have v4l := Y1.lt; have v4m := Nat.lt_succ_of_lt v4l; have ⟨v5_0, v5_1, v5_2, v5_3, v5_4, v5_5, v5_6, v5z0, v5z1, v5z2, v5z3, v5z4, v5z5, v5z6⟩ := Y2; have v5l := Y2.lt; have v5m := Nat.lt_succ_of_lt v5l) | (have Y1 := Z1.stay hAB; have ⟨v6_0, v6_1, v6_2, v6_3, v6_4, v6_5, v6_6, v6z0, v6z1, v6z2, v6z3, v6z4, v6z5, v6z6⟩ := Y1; have v6l := Y1.lt; have v6m := Nat.lt_succ_of_lt v6l; have Y3 := (box7_new wA (.bool false) (.bool false) (.bool false) (.bool false) (.bool false) (.slice none 0 0) (.int .i64 0) 98).stay (by first | exact hbB | exact undrew hbB); have ⟨v7_0, v7_1, v7_2, v7_3, v7_4, v7_5, v7_6, v7z0, v7z1, v7z2, v7z3, v7z4, v7z5, v7z6⟩ := Y3; have v7l := Y3.lt; have v7m := Nat.lt_succ_of_lt v7l) | (have Y1 := Z1.stay hAB; have ⟨v8_0, v8_1, v8_2, v8_3, v8_4, v8_5, v8_6, v8z0, v8z1, v8z2, v8z3, v8z4, v8z5, v8z6⟩ := Y1; have v8l := Y1.lt; have v8m := Nat.lt_succ_of_lt v8l) | (have Y3 := ((box7_new wA (.bool false) (.bool false) (.bool false) (.bool false) (.bool false) (.slice none 0 0) (.int .i64 0) 98).alloc (.cells #[.bool false, .bool false, .bool false, .bool false, .bool false, .slice none 0 0, .int .i64 0] 98)).stay (by first | exact hbB | exact undrew hbB); have Y4 := (box7_new (wA.alloc (.cells #[.bool false, .bool false, .bool false, .bool false, .bool false, .slice none 0 0, .int .i64 0] 98)) (.bool false) (.bool false) (.bool false) (.bool false) (.bool false) (.slice none 0 0) (.int .i64 0) 98).stay (by first | exact hbB | exact undrew hbB); rw [World.size_alloc] at Y4; have ⟨v9_0, v9_1, v9_2, v9_3, v9_4, v9_5, v9_6, v9z0, v9z1, v9z2, v9z3, v9z4, v9z5, v9z6⟩ := Y3; have v9l := Y3.lt; have v9m := Nat.lt_succ_of_lt v9l; have ⟨v10_0, v10_1, v10_2, v10_3, v10_4, v10_5, v10_6, v10z0, v10z1, v10z2, v10z3, v10z4, v10z5, v10z6⟩ := Y4; have v10l := Y4.lt; have v10m := Nat.lt_succ_of_lt v10l) | (have Y3 := (box7_new wA (.bool false) (.bool false) (.bool false) (.bool false) (.bool false) (.slice none 0 0) (.int .i64 0) 98).stay (by first | exact hbB | exact undrew hbB); have ⟨v11_0, v11_1, v11_2, v11_3, v11_4, v11_5, v11_6, v11z0, v11z1, v11z2, v11z3, v11z4, v11z5, v11z6⟩ := Y3; have v11l := Y3.lt; have v11m := Nat.lt_succ_of_lt v11l) | skip)))
    all_goals go_split_ands
    all_goals go_wp2
    all_goals go_meet
    all_goals
      refine ⟨_, _, qa, sa, aoa, na, ca, xa, qb, sb, aob, nb, cb, xb, rfl, rfl, ⟨?_, ?_, ?_, hqa, hqb, ?_, ?_⟩⟩
      · (repeat (with_reducible (first | exact hWB | exact hWA | exact Below.refl _ _ | refine Below.drew ?_ | refine more ?_ _ | refine Below.setCell ?_ ?_ _ | exact Nat.le_refl _ | exact szA | exact szB | exact Nat.le_succ_of_le szA | exact Nat.le_succ _ | exact Nat.le_succ_of_le szB)))
      · (repeat (with_reducible (first | assumption | exact box7_at (by first | rfl | (simp; done)) .. | exact box7_nex (by first | rfl | (simp; done)) .. | refine Box7.alloc ?_ _ | refine Ex7.set ?_ .. | exact Ex7.of Z1 | exact Ex7.of Z2 | exact Ex7.of Y1 | exact Ex7.of Y2 | exact Ex7.of Y3 | exact Ex7.of Y4 | exact Ex7.of (box7_at (by first | rfl | (simp; done)) ..) | exact Ex7.of (box7_nex (by first | rfl | (simp; done)) ..) | refine Ex7.alloc ?_ _ | refine Ex7.other ?_ (by first | exact Nat.ne_of_lt (by assumption) | exact (Nat.ne_of_lt (by assumption)).symm | exact Nat.ne_of_lt (Nat.lt_succ_self _) | exact (Nat.ne_of_lt (Nat.lt_succ_self _)).symm | omega) .. | refine Box7.other ?_ (by first | exact Nat.ne_of_lt (by assumption) | exact (Nat.ne_of_lt (by assumption)).symm | exact Nat.ne_of_lt (Nat.lt_succ_self _) | exact (Nat.ne_of_lt (Nat.lt_succ_self _)).symm | omega) ..)))
      · (repeat (with_reducible (first | assumption | exact box7_at (by first | rfl | (simp; done)) .. | exact box7_nex (by first | rfl | (simp; done)) .. | refine Box7.alloc ?_ _ | refine Ex7.set ?_ .. | exact Ex7.of Z1 | exact Ex7.of Z2 | exact Ex7.of Y1 | exact Ex7.of Y2 | exact Ex7.of Y3 | exact Ex7.of Y4 | exact Ex7.of (box7_at (by first | rfl | (simp; done)) ..) | exact Ex7.of (box7_nex (by first | rfl | (simp; done)) ..) | refine Ex7.alloc ?_ _ | refine Ex7.other ?_ (by first | exact Nat.ne_of_lt (by assumption) | exact (Nat.ne_of_lt (by assumption)).symm | exact Nat.ne_of_lt (Nat.lt_succ_self _) | exact (Nat.ne_of_lt (Nat.lt_succ_self _)).symm | omega) .. | refine Box7.other ?_ (by first | exact Nat.ne_of_lt (by assumption) | exact (Nat.ne_of_lt (by assumption)).symm | exact Nat.ne_of_lt (Nat.lt_succ_self _) | exact (Nat.ne_of_lt (Nat.lt_succ_self _)).symm | omega) ..)))
      · intro h; obtain ⟨h1, h2, h3⟩ := hfa h; refine ⟨h1, h2, ?_⟩; have F := frT h3; (try simp only [World.size_alloc] at F); refine FrT.slo F ?_; (repeat (with_reducible (first | exact F | exact FrT.below F hAB | refine FrT.alloc ?_ _ | refine FrT.drew ?_ | refine FrT.set7 ?_ (by first | (simp; done) | (simp; omega) | omega) ..)))
      · intro h; obtain ⟨h1, h2, h3⟩ := hfb h; refine ⟨h1, h2, ?_⟩; have F := frT h3; (try simp only [World.size_alloc] at F); refine FrT.slo F ?_; (repeat (with_reducible (first | exact F | exact FrT.below F hAB | refine FrT.alloc ?_ _ | refine FrT.drew ?_ | refine FrT.set7 ?_ (by first | (simp; done) | (simp; omega) | omega) ..)))
  case rest =>
    obtain ⟨bx, bY, qa, sa, aoa, na, ca, xa, qb, sb, aob, nb, cb, xb, rfl, rfl, H⟩ := hcut
    have hWc := next hW H.below
    replace a0 := cellStay a0 H.below
    replace a1 := cellStay a1 H.below
    have ⟨x0, x1, x2, x3, x4, x5, x6, _, _, _, _, _, _, _⟩ := H.cx
    have ⟨y0, y1, y2, y3, y4, y5, y6, _, _, _, _, _, _, _⟩ := H.cy
    clear kS A cA cB hW hb1
    go_wp2_with fail
    (refine (nans_two _ (nanB e f a) qa (nanB e f b) qb _ (by simp) (by simp) (by simp) (by simp)).mono ?_)
    rintro en wN ⟨rfl, hbN⟩
    have hNN : Below wc.heap.size wc wN := next (more (Below.refl _ _) _) hbN
    have V := next hWc hNN
    replace a0 := cellStay a0 hNN
    replace a1 := cellStay a1 hNN
    have hX := H.cx.stay hNN
    have hY := H.cy.stay hNN
    have hqx := H.qx
    have hqy := H.qy
    have hfx := fun hx => (H.fx hx).2.2.below hNN
    have hfy := fun hx => (H.fy hx).2.2.below hNN
    have gx := H.fx
    have gy := H.fy
    have cN := fun W => refNaN7_any e f W f1
    clear x0 x1 x2 x3 x4 x5 x6 y0 y1 y2 y3 y4 y5 y6 H hbN hNN hWc
    by_cases hv : (nanB e f a || nanB e f b) = true
    · have e1 : adB e f a b m = nanN e f := by unfold adB; rw [if_pos hv]
      have e2 : adG e f a b m = loudN [(nanB e f a, qtB f a), (nanB e f b, qtB f b)] := by unfold adG; rw [if_pos hv]
      have e3 : loudN [(nanB e f a, qa), (nanB e f b, qb)] = loudN [(nanB e f a, qtB f a), (nanB e f b, qtB f b)] := by
        cases h1 : nanB e f a <;> cases h2 : nanB e f b
        · rfl
        · simp [loudN, loudB, hqy h2]
        · simp [loudN, loudB, hqx h1]
        · simp [loudN, loudB, hqx h1, hqy h2]
      obtain ⟨g, hg⟩ : ∃ g, g = adG e f a b m := ⟨_, rfl⟩
      rw [hv, e3, ← e2, ← hg]
      have HG := Lib.hid hg
      clear hg
      have HE1 := Lib.hid e1
      clear e1 e2 e3 hqx hqy gx gy hfx hfy hX hY hB hv
      go_wp2_with fail
      refine (cN wN).mono ?_
      rintro en w5 ⟨rfl, hb5⟩
      go_wp2
      refine bodyPost_ret (v := .tuple #[.int .u64 (nanN e f : Int), .int .u8 g, .int .i64 0]) (by simp [results, Tryz.results17, go_sem]) rfl ⟨by rw [HE1.out, ← HG.out], next V hb5⟩
    · have hv' : (nanB e f a || nanB e f b) = false := by simpa using hv
      rw [hv']
      have hna : nanB e f a = false := by cases h1 : nanB e f a <;> simp_all
      have hnb : nanB e f b = false := by cases h1 : nanB e f b <;> simp_all
      have hb1 : adB e f a b m = if (infB e f a && infB e f b && (sgB e f a != sgB e f b)) = true then nanN e f else if infB e f a = true then a else if infB e f b = true then b else smB e f (adD e f a b) (smS (decide (valN (e : Int) (f : Int) a = 0)) (sgB e f a) (sgB e f b) m) m := by unfold adB; rw [if_neg hv]
      have hg1 : adG e f a b m = if (infB e f a && infB e f b && (sgB e f a != sgB e f b)) = true then 16 else if infB e f a = true then 0 else if infB e f b = true then 0 else (smG e f (adD e f a b) m : Int) := by unfold adG; rw [if_neg hv]
      have hex : ∀ c, nanB e f c = false → infB e f c = false → exN e f c ≠ maskN e := fun c h1 h2 h3 => by
        by_cases h4 : frN f c = 0
        · exact absurd (decide_eq_true (p := exN e f c = maskN e ∧ frN f c = 0) ⟨h3, h4⟩) (by unfold infB at h2; rw [h2]; decide)
        · exact absurd (decide_eq_true (p := exN e f c = maskN e ∧ frN f c ≠ 0) ⟨h3, h4⟩) (by unfold nanB at h1; rw [h1]; decide)
      have HB1 := Lib.hid hb1
      have HG1 := Lib.hid hg1
      clear hb1 hg1 hv hqx hqy
      cases hia : infB e f a
      · cases hib : infB e f b
        · have xa' := hex a hna hia
          have xb' := hex b hnb hib
          obtain ⟨g1, g2, _⟩ := gx xa'
          obtain ⟨g3, g4, _⟩ := gy xb'
          obtain ⟨b1, b2, b3⟩ := hB xa' xb'
          have hlen := (hfx xa').len
          have hz : decide (na = 0) = decide (valN (e : Int) (f : Int) a = 0) := by
            rw [← hlen]
            by_cases h0 : valN (e : Int) (f : Int) a = 0
            · rw [h0, limbs_zero]; rfl
            · rw [limbs_pos h0, decide_eq_false h0]; rfl
          have cS := sum7_any e f (valS (e : Int) (f : Int) a) (valS (e : Int) (f : Int) b) (sgB e f a) (sgB e f b) aoa aob na nb ca cb m (valX (e : Int) (f : Int) a) (valX (e : Int) (f : Int) b) _ _ wN f1 hm (hfx xa') (hfy xb') b1 b2 b3
          have HR : Hid (adB e f a b m = smB e f (adD e f a b) (smS (decide (valN (e : Int) (f : Int) a = 0)) (sgB e f a) (sgB e f b) m) m ∧ adG e f a b m = (smG e f (adD e f a b) m : Int)) := Lib.hid (by rw [HB1.out, HG1.out, hia, hib]; exact ⟨rfl, rfl⟩)
          rw [hz] at cS
          rw [hia, g1, g2] at hX
          rw [hib, g3, g4] at hY
          clear HB1 HG1 gx gy hfx hfy hB cN xa' xb' g1 g2 g3 g4 b1 b2 b3 hlen hz hia hib hna hnb hex
          have ⟨x0, x1, x2, x3, x4, x5, x6, _, _, _, _, _, _, _⟩ := hX
          have ⟨y0, y1, y2, y3, y4, y5, y6, _, _, _, _, _, _, _⟩ := hY
          go_wp2_with fail
          refine cS.mono ?_
          rintro en w5 ⟨rfl, hb5⟩
          go_wp2
          refine bodyPost_ret (v := .tuple #[.int .u64 _, .int .u8 _, .int .i64 0]) (by simp [results, Tryz.results17, go_sem]; exact ⟨rfl, rfl⟩) rfl ⟨by rw [HR.out.1, HR.out.2]; rfl, next V hb5⟩
        · rw [hia] at hX
          rw [hib] at hY
          have HR : Hid (adB e f a b m = b ∧ adG e f a b m = 0) := Lib.hid (by rw [HB1.out, HG1.out, hia, hib]; exact ⟨rfl, rfl⟩)
          clear HB1 HG1 hia hib gx gy hfx hfy hB cN
          have ⟨x0, x1, x2, x3, x4, x5, x6, _, _, _, _, _, _, _⟩ := hX
          have ⟨y0, y1, y2, y3, y4, y5, y6, _, _, _, _, _, _, _⟩ := hY
          go_wp2
          refine bodyPost_ret (v := .tuple #[.int .u64 (b : Int), .int .u8 0, .int .i64 0]) (by simp [results, Tryz.results17, go_sem]) rfl ⟨by rw [HR.out.1, HR.out.2], V⟩
      · cases hib : infB e f b
        · rw [hia] at hX
          rw [hib] at hY
          have HR : Hid (adB e f a b m = a ∧ adG e f a b m = 0) := Lib.hid (by rw [HB1.out, HG1.out, hia, hib]; exact ⟨rfl, rfl⟩)
          clear HB1 HG1 hia hib gx gy hfx hfy hB cN
          have ⟨x0, x1, x2, x3, x4, x5, x6, _, _, _, _, _, _, _⟩ := hX
          have ⟨y0, y1, y2, y3, y4, y5, y6, _, _, _, _, _, _, _⟩ := hY
          go_wp2
          refine bodyPost_ret (v := .tuple #[.int .u64 (a : Int), .int .u8 0, .int .i64 0]) (by simp [results, Tryz.results17, go_sem]) rfl ⟨by rw [HR.out.1, HR.out.2], V⟩
        · rw [hia] at hX
          rw [hib] at hY
          cases hsa : sgB e f a <;> cases hsb : sgB e f b
          all_goals
            have HR := Lib.hid (And.intro HB1.out HG1.out)
            rw [hia, hib, hsa, hsb] at HR
            rw [hsa] at hX
            rw [hsb] at hY
            clear HB1 HG1 hia hib hsa hsb gx gy hfx hfy hB
            have ⟨x0, x1, x2, x3, x4, x5, x6, _, _, _, _, _, _, _⟩ := hX
            have ⟨y0, y1, y2, y3, y4, y5, y6, _, _, _, _, _, _, _⟩ := hY
            go_wp2_with fail
          · refine bodyPost_ret (v := .tuple #[.int .u64 (a : Int), .int .u8 0, .int .i64 0]) (by simp [results, Tryz.results17, go_sem]) rfl ⟨by rw [HR.out.1, HR.out.2]; rfl, V⟩
          · refine (cN wN).mono ?_
            rintro en w5 ⟨rfl, hb5⟩
            go_wp2
            refine bodyPost_ret (v := .tuple #[.int .u64 (nanN e f : Int), .int .u8 16, .int .i64 0]) (by simp [results, Tryz.results17, go_sem]) rfl ⟨by rw [HR.out.1, HR.out.2]; rfl, next V hb5⟩
          · refine (cN wN).mono ?_
            rintro en w5 ⟨rfl, hb5⟩
            go_wp2
            refine bodyPost_ret (v := .tuple #[.int .u64 (nanN e f : Int), .int .u8 16, .int .i64 0]) (by simp [results, Tryz.results17, go_sem]) rfl ⟨by rw [HR.out.1, HR.out.2]; rfl, next V hb5⟩
          · refine bodyPost_ret (v := .tuple #[.int .u64 (a : Int), .int .u8 0, .int .i64 0]) (by simp [results, Tryz.results17, go_sem]) rfl ⟨by rw [HR.out.1, HR.out.2]; rfl, V⟩

end Go.Proofs.YtkifhlgmbckekaaGreatDoor

