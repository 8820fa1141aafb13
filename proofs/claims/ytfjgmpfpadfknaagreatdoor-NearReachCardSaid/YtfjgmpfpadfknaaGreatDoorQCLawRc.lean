/-
  The law numerallaw06.NearReach answers true, whatever it is asked, in whatever memory; what it is asked reads behind the call as it read before. One condition: the table math/bits.deBruijn32tab reads as it was laid. (Printed by wip/gen/lawrc.py.)
-/
import Derived.Test.YtfjgmpfpadfknaaGreatDoorQNbBase
import Derived.Test.YtfjgmpfpadfknaaGreatDoorQCNearRg
namespace Go.Proofs.YtfjgmpfpadfknaaGreatDoor

open Go.RowKit Go.Lb

attribute [local go_sem] Go.World.cell?_alloc_some

/-- Two fractions, two flags, an error. -/
def RcA (s1 s2 : Bool) (X1 X2 X3 X4 : List Nat) (l h : Bool) (er : Int) (w : World) (en : Ending) (w' : World) : Prop :=
  ∃ a1 n1 c1 a2 n2 c2 a3 n3 c3 a4 n4 c4, en = .returned (.tuple #[.agg #[.bool s1, .slice a1 n1 c1, .slice a2 n2 c2], .agg #[.bool s2, .slice a3 n3 c3, .slice a4 n4 c4], .bool l, .bool h, .int .i64 er]) ∧
    Fr 75 w' w.heap.size a1 n1 c1 X1 ∧ Fr 75 w' w.heap.size a2 n2 c2 X2 ∧ Fr 75 w' w.heap.size a3 n3 c3 X3 ∧ Fr 75 w' w.heap.size a4 n4 c4 X4 ∧ Apt4 a1 a2 a3 a4 ∧ Below w.heap.size w w'

theorem sameB_self (s : Bool) (xs ys : List Nat) : sameB s s xs ys xs ys = true := by unfold sameB; simp

theorem refSame_dif (a1 a2 : Option Addr) (n1 n2 c1 c2 : Nat) (xs : List Nat) (w : World) (h1 : Sl w a1 n1 c1 xs) (h2 : Sl w a2 n2 c2 xs) :
    Calls Tryz.prog 15 #[.agg #[.slice a1 n1 c1], .agg #[.slice a2 n2 c2]] w fun e w' => e = .returned (.bool true) ∧ Below w.heap.size w w' := by
  have e1 := h1.len
  have e2 := h2.len
  obtain rfl : n2 = n1 := by omega
  exact refSame_eq a1 a2 _ c1 c2 xs w h1 h2

theorem rc_both (e f : Int) (b m : Nat) (hb : b < 18446744073709551616) (hm : m < 256) :
    ∃ (s1 s2 : Bool) (X1 X2 X3 X4 : List Nat) (l h : Bool) (er : Int), X1.length ≤ 1000 ∧ X2.length ≤ 1000 ∧ X3.length ≤ 1000 ∧ X4.length ≤ 1000 ∧
      (∀ W, Tab W → Calls Tryz.prog 11 #[.agg #[.int .i64 e, .int .i64 f], .int .u64 (b : Int), .int .u8 (m : Int)] W (RcA s1 s2 X1 X2 X3 X4 l h er W)) ∧
      (∀ W, Calls Tryz.prog 12 #[.agg #[.int .i64 e, .int .i64 f], .int .u64 (b : Int), .int .u8 (m : Int)] W (RcA s1 s2 X1 X2 X3 X4 l h er W)) := by
  by_cases h0 : rcE e f b m = 0
  · obtain ⟨E, F, rfl, rfl, hfit, hx, hm5⟩ := rc_ok h0
    obtain ⟨hf, hp⟩ := fitsE_parts hfit
    have hmp := mg_lt E F b
    have hxm : exN E F (mgN E F b) ≠ maskN E := fin_iff.2 (by rw [mag_self hmp]; exact fin_iff.1 hx)
    obtain ⟨dI, gI, dO, gO⟩ := mean_bds hf hmp hxm (seM m (sgB E F b))
    obtain ⟨sI, sO, _⟩ := rc_s hf hmp hxm (seM m (sgB E F b))
    obtain ⟨b1, b2, b3, b4⟩ := base_small hf
    rw [sI] at dI
    rw [sO] at dO
    obtain ⟨_, k1, k2, _⟩ := low6 dI gI (by omega) (by omega) (by omega)
    obtain ⟨_, k3, k4, _⟩ := low6 dO gO (by omega) (by omega) (by omega)
    have cN := fun W hT => nearReach_ok E F b m W hfit hx hm5 hT
    have cR := fun W => rreach6_ok E F b m W hfit hx hm5
    generalize rcI E F (mgN E F b) (seM m (sgB E F b)) = I at *
    generalize rcO E F (mgN E F b) (seM m (sgB E F b)) = O at *
    generalize rci (mgN E F b) (seM m (sgB E F b)) = ri at *
    generalize rco (mgN E F b) (seM m (sgB E F b)) = ro at *
    generalize sgB E F b = g at *
    cases g
    · exact ⟨_, _, _, _, _, _, _, _, _, k1, k2, k3, k4, cN, cR⟩
    · exact ⟨_, _, _, _, _, _, _, _, _, k3, k4, k1, k2, cN, cR⟩
  · have ap : Apt4 none none none none := by unfold Apt4; refine ⟨?_, ?_, ?_⟩ <;> intro g h <;> cases h
    have mk : ∀ w en w', (en = .returned (.tuple #[.agg #[.bool false, .slice none 0 0, .slice none 0 0], .agg #[.bool false, .slice none 0 0, .slice none 0 0], .bool false, .bool false, .int .i64 (rcE e f b m)]) ∧ Below w.heap.size w w') → RcA false false [] [] [] [] false false (rcE e f b m) w en w' :=
      fun w en w' ⟨h1, h2⟩ => ⟨none, 0, 0, none, 0, 0, none, 0, 0, none, 0, 0, h1, fr_nil _ _ _, fr_nil _ _ _, fr_nil _ _ _, fr_nil _ _ _, ap, h2⟩
    exact ⟨false, false, [], [], [], [], false, false, rcE e f b m, by decide, by decide, by decide, by decide, fun W _ => (nearReach_no e f b m W hb hm h0).mono fun en w' h => mk W en w' h, fun W => (rreach6_no e f b m W hb hm h0).mono fun en w' h => mk W en w' h⟩

set_option maxRecDepth 100000 in
set_option maxHeartbeats 8000000 in
theorem reachLaw_any (e f : Int) (b m : Nat) (w : World) (hb : b < 18446744073709551616) (hm : m < 256) (hT : Tab w) :
    Calls Tryz.prog 3 #[.agg #[.int .i64 e, .int .i64 f], .int .u64 (b : Int), .int .u8 (m : Int)] w fun en w' => en = .returned (.bool true) ∧ Below w.heap.size w w' := by
  obtain ⟨W1, hW1⟩ : ∃ W1 : World, W1 = w.alloc (.cells #[.int .i64 e, .int .i64 f] 23) := ⟨_, rfl⟩
  have V : Below w.heap.size w W1 := hW1 ▸ more (Below.refl _ _) _
  have F0 : Box2 W1 w.heap.size (.int .i64 e) (.int .i64 f) := hW1 ▸ box2_new w _ _ _
  have cA := awake6_any W1 (hT.below V)
  obtain ⟨s1, s2, X1, X2, X3, X4, l, h, er, x1, x2, x3, x4, cN, cR⟩ := rc_both e f b m hb hm
  have cS := fun (s : Bool) (a1 a2 b1 b2 : Option Addr) (n1 n2 m1 m2 c1 c2 d1 d2 : Nat) (xs ys : List Nat) (W : World) (h1 : Sl W a1 n1 c1 xs) (h2 : Sl W a2 n2 c2 ys) (h3 : Sl W b1 m1 d1 xs) (h4 : Sl W b2 m2 d2 ys) => rf2Same_any s s a1 a2 b1 b2 n1 n2 m1 m2 c1 c2 d1 d2 xs ys xs ys W h1 h2 h3 h4
  simp only [sameB_self] at cS
  unfold RcA at cN cR
  go_enter Tryz.func3, Tryz.ntmps3
  go_upto_region 1 with fail
  rw [← hW1]
  clear hW1
  go_wp2_with fail
  refine cA.mono ?_
  rintro en w2 ⟨rfl, hb2⟩
  replace V := next V hb2
  replace F0 := F0.stay hb2
  clear cA hb2
  have ⟨f0, f1⟩ := F0
  go_wp2_with fail
  refine (cN w2 (hT.below V)).mono ?_
  rintro en w3 ⟨a1, n1, c1, a2, n2, c2, a3, n3, c3, a4, n4, c4, rfl, A1, A2, A3, A4, apA, hb3⟩
  obtain ⟨W4, hW4⟩ : ∃ W4 : World, W4 = (w3.alloc (.cells #[.bool s1, .slice a1 n1 c1, .slice a2 n2 c2] 30)).alloc (.cells #[.bool s2, .slice a3 n3 c3, .slice a4 n4 c4] 30) := ⟨_, rfl⟩
  have hbW4 : Below w3.heap.size w3 W4 := hW4 ▸ more (more (Below.refl _ _) _) _
  have B8 : Box3 W4 w3.heap.size (.bool s1) (.slice a1 n1 c1) (.slice a2 n2 c2) := hW4 ▸ (box3_new w3 _ _ _ _).alloc _
  have B9 : Box3 W4 (w3.heap.size + 1) (.bool s2) (.slice a3 n3 c3) (.slice a4 n4 c4) := by
    have := box3_new (w3.alloc (.cells #[.bool s1, .slice a1 n1 c1, .slice a2 n2 c2] 30)) (.bool s2) (.slice a3 n3 c3) (.slice a4 n4 c4) 30
    rw [World.size_alloc] at this
    exact hW4 ▸ this
  replace V := next V (next hb3 hbW4)
  replace F0 := F0.stay (next hb3 hbW4)
  have lw : w.heap.size < w2.heap.size := by
    have := World.block_lt_of_cell? _ ⟨w.heap.size, 0, none⟩ f0
    exact this
  have l23 := hb3.size
  have iA1 : ∀ g, blkOf a1 = some g → w.heap.size < g ∧ g < w3.heap.size := fun g hg => by have := fr_in A1 hg; omega
  have iA2 : ∀ g, blkOf a2 = some g → w.heap.size < g ∧ g < w3.heap.size := fun g hg => by have := fr_in A2 hg; omega
  have iA3 : ∀ g, blkOf a3 = some g → w.heap.size < g ∧ g < w3.heap.size := fun g hg => by have := fr_in A3 hg; omega
  have iA4 : ∀ g, blkOf a4 = some g → w.heap.size < g ∧ g < w3.heap.size := fun g hg => by have := fr_in A4 hg; omega
  replace A1 := A1.below hbW4
  replace A2 := A2.below hbW4
  replace A3 := A3.below hbW4
  replace A4 := A4.below hbW4
  go_upto_region 5 with fail
  rw [← hW4]
  obtain ⟨P8, hP8⟩ : ∃ q, q = w3.heap.size := ⟨_, rfl⟩
  obtain ⟨P9, hP9⟩ : ∃ q, q = w3.heap.size + 1 := ⟨_, rfl⟩
  rw [← hP9] at B9 ⊢
  rw [← hP8] at B8 iA1 iA2 iA3 iA4 ⊢
  have l89 : P8 < P9 := by omega
  have lw8 : w.heap.size < P8 := by omega
  have l9 := B9.lt
  clear hP8 hP9 hW4 hbW4 hb3 f0 f1 lw l23
  have ⟨f0, f1⟩ := F0
  go_wp2_with fail
  refine (cR W4).mono ?_
  rintro en w5 ⟨b1, m1, d1, b2, m2, d2, b3, m3, d3, b4, m4, d4, rfl, R1, R2, R3, R4, _, hb5⟩
  obtain ⟨W6, hW6⟩ : ∃ W6 : World, W6 = (w5.alloc (.cells #[.bool s1, .slice b1 m1 d1, .slice b2 m2 d2] 30)).alloc (.cells #[.bool s2, .slice b3 m3 d3, .slice b4 m4 d4] 30) := ⟨_, rfl⟩
  have hbW6 : Below w5.heap.size w5 W6 := hW6 ▸ more (more (Below.refl _ _) _) _
  have B13 : Box3 W6 w5.heap.size (.bool s1) (.slice b1 m1 d1) (.slice b2 m2 d2) := hW6 ▸ (box3_new w5 _ _ _ _).alloc _
  have B14 : Box3 W6 (w5.heap.size + 1) (.bool s2) (.slice b3 m3 d3) (.slice b4 m4 d4) := by
    have := box3_new (w5.alloc (.cells #[.bool s1, .slice b1 m1 d1, .slice b2 m2 d2] 30)) (.bool s2) (.slice b3 m3 d3) (.slice b4 m4 d4) 30
    rw [World.size_alloc] at this
    exact hW6 ▸ this
  have sW := next hb5 hbW6
  replace V := next V sW
  replace F0 := F0.stay sW
  replace B8 := B8.stay sW
  replace B9 := B9.stay sW
  replace A1 := A1.below sW
  replace A2 := A2.below sW
  replace A3 := A3.below sW
  replace A4 := A4.below sW
  have l5 := hb5.size
  have iR1 : ∀ g, blkOf b1 = some g → P9 < g := fun g hg => by have := fr_in R1 hg; omega
  have iR2 : ∀ g, blkOf b2 = some g → P9 < g := fun g hg => by have := fr_in R2 hg; omega
  have iR3 : ∀ g, blkOf b3 = some g → P9 < g := fun g hg => by have := fr_in R3 hg; omega
  have iR4 : ∀ g, blkOf b4 = some g → P9 < g := fun g hg => by have := fr_in R4 hg; omega
  replace R1 := R1.below hbW6
  replace R2 := R2.below hbW6
  replace R3 := R3.below hbW6
  replace R4 := R4.below hbW6
  go_upto_region 6 with fail
  rw [← hW6]
  obtain ⟨P13, hP13⟩ : ∃ q, q = w5.heap.size := ⟨_, rfl⟩
  obtain ⟨P14, hP14⟩ : ∃ q, q = w5.heap.size + 1 := ⟨_, rfl⟩
  rw [← hP14] at B14 ⊢
  rw [← hP13] at B13 ⊢
  have l913 : P9 < P13 := by omega
  have l914 : P9 < P14 := by omega
  clear hP13 hP14 hW6 hbW6 hb5 sW f0 f1 l5 cR
  have ⟨p0, p1, p2, _, _, _⟩ := B8
  have ⟨q0, q1, q2, _, _, _⟩ := B13
  go_wp2_with fail
  (with_reducible refine (cS s1 a1 a2 b1 b2 n1 n2 m1 m2 c1 c2 d1 d2 X1 X2 W6 A1.sl A2.sl R1.sl R2.sl).mono ?_)
  rintro en w8 ⟨rfl, hb⟩
  replace V := next V hb
  replace F0 := F0.stay hb
  replace B8 := B8.stay hb
  replace B9 := B9.stay hb
  replace B13 := B13.stay hb
  replace B14 := B14.stay hb
  replace A1 := A1.below hb
  replace A2 := A2.below hb
  replace A3 := A3.below hb
  replace A4 := A4.below hb
  replace R1 := R1.below hb
  replace R2 := R2.below hb
  replace R3 := R3.below hb
  replace R4 := R4.below hb
  clear hb p0  p1  p2    q0  q1  q2   
  have ⟨p0, p1, p2, _, _, _⟩ := B9
  have ⟨q0, q1, q2, _, _, _⟩ := B14
  go_wp2_with fail
  (with_reducible refine (cS s2 a3 a4 b3 b4 n3 n4 m3 m4 c3 c4 d3 d4 X3 X4 w8 A3.sl A4.sl R3.sl R4.sl).mono ?_)
  rintro en w9 ⟨rfl, hb⟩
  replace V := next V hb
  replace F0 := F0.stay hb
  replace B8 := B8.stay hb
  replace B9 := B9.stay hb
  replace B13 := B13.stay hb
  replace B14 := B14.stay hb
  replace A1 := A1.below hb
  replace A2 := A2.below hb
  replace A3 := A3.below hb
  replace A4 := A4.below hb
  replace R1 := R1.below hb
  replace R2 := R2.below hb
  replace R3 := R3.below hb
  replace R4 := R4.below hb
  clear hb p0  p1  p2    q0  q1  q2   
  have ⟨p0, p1, p2, _, _, _⟩ := B8
  go_wp2_with fail
  (with_reducible refine (spoil6_any w.heap.size a1 n1 c1 w9 A1.room V.size (fun g hg => Nat.le_of_lt (iA1 g hg).1) (by have := A1.sl.len; omega)).mono ?_)
  rintro en w10 ⟨rfl, md⟩
  replace V := V.trans md.bel
  clear A1 p0  p1  p2   
  replace F0 : Box2 w10 w.heap.size (.int .i64 e) (.int .i64 f) := ⟨md.cell F0.c0 (fun h => absurd (iA1 _ h).1 (Nat.lt_irrefl _)), md.cell F0.c1 (fun h => absurd (iA1 _ h).1 (Nat.lt_irrefl _))⟩
  replace B8 := md.box3 B8 (fun h => by have := (iA1 _ h).2; omega)
  replace B9 := md.box3 B9 (fun h => by have := (iA1 _ h).2; omega)
  replace B13 := md.box3 B13 (fun h => by have := (iA1 _ h).2; omega)
  replace B14 := md.box3 B14 (fun h => by have := (iA1 _ h).2; omega)
  replace A2 := md.fr A2 (fun g hg h => ((apA.1 g h).1 hg))
  replace A3 := md.fr A3 (fun g hg h => ((apA.1 g h).2.1 hg))
  replace A4 := md.fr A4 (fun g hg h => ((apA.1 g h).2.2 hg))
  replace R1 := md.fr R1 (fun g hg h => by have h1 := iR1 g hg; have h2 := (iA1 _ h).2; omega)
  replace R2 := md.fr R2 (fun g hg h => by have h1 := iR2 g hg; have h2 := (iA1 _ h).2; omega)
  replace R3 := md.fr R3 (fun g hg h => by have h1 := iR3 g hg; have h2 := (iA1 _ h).2; omega)
  replace R4 := md.fr R4 (fun g hg h => by have h1 := iR4 g hg; have h2 := (iA1 _ h).2; omega)
  clear md
  have ⟨p0, p1, p2, _, _, _⟩ := B8
  have ⟨q0, q1, q2, _, _, _⟩ := B13
  go_wp2_with fail
  (with_reducible refine (refSame_dif a2 b2 n2 m2 c2 d2 X2 w10 A2.sl R2.sl).mono ?_)
  rintro en w11 ⟨rfl, hb⟩
  replace V := next V hb
  replace F0 := F0.stay hb
  replace B8 := B8.stay hb
  replace B9 := B9.stay hb
  replace B13 := B13.stay hb
  replace B14 := B14.stay hb
  replace A2 := A2.below hb
  replace A3 := A3.below hb
  replace A4 := A4.below hb
  replace R1 := R1.below hb
  replace R2 := R2.below hb
  replace R3 := R3.below hb
  replace R4 := R4.below hb
  clear hb p0  p1  p2    q0  q1  q2   
  have ⟨p0, p1, p2, _, _, _⟩ := B9
  have ⟨q0, q1, q2, _, _, _⟩ := B14
  go_wp2_with fail
  (with_reducible refine (cS s2 a3 a4 b3 b4 n3 n4 m3 m4 c3 c4 d3 d4 X3 X4 w11 A3.sl A4.sl R3.sl R4.sl).mono ?_)
  rintro en w12 ⟨rfl, hb⟩
  replace V := next V hb
  replace F0 := F0.stay hb
  replace B8 := B8.stay hb
  replace B9 := B9.stay hb
  replace B13 := B13.stay hb
  replace B14 := B14.stay hb
  replace A2 := A2.below hb
  replace A3 := A3.below hb
  replace A4 := A4.below hb
  replace R1 := R1.below hb
  replace R2 := R2.below hb
  replace R3 := R3.below hb
  replace R4 := R4.below hb
  clear hb p0  p1  p2    q0  q1  q2   
  have ⟨p0, p1, p2, _, _, _⟩ := B8
  go_wp2_with fail
  (with_reducible refine (spoil6_any w.heap.size a2 n2 c2 w12 A2.room V.size (fun g hg => Nat.le_of_lt (iA2 g hg).1) (by have := A2.sl.len; omega)).mono ?_)
  rintro en w13 ⟨rfl, md⟩
  replace V := V.trans md.bel
  clear A2 p0  p1  p2   
  replace F0 : Box2 w13 w.heap.size (.int .i64 e) (.int .i64 f) := ⟨md.cell F0.c0 (fun h => absurd (iA2 _ h).1 (Nat.lt_irrefl _)), md.cell F0.c1 (fun h => absurd (iA2 _ h).1 (Nat.lt_irrefl _))⟩
  replace B8 := md.box3 B8 (fun h => by have := (iA2 _ h).2; omega)
  replace B9 := md.box3 B9 (fun h => by have := (iA2 _ h).2; omega)
  replace B13 := md.box3 B13 (fun h => by have := (iA2 _ h).2; omega)
  replace B14 := md.box3 B14 (fun h => by have := (iA2 _ h).2; omega)
  replace A3 := md.fr A3 (fun g hg h => ((apA.2.1 g h).1 hg))
  replace A4 := md.fr A4 (fun g hg h => ((apA.2.1 g h).2 hg))
  replace R1 := md.fr R1 (fun g hg h => by have h1 := iR1 g hg; have h2 := (iA2 _ h).2; omega)
  replace R2 := md.fr R2 (fun g hg h => by have h1 := iR2 g hg; have h2 := (iA2 _ h).2; omega)
  replace R3 := md.fr R3 (fun g hg h => by have h1 := iR3 g hg; have h2 := (iA2 _ h).2; omega)
  replace R4 := md.fr R4 (fun g hg h => by have h1 := iR4 g hg; have h2 := (iA2 _ h).2; omega)
  clear md
  have ⟨p0, p1, p2, _, _, _⟩ := B9
  have ⟨q0, q1, q2, _, _, _⟩ := B14
  go_wp2_with fail
  (with_reducible refine (cS s2 a3 a4 b3 b4 n3 n4 m3 m4 c3 c4 d3 d4 X3 X4 w13 A3.sl A4.sl R3.sl R4.sl).mono ?_)
  rintro en w14 ⟨rfl, hb⟩
  replace V := next V hb
  replace F0 := F0.stay hb
  replace B8 := B8.stay hb
  replace B9 := B9.stay hb
  replace B13 := B13.stay hb
  replace B14 := B14.stay hb
  replace A3 := A3.below hb
  replace A4 := A4.below hb
  replace R1 := R1.below hb
  replace R2 := R2.below hb
  replace R3 := R3.below hb
  replace R4 := R4.below hb
  clear hb p0  p1  p2    q0  q1  q2   
  have ⟨p0, p1, p2, _, _, _⟩ := B9
  go_wp2_with fail
  (with_reducible refine (spoil6_any w.heap.size a3 n3 c3 w14 A3.room V.size (fun g hg => Nat.le_of_lt (iA3 g hg).1) (by have := A3.sl.len; omega)).mono ?_)
  rintro en w15 ⟨rfl, md⟩
  replace V := V.trans md.bel
  clear A3 p0  p1  p2   
  replace F0 : Box2 w15 w.heap.size (.int .i64 e) (.int .i64 f) := ⟨md.cell F0.c0 (fun h => absurd (iA3 _ h).1 (Nat.lt_irrefl _)), md.cell F0.c1 (fun h => absurd (iA3 _ h).1 (Nat.lt_irrefl _))⟩
  replace B8 := md.box3 B8 (fun h => by have := (iA3 _ h).2; omega)
  replace B9 := md.box3 B9 (fun h => by have := (iA3 _ h).2; omega)
  replace B13 := md.box3 B13 (fun h => by have := (iA3 _ h).2; omega)
  replace B14 := md.box3 B14 (fun h => by have := (iA3 _ h).2; omega)
  replace A4 := md.fr A4 (fun g hg h => (apA.2.2 g h hg))
  replace R1 := md.fr R1 (fun g hg h => by have h1 := iR1 g hg; have h2 := (iA3 _ h).2; omega)
  replace R2 := md.fr R2 (fun g hg h => by have h1 := iR2 g hg; have h2 := (iA3 _ h).2; omega)
  replace R3 := md.fr R3 (fun g hg h => by have h1 := iR3 g hg; have h2 := (iA3 _ h).2; omega)
  replace R4 := md.fr R4 (fun g hg h => by have h1 := iR4 g hg; have h2 := (iA3 _ h).2; omega)
  clear md
  have ⟨p0, p1, p2, _, _, _⟩ := B9
  have ⟨q0, q1, q2, _, _, _⟩ := B14
  go_wp2_with fail
  (with_reducible refine (refSame_dif a4 b4 n4 m4 c4 d4 X4 w15 A4.sl R4.sl).mono ?_)
  rintro en w16 ⟨rfl, hb⟩
  replace V := next V hb
  replace F0 := F0.stay hb
  replace B8 := B8.stay hb
  replace B9 := B9.stay hb
  replace B13 := B13.stay hb
  replace B14 := B14.stay hb
  replace A4 := A4.below hb
  replace R1 := R1.below hb
  replace R2 := R2.below hb
  replace R3 := R3.below hb
  replace R4 := R4.below hb
  clear hb p0  p1  p2    q0  q1  q2   
  have ⟨p0, p1, p2, _, _, _⟩ := B9
  go_wp2_with fail
  (with_reducible refine (spoil6_any w.heap.size a4 n4 c4 w16 A4.room V.size (fun g hg => Nat.le_of_lt (iA4 g hg).1) (by have := A4.sl.len; omega)).mono ?_)
  rintro en w17 ⟨rfl, md⟩
  replace V := V.trans md.bel
  clear A4 p0  p1  p2   
  replace F0 : Box2 w17 w.heap.size (.int .i64 e) (.int .i64 f) := ⟨md.cell F0.c0 (fun h => absurd (iA4 _ h).1 (Nat.lt_irrefl _)), md.cell F0.c1 (fun h => absurd (iA4 _ h).1 (Nat.lt_irrefl _))⟩
  replace B8 := md.box3 B8 (fun h => by have := (iA4 _ h).2; omega)
  replace B9 := md.box3 B9 (fun h => by have := (iA4 _ h).2; omega)
  replace B13 := md.box3 B13 (fun h => by have := (iA4 _ h).2; omega)
  replace B14 := md.box3 B14 (fun h => by have := (iA4 _ h).2; omega)
  replace R1 := md.fr R1 (fun g hg h => by have h1 := iR1 g hg; have h2 := (iA4 _ h).2; omega)
  replace R2 := md.fr R2 (fun g hg h => by have h1 := iR2 g hg; have h2 := (iA4 _ h).2; omega)
  replace R3 := md.fr R3 (fun g hg h => by have h1 := iR3 g hg; have h2 := (iA4 _ h).2; omega)
  replace R4 := md.fr R4 (fun g hg h => by have h1 := iR4 g hg; have h2 := (iA4 _ h).2; omega)
  clear md
  have ⟨f0, f1⟩ := F0
  go_wp2_with fail
  refine (cN w17 (hT.below V)).mono ?_
  rintro en wY ⟨a1', n1', c1', a2', n2', c2', a3', n3', c3', a4', n4', c4', rfl, A1, A2, A3, A4, _, hb⟩
  replace V := next V hb
  have lY := B14.lt
  replace B8 := B8.stay hb
  replace B9 := B9.stay hb
  replace B13 := B13.stay hb
  replace B14 := B14.stay hb
  replace R1 := R1.below hb
  replace R2 := R2.below hb
  replace R3 := R3.below hb
  replace R4 := R4.below hb
  clear hb f0 f1 F0 cN
  have ⟨p0, p1, p2, pz0, pz1, pz2⟩ := B8
  have ⟨q0, q1, q2, qz0, qz1, qz2⟩ := B9
  go_upto_region 15 with fail
  have Y8 := set3_other (box3_put B8 (.bool s1) (.slice a1' n1' c1') (.slice a2' n2' c2')) (show P8 ≠ P9 by omega) (.bool s2) (.slice a3' n3' c3') (.slice a4' n4' c4')
  have Y9 := box3_put (set3_other B9 (show P9 ≠ P8 by omega) (.bool s1) (.slice a1' n1' c1') (.slice a2' n2' c2')) (.bool s2) (.slice a3' n3' c3') (.slice a4' n4' c4')
  have Y13 := set3_other (set3_other B13 (show P13 ≠ P8 by omega) (.bool s1) (.slice a1' n1' c1') (.slice a2' n2' c2')) (show P13 ≠ P9 by omega) (.bool s2) (.slice a3' n3' c3') (.slice a4' n4' c4')
  have Y14 := set3_other (set3_other B14 (show P14 ≠ P8 by omega) (.bool s1) (.slice a1' n1' c1') (.slice a2' n2' c2')) (show P14 ≠ P9 by omega) (.bool s2) (.slice a3' n3' c3') (.slice a4' n4' c4')
  have big : ∀ {ao n c xs base}, Fr 75 wY base ao n c xs → (∀ g, blkOf ao = some g → P9 < g) → Fr 75 ((((((wY.setCell ⟨P8, 0, none⟩ (.bool s1)).setCell ⟨P8, 1, none⟩ (.slice a1' n1' c1')).setCell ⟨P8, 2, none⟩ (.slice a2' n2' c2')).setCell ⟨P9, 0, none⟩ (.bool s2)).setCell ⟨P9, 1, none⟩ (.slice a3' n3' c3')).setCell ⟨P9, 2, none⟩ (.slice a4' n4' c4')) base ao n c xs := fun h hg =>
    set3_fr (b := P9) (set3_fr (b := P8) h (fun k => by have := hg _ k; omega) (.bool s1) (.slice a1' n1' c1') (.slice a2' n2' c2')) (fun k => by have := hg _ k; omega) (.bool s2) (.slice a3' n3' c3') (.slice a4' n4' c4')
  replace R1 := big R1 iR1
  replace R2 := big R2 iR2
  replace R3 := big R3 iR3
  replace R4 := big R4 iR4
  replace A1 := big A1 (fun g hg => by have := (fr_in A1 hg).1; omega)
  replace A2 := big A2 (fun g hg => by have := (fr_in A2 hg).1; omega)
  replace A3 := big A3 (fun g hg => by have := (fr_in A3 hg).1; omega)
  replace A4 := big A4 (fun g hg => by have := (fr_in A4 hg).1; omega)
  replace V : Below w.heap.size w ((((((wY.setCell ⟨P8, 0, none⟩ (.bool s1)).setCell ⟨P8, 1, none⟩ (.slice a1' n1' c1')).setCell ⟨P8, 2, none⟩ (.slice a2' n2' c2')).setCell ⟨P9, 0, none⟩ (.bool s2)).setCell ⟨P9, 1, none⟩ (.slice a3' n3' c3')).setCell ⟨P9, 2, none⟩ (.slice a4' n4' c4')) := (((((V.setCell (by simp; omega) _).setCell (by simp; omega) _).setCell (by simp; omega) _).setCell (by simp; omega) _).setCell (by simp; omega) _).setCell (by simp; omega) _
  clear big B8 B9 B13 B14 p0 p1 p2 pz0 pz1 pz2 q0 q1 q2 qz0 qz1 qz2
  generalize (((((wY.setCell ⟨P8, 0, none⟩ (.bool s1)).setCell ⟨P8, 1, none⟩ (.slice a1' n1' c1')).setCell ⟨P8, 2, none⟩ (.slice a2' n2' c2')).setCell ⟨P9, 0, none⟩ (.bool s2)).setCell ⟨P9, 1, none⟩ (.slice a3' n3' c3')).setCell ⟨P9, 2, none⟩ (.slice a4' n4' c4') = wZ at *
  have ⟨p0, p1, p2, _, _, _⟩ := Y8
  have ⟨q0, q1, q2, _, _, _⟩ := Y13
  go_wp2_with fail
  (with_reducible refine (cS s1 a1' a2' b1 b2 n1' n2' m1 m2 c1' c2' d1 d2 X1 X2 wZ A1.sl A2.sl R1.sl R2.sl).mono ?_)
  rintro en w18 ⟨rfl, hb⟩
  replace V := next V hb
  replace Y8 := Y8.stay hb
  replace Y9 := Y9.stay hb
  replace Y13 := Y13.stay hb
  replace Y14 := Y14.stay hb
  replace A1 := A1.below hb
  replace A2 := A2.below hb
  replace A3 := A3.below hb
  replace A4 := A4.below hb
  replace R1 := R1.below hb
  replace R2 := R2.below hb
  replace R3 := R3.below hb
  replace R4 := R4.below hb
  clear hb p0  p1  p2    q0  q1  q2   
  have ⟨p0, p1, p2, _, _, _⟩ := Y9
  have ⟨q0, q1, q2, _, _, _⟩ := Y14
  go_wp2_with fail
  (with_reducible refine (cS s2 a3' a4' b3 b4 n3' n4' m3 m4 c3' c4' d3 d4 X3 X4 w18 A3.sl A4.sl R3.sl R4.sl).mono ?_)
  rintro en w19 ⟨rfl, hb⟩
  replace V := next V hb
  replace Y8 := Y8.stay hb
  replace Y9 := Y9.stay hb
  replace Y13 := Y13.stay hb
  replace Y14 := Y14.stay hb
  replace A1 := A1.below hb
  replace A2 := A2.below hb
  replace A3 := A3.below hb
  replace A4 := A4.below hb
  replace R1 := R1.below hb
  replace R2 := R2.below hb
  replace R3 := R3.below hb
  replace R4 := R4.below hb
  clear hb p0  p1  p2    q0  q1  q2   
  go_wp2
  go_ret
  exact ⟨by simp, V⟩

end Go.Proofs.YtfjgmpfpadfknaaGreatDoor

