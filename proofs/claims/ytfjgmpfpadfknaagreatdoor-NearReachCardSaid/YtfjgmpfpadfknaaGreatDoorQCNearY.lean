/-
  The reference's helpers (numeralref06): worth, ratio, mean, beyond.
-/
import Derived.Deep.CutRange
import Derived.Test.YtfjgmpfpadfknaaGreatDoorQNbBase
namespace Go.Proofs.YtfjgmpfpadfknaaGreatDoor

open Go.RowKit Go.Lb

attribute [local go_sem] Go.World.cell?_alloc_some

/-- A dyadic that is answered by itself. -/
def Dy1 (s : Bool) (N : Nat) (x : Int) (w : World) (en : Ending) (w' : World) : Prop :=
  ∃ ao k c, en = .returned (.agg #[.bool s, .slice ao k c, .int .i64 x]) ∧ Fr 75 w' w.heap.size ao k c (limbs N) ∧ Below w.heap.size w w'

theorem FrT.fro {e : TypeId} {w w' : World} {base top base' : Nat} {ao : Option Addr} {n c : Nat} {xs : List Nat} (_ : FrT e w base top ao n c xs) (h : FrT e w' base top ao n c xs) (hb : base' ≤ base) : Fr e w' base' ao n c xs := h.fr.mono hb

set_option maxRecDepth 100000 in
set_option maxHeartbeats 2000000 in
theorem worth6_any (e f : Int) (b : Nat) (w : World) (hb : b < 18446744073709551616) :
    Calls Tryz.prog 57 #[.agg #[.int .i64 e, .int .i64 f], .int .u64 (b : Int)] w (Dy1 (valS e f b) (valN e f b) (valX e f b) w) := by
  have cV := fun W => refValue_any e f b W hb
  unfold Valued at cV
  unfold Dy1
  generalize valS e f b = s at *
  generalize valN e f b = N at *
  generalize valX e f b = x at *
  generalize valE e f b = er at *
  obtain ⟨W2, hW2⟩ : ∃ W2 : World, W2 = (w.alloc (.cells #[.int .i64 e, .int .i64 f] 23)).alloc (.cells #[.bool false, .slice none 0 0, .int .i64 0] 41) := ⟨_, rfl⟩
  have hb2 : Below w.heap.size w W2 := hW2 ▸ more (more (Below.refl _ _) _) _
  have f0 : W2.cell? ⟨w.heap.size, 0, none⟩ = some (.int .i64 e) := by rw [hW2]; simp
  have f1 : W2.cell? ⟨w.heap.size, 1, none⟩ = some (.int .i64 f) := by rw [hW2]; simp
  have R2 : Box3 W2 (w.heap.size + 1) (.bool false) (.slice none 0 0) (.int .i64 0) := by
    have := box3_new (w.alloc (.cells #[.int .i64 e, .int .i64 f] 23)) (.bool false) (.slice none 0 0) (.int .i64 0) 41
    rw [World.size_alloc] at this
    exact hW2 ▸ this
  go_enter Tryz.func57, Tryz.ntmps57
  go_upto_region 1 with fail
  rw [← hW2]
  clear hW2
  go_wp2_with fail
  refine (cV W2).mono ?_
  rintro en w4 ⟨ma, mk, mc, rfl, mF, hb4⟩
  have hs := more hb4 (.cells #[.bool s, .slice ma mk mc, .int .i64 x] 41)
  have V5 := next hb2 hs
  have R5 := R2.stay hs
  have P5 := box3_new w4 (.bool s) (.slice ma mk mc) (.int .i64 x) 41
  have mG := mF.alloc (.cells #[.bool s, .slice ma mk mc, .int .i64 x] 41)
  have hl := R2.lt
  clear mF f0 f1
  go_upto_region 2 with fail
  obtain ⟨Q, hQ⟩ : ∃ Q, Q = w4.heap.size := ⟨_, rfl⟩
  rw [← hQ] at P5 ⊢
  clear hQ hs hb4
  generalize w4.alloc (.cells #[.bool s, .slice ma mk mc, .int .i64 x] 41) = w5 at *
  have ⟨p0, p1, p2, _, _, _⟩ := P5
  have ⟨r0, r1, r2, rz0, rz1, rz2⟩ := R5
  obtain ⟨t0, t1, t2⟩ := R5.set (.bool s) (.slice ma mk mc) (.int .i64 x)
  go_wp2
  refine bodyPost_ret (v := .agg #[.bool s, .slice ma mk mc, .int .i64 x]) (by simp [results, Tryz.results57, go_sem, t0, t1, t2]) rfl ⟨ma, mk, mc, rfl, ?_, ((V5.setCell (by simp) _).setCell (by simp) _).setCell (by simp) _⟩
  exact (((mG.setCell (by simpa using hl) _).setCell (by simpa using hl) _).setCell (by simpa using hl) _).mono (by omega)

/-- A fraction that is answered by itself. -/
def Ra1 (s : Bool) (N D : Nat) (w : World) (en : Ending) (w' : World) : Prop :=
  ∃ a1 n1 c1 a2 n2 c2, en = .returned (.agg #[.bool s, .slice a1 n1 c1, .slice a2 n2 c2]) ∧ Fr 75 w' w.heap.size a1 n1 c1 (limbs N) ∧ Fr 75 w' w.heap.size a2 n2 c2 (limbs D) ∧ (∀ g, blkOf a1 = some g → blkOf a2 ≠ some g) ∧ Below w.heap.size w w'

set_option maxRecDepth 100000 in
set_option maxHeartbeats 2000000 in
theorem ratio6_any (s : Bool) (ao : Option Addr) (n c : Nat) (x : Int) (N P Q : Nat) (w : World) (h : Sl w ao n c (limbs N)) (hr : ∀ W, RatA s (limbs N) x W = Rtn s P Q 0 W) :
    Calls Tryz.prog 60 #[.agg #[.bool s, .slice ao n c, .int .i64 x]] w (Ra1 s P Q w) := by
  have cR := fun W (j : Sl W ao n c (limbs N)) => rfRatio_any s ao n c x _ W j
  simp only [hr] at cR
  unfold Rtn at cR
  unfold Ra1
  obtain ⟨W2, hW2⟩ : ∃ W2 : World, W2 = (w.alloc (.cells #[.bool s, .slice ao n c, .int .i64 x] 41)).alloc (.cells #[.bool false, .slice none 0 0, .slice none 0 0] 30) := ⟨_, rfl⟩
  have hb2 : Below w.heap.size w W2 := hW2 ▸ more (more (Below.refl _ _) _) _
  have A2 : Box3 W2 w.heap.size (.bool s) (.slice ao n c) (.int .i64 x) := hW2 ▸ (box3_new w _ _ _ _).alloc _
  have R2 : Box3 W2 (w.heap.size + 1) (.bool false) (.slice none 0 0) (.slice none 0 0) := by
    have := box3_new (w.alloc (.cells #[.bool s, .slice ao n c, .int .i64 x] 41)) (.bool false) (.slice none 0 0) (.slice none 0 0) 30
    rw [World.size_alloc] at this
    exact hW2 ▸ this
  have ⟨f0, f1, f2, _, _, _⟩ := A2
  go_enter Tryz.func60, Tryz.ntmps60
  go_upto_region 1 with fail
  rw [← hW2]
  clear hW2
  go_wp2_with fail
  refine (cR W2 (h.below hb2)).mono ?_
  rintro en w4 ⟨ma, mk, mc, na, nk, nc, rfl, mF, nF, hap, hb4⟩
  have hs := more hb4 (.cells #[.bool s, .slice ma mk mc, .slice na nk nc] 30)
  have V5 := next hb2 hs
  have R5 := R2.stay hs
  have P5 := box3_new w4 (.bool s) (.slice ma mk mc) (.slice na nk nc) 30
  have mG := mF.alloc (.cells #[.bool s, .slice ma mk mc, .slice na nk nc] 30)
  have nG := nF.alloc (.cells #[.bool s, .slice ma mk mc, .slice na nk nc] 30)
  have hl := R2.lt
  clear mF nF f0 f1 f2 A2 cR h hr
  go_upto_region 2 with fail
  obtain ⟨B, hB⟩ : ∃ B, B = w4.heap.size := ⟨_, rfl⟩
  rw [← hB] at P5 ⊢
  clear hB hs hb4
  generalize w4.alloc (.cells #[.bool s, .slice ma mk mc, .slice na nk nc] 30) = w5 at *
  have ⟨p0, p1, p2, _, _, _⟩ := P5
  have ⟨r0, r1, r2, rz0, rz1, rz2⟩ := R5
  obtain ⟨t0, t1, t2⟩ := R5.set (.bool s) (.slice ma mk mc) (.slice na nk nc)
  go_wp2
  refine bodyPost_ret (v := .agg #[.bool s, .slice ma mk mc, .slice na nk nc]) (by simp [results, Tryz.results60, go_sem, t0, t1, t2]) rfl ⟨ma, mk, mc, na, nk, nc, rfl, ?_, ?_, hap, ((V5.setCell (by simp) _).setCell (by simp) _).setCell (by simp) _⟩
  · exact (((mG.setCell (by simpa using hl) _).setCell (by simpa using hl) _).setCell (by simpa using hl) _).mono (by omega)
  · exact (((nG.setCell (by simpa using hl) _).setCell (by simpa using hl) _).setCell (by simpa using hl) _).mono (by omega)

set_option maxRecDepth 100000 in
set_option maxHeartbeats 4000000 in
theorem mean6_any (p q S M : Ds) (a1 a2 : Option Addr) (n1 n2 c1 c2 : Nat) (w : World) (h1 : Sl w a1 n1 c1 (limbs p.N)) (h2 : Sl w a2 n2 c2 (limbs q.N)) (hS : S = addA p.s (limbs p.N) p.x q.s (limbs q.N) q.x) (hM : M = mulA S.s (limbs S.N) S.x false (limbs 1) (-1)) :
    Calls Tryz.prog 59 #[.agg #[.bool p.s, .slice a1 n1 c1, .int .i64 p.x], .agg #[.bool q.s, .slice a2 n2 c2, .int .i64 q.x]] w (Dy1 M.s M.N M.x w) := by
  have kA : ∀ W, Below w.heap.size w W → Calls Tryz.prog 111 #[.agg #[.bool p.s, .slice a1 n1 c1, .int .i64 p.x], .agg #[.bool q.s, .slice a2 n2 c2, .int .i64 q.x]] W (Dyn (addA p.s (limbs p.N) p.x q.s (limbs q.N) q.x) W) := fun W hW => rfAdd_any p.s q.s a1 a2 n1 n2 c1 c2 p.x q.x _ _ W (h1.below hW) (h2.below hW)
  rw [← hS] at kA
  have cP := fun W => power6_any false (-1) W (by decide) (by decide)
  have cM := fun a n c b k d W (j1 : Sl W a n c (limbs S.N)) (j2 : Sl W b k d (limbs 1)) => rfMul_any S.s false a b n k c d S.x (-1) _ _ W j1 j2
  rw [← hM] at cM
  unfold Dyn at kA cM
  unfold Dy1
  generalize S.s = ss at *
  generalize S.N = sN at *
  generalize S.x = sx at *
  generalize S.e = se at *
  generalize M.s = ms at *
  generalize M.N = mN at *
  generalize M.x = mx at *
  generalize M.e = me at *
  generalize p.s = ps at *
  generalize p.x = px at *
  generalize q.s = qs at *
  generalize q.x = qx at *
  obtain ⟨W3, hW3⟩ : ∃ W3 : World, W3 = ((w.alloc (.cells #[.bool ps, .slice a1 n1 c1, .int .i64 px] 41)).alloc (.cells #[.bool qs, .slice a2 n2 c2, .int .i64 qx] 41)).alloc (.cells #[.bool false, .slice none 0 0, .int .i64 0] 41) := ⟨_, rfl⟩
  have hb3 : Below w.heap.size w W3 := hW3 ▸ more (more (more (Below.refl _ _) _) _) _
  have A3 : Box3 W3 w.heap.size (.bool ps) (.slice a1 n1 c1) (.int .i64 px) := hW3 ▸ ((box3_new w _ _ _ _).alloc _).alloc _
  have B3 : Box3 W3 (w.heap.size + 1) (.bool qs) (.slice a2 n2 c2) (.int .i64 qx) := by
    have := (box3_new (w.alloc (.cells #[.bool ps, .slice a1 n1 c1, .int .i64 px] 41)) (.bool qs) (.slice a2 n2 c2) (.int .i64 qx) 41).alloc (.cells #[.bool false, .slice none 0 0, .int .i64 0] 41)
    rw [World.size_alloc] at this
    exact hW3 ▸ this
  have R3 : Box3 W3 (w.heap.size + 2) (.bool false) (.slice none 0 0) (.int .i64 0) := by
    have := box3_new ((w.alloc (.cells #[.bool ps, .slice a1 n1 c1, .int .i64 px] 41)).alloc (.cells #[.bool qs, .slice a2 n2 c2, .int .i64 qx] 41)) (.bool false) (.slice none 0 0) (.int .i64 0) 41
    rw [World.size_alloc, World.size_alloc] at this
    exact hW3 ▸ this
  have ⟨x0, x1', x2', _, _, _⟩ := A3
  have ⟨y0, y1, y2, _, _, _⟩ := B3
  clear h1 h2 hS hM
  go_enter Tryz.func59, Tryz.ntmps59
  go_upto_region 1 with fail
  rw [← hW3]
  clear hW3
  go_wp2_with fail
  refine (kA W3 hb3).mono ?_
  rintro en wA ⟨da, dk, dc, rfl, dF, hbA⟩
  have hs := more hbA (.cells #[.bool ss, .slice da dk dc, .int .i64 sx] 41)
  have V4 := next hb3 hs
  have R4 := R3.stay hs
  have D4 := box3_new wA (.bool ss) (.slice da dk dc) (.int .i64 sx) 41
  have dG := (dF.alloc (.cells #[.bool ss, .slice da dk dc, .int .i64 sx] 41)).sl
  clear kA A3 B3 R3 dF x0 x1' x2' y0 y1 y2
  go_upto_region 2 with fail
  obtain ⟨Db, hDb⟩ : ∃ q, q = wA.heap.size := ⟨_, rfl⟩
  rw [← hDb] at D4 ⊢
  clear hDb hb3 hbA hs
  generalize wA.alloc (.cells #[.bool ss, .slice da dk dc, .int .i64 sx] 41) = w4 at *
  have ⟨f0, f1, f2, _, _, _⟩ := D4
  go_cut [7, 8] from 15 to 20 (fun v7 _ wx => ∃ P ma mk mc, v7 = .pointer (some ⟨P, 0, none⟩) ∧ Below w4.heap.size w4 wx ∧ Box3 wx P (.bool ms) (.slice ma mk mc) (.int .i64 mx) ∧ Fr 75 wx w4.heap.size ma mk mc (limbs mN))
  case first => as_aux_lemma =>
    have kS : ∀ w' : World, Below w4.heap.size w4 w' → (w'.cell? ⟨Db, 0, none⟩ = some (.bool ss) ∧ w'.cell? ⟨Db, 1, none⟩ = some (.slice da dk dc) ∧ w'.cell? ⟨Db, 2, none⟩ = some (.int .i64 sx) ∧ Below w4.heap.size w4 w') := fun w' hb => ⟨cellStay f0 hb, cellStay f1 hb, cellStay f2 hb, hb⟩
    go_region_held3 (fun w' => w'.cell? ⟨Db, 0, none⟩ = some (.bool ss) ∧ w'.cell? ⟨Db, 1, none⟩ = some (.slice da dk dc) ∧ w'.cell? ⟨Db, 2, none⟩ = some (.int .i64 sx) ∧ Below w4.heap.size w4 w')
      ((refine kS _ ?_; (repeat (with_reducible (first | exact hAZ | exact hAY | exact hAX | exact hAV | exact hAU | exact Below.refl _ _ | refine Below.drew ?_ | refine more ?_ _ | refine Below.setCell ?_ ?_ _ | exact Nat.le_refl _ | exact szX | exact szY | exact szZ | exact szV | exact szU))); done))
      (first
        | (go_at_call 70; (with_reducible refine (cP _).mono ?_); rintro en wX ⟨oa, ok, oc, rfl, oF, hbX⟩; have hAX : Below w4.heap.size w4 wX := (by first | exact hbX | exact undrew hbX | exact next (more (Below.refl _ _) _) hbX | exact next (more (Below.refl _ _) _).drew hbX); have oG := oF.sl; have szX := hAX.size; (first | (have Z := (box3_new w4 (.bool false) (.slice none 0 0) (.int .i64 0) 41).stay (by first | exact hbX | exact undrew hbX)) | skip))
        | (go_at_call 112; (with_reducible refine (cM _ _ _ _ _ _ _ (by first | exact dG.below hAX | exact dG.below (more hAX _)) (by first | exact oG | exact oG.alloc _)).mono ?_); rintro en wZ ⟨ma, mk, mc, rfl, mF, hbX⟩; have hXZ : Below wX.heap.size wX wZ := (by first | exact hbX | exact undrew hbX | exact next (more (Below.refl _ _) _) hbX | exact next (more (Below.refl _ _) _).drew hbX); have hAZ := next hAX hXZ; have szZ := hAZ.size; (first | (have Z3 := Z.stay hXZ; have ⟨zz0, zz1, zz2, zy0, zy1, zy2⟩ := Z3; have ltZ := Z.lt) | (have Z3 := (box3_new wX (.bool false) (.slice none 0 0) (.int .i64 0) 41).stay (by first | exact hbX | exact undrew hbX); have ⟨zz0, zz1, zz2, zy0, zy1, zy2⟩ := Z3) | skip)))
    all_goals go_split_ands
    all_goals go_wp2
    all_goals go_meet
    all_goals
      refine ⟨_, ma, mk, mc, rfl, by assumption, ?_, ?_⟩
      · first | exact box3_put Z3 _ _ _ | exact box3_new .. | exact box3_put (box3_new ..) _ _ _
      · have F := frT mF; (try simp only [World.size_alloc] at F); refine FrT.fro F ?_ (by omega); (repeat (with_reducible (first | exact F | refine FrT.alloc ?_ _ | refine FrT.drew ?_ | refine FrT.setCell ?_ (by first | (simp; done) | (simp; omega) | omega) _)))
  case rest => as_aux_lemma =>
    obtain ⟨P, ma, mk, mc, rfl, hbc, Pc, mG⟩ := hcut
    have V5 := next V4 hbc
    have R5 := R4.stay hbc
    have hl := R4.lt
    have h4 := V4.size
    clear V4 R4 hbc f0 f1 f2 D4 dG cP cM
    have ⟨p0, p1, p2, _, _, _⟩ := Pc
    have ⟨r0, r1, r2, rz0, rz1, rz2⟩ := R5
    obtain ⟨t0, t1, t2⟩ := R5.set (.bool ms) (.slice ma mk mc) (.int .i64 mx)
    go_wp2
    refine bodyPost_ret (v := .agg #[.bool ms, .slice ma mk mc, .int .i64 mx]) (by simp [results, Tryz.results59, go_sem, t0, t1, t2]) rfl ⟨ma, mk, mc, rfl, ?_, ((V5.setCell (by simp; omega) _).setCell (by simp; omega) _).setCell (by simp; omega) _⟩
    exact (((mG.setCell (by simpa using hl) _).setCell (by simpa using hl) _).setCell (by simpa using hl) _).mono h4

set_option maxRecDepth 100000 in
set_option maxHeartbeats 4000000 in
theorem beyond6_any (e f b : Nat) (D : Ds) (w : World) (h : formE (e : Int) (f : Int) = 0) (hb : b < 18446744073709551616) (hp : b < pw (1 + e + f)) (hD : D = addA (valS (e : Int) (f : Int) b) (limbs (valN (e : Int) (f : Int) b)) (valX (e : Int) (f : Int) b) (sgB e f b) (limbs 1) (unI e f b)) :
    Calls Tryz.prog 58 #[.agg #[.int .i64 (e : Int), .int .i64 (f : Int)], .int .u64 (b : Int)] w (Dy1 D.s D.N D.x w) := by
  have cW := fun W => worth6_any (e : Int) (f : Int) b W hb
  have cH := fun W => half6_any e f W h
  have cU := fun W => unit6_any e f b W h hb hp
  obtain ⟨u1, u2⟩ := un_small (b := b) h
  have cP := fun W => power6_any (sgB e f b) (unI e f b) W (by omega) (by omega)
  have cA := fun a n c a' k d W (j1 : Sl W a n c (limbs (valN (e : Int) (f : Int) b))) (j2 : Sl W a' k d (limbs 1)) => rfAdd_any (valS (e : Int) (f : Int) b) (sgB e f b) a a' n k c d (valX (e : Int) (f : Int) b) (unI e f b) _ _ W j1 j2
  rw [← hD] at cA
  unfold Dy1 at cW
  unfold Dyn at cA
  unfold Dy1
  have hsg : decide (pw (e + f) ≤ b) = sgB e f b := (sg_iff hp).symm
  clear hD u1 u2 hp
  generalize unI e f b = U at *
  generalize sgB e f b = G at *
  generalize pw (e + f) = T at *
  generalize valS (e : Int) (f : Int) b = vs at *
  generalize valN (e : Int) (f : Int) b = vN at *
  generalize valX (e : Int) (f : Int) b = vx at *
  generalize D.s = ds at *
  generalize D.N = dN at *
  generalize D.x = dx at *
  generalize D.e = de at *
  obtain ⟨W2, hW2⟩ : ∃ W2 : World, W2 = (w.alloc (.cells #[.int .i64 (e : Int), .int .i64 (f : Int)] 23)).alloc (.cells #[.bool false, .slice none 0 0, .int .i64 0] 41) := ⟨_, rfl⟩
  have hb2 : Below w.heap.size w W2 := hW2 ▸ more (more (Below.refl _ _) _) _
  have f0 : W2.cell? ⟨w.heap.size, 0, none⟩ = some (.int .i64 (e : Int)) := by rw [hW2]; simp
  have f1 : W2.cell? ⟨w.heap.size, 1, none⟩ = some (.int .i64 (f : Int)) := by rw [hW2]; simp
  have R2 : Box3 W2 (w.heap.size + 1) (.bool false) (.slice none 0 0) (.int .i64 0) := by
    have := box3_new (w.alloc (.cells #[.int .i64 (e : Int), .int .i64 (f : Int)] 23)) (.bool false) (.slice none 0 0) (.int .i64 0) 41
    rw [World.size_alloc] at this
    exact hW2 ▸ this
  go_enter Tryz.func58, Tryz.ntmps58
  go_upto_region 1 with fail
  rw [← hW2]
  clear hW2
  go_cut [5, 6] from 7 to 21 (fun v5 _ wx => ∃ P ma mk mc, v5 = .pointer (some ⟨P, 0, none⟩) ∧ Below W2.heap.size W2 wx ∧ Box3 wx P (.bool ds) (.slice ma mk mc) (.int .i64 dx) ∧ Fr 75 wx W2.heap.size ma mk mc (limbs dN))
  case first => as_aux_lemma =>
    have kS : ∀ w' : World, Below W2.heap.size W2 w' → (w'.cell? ⟨w.heap.size, 0, none⟩ = some (.int .i64 (e : Int)) ∧ w'.cell? ⟨w.heap.size, 1, none⟩ = some (.int .i64 (f : Int)) ∧ Below W2.heap.size W2 w') := fun w' hb => ⟨cellStay f0 hb, cellStay f1 hb, hb⟩
    go_region_held3 (fun w' => w'.cell? ⟨w.heap.size, 0, none⟩ = some (.int .i64 (e : Int)) ∧ w'.cell? ⟨w.heap.size, 1, none⟩ = some (.int .i64 (f : Int)) ∧ Below W2.heap.size W2 w')
      ((refine kS _ ?_; (repeat (with_reducible (first | exact hAZ | exact hAY | exact hAX | exact hAV | exact hAU | exact Below.refl _ _ | refine Below.drew ?_ | refine more ?_ _ | refine Below.setCell ?_ ?_ _ | exact Nat.le_refl _ | exact szX | exact szY | exact szZ | exact szV | exact szU))); done))
      (first
        | (go_at_call 57; (with_reducible refine (cW _).mono ?_); rintro en wX ⟨va, vk, vc, rfl, vF, hbX⟩; have hAX : Below W2.heap.size W2 wX := (by first | exact hbX | exact undrew hbX | exact next (more (Below.refl _ _) _) hbX | exact next (more (Below.refl _ _) _).drew hbX); have szX := hAX.size; have vG := vF.sl; (first | (have Z := (box3_new W2 (.bool false) (.slice none 0 0) (.int .i64 0) 41).stay (by first | exact hbX | exact undrew hbX)) | skip))
        | (go_at_call 56; (with_reducible refine (cH _).mono ?_); rintro en wY ⟨rfl, hbX⟩; have hXY : Below wX.heap.size wX wY := (by first | exact hbX | exact undrew hbX | exact next (more (Below.refl _ _) _) hbX | exact next (more (Below.refl _ _) _).drew hbX); have hAY := next hAX hXY; have szY := hAY.size; have vG2 := vG.below hXY; (first | (have Z2 := Z.stay hXY) | (have Z2 := (box3_new wX (.bool false) (.slice none 0 0) (.int .i64 0) 41).stay (by first | exact hbX | exact undrew hbX)) | skip))
        | (go_at_call 71; (with_reducible refine (cU _).mono ?_); rintro en wU ⟨rfl, hbX⟩; have hYU : Below wY.heap.size wY wU := (by first | exact hbX | exact undrew hbX | exact next (more (Below.refl _ _) _) hbX | exact next (more (Below.refl _ _) _).drew hbX); have hAU := next hAY hYU; have szU := hAU.size; have vG3 := vG2.below hYU; (first | (have Z4 := Z2.stay hYU) | (have Z4 := (box3_new wY (.bool false) (.slice none 0 0) (.int .i64 0) 41).stay (by first | exact hbX | exact undrew hbX)) | skip))
        | (go_at_call 70; (with_reducible refine (cP _).mono ?_); rintro en wV ⟨oa, ok, oc, rfl, oF, hbX⟩; have hUV : Below wU.heap.size wU wV := (by first | exact hbX | exact undrew hbX | exact next (more (Below.refl _ _) _) hbX | exact next (more (Below.refl _ _) _).drew hbX); have hAV := next hAU hUV; have szV := hAV.size; have oG := oF.sl; have vG4 := vG3.below hUV; (first | (have Z5 := Z4.stay hUV) | (have Z5 := (box3_new wU (.bool false) (.slice none 0 0) (.int .i64 0) 41).stay (by first | exact hbX | exact undrew hbX)) | skip))
        | (go_at_call 111; (with_reducible refine (cA _ _ _ _ _ _ _ (by first | exact vG4 | exact vG4.alloc _) (by first | exact oG | exact oG.alloc _)).mono ?_); rintro en wZ ⟨ma, mk, mc, rfl, mF, hbX⟩; have hVZ : Below wV.heap.size wV wZ := (by first | exact hbX | exact undrew hbX | exact next (more (Below.refl _ _) _) hbX | exact next (more (Below.refl _ _) _).drew hbX); have hAZ := next hAV hVZ; have szZ := hAZ.size; (first | (have Z3 := Z5.stay hVZ; have ⟨zz0, zz1, zz2, zy0, zy1, zy2⟩ := Z3; have ltZ := Z5.lt) | (have Z3 := (box3_new wV (.bool false) (.slice none 0 0) (.int .i64 0) 41).stay (by first | exact hbX | exact undrew hbX); have ⟨zz0, zz1, zz2, zy0, zy1, zy2⟩ := Z3) | skip)))
    all_goals go_split_ands
    all_goals go_wp2
    all_goals go_meet
    all_goals
      refine ⟨_, ma, mk, mc, rfl, by assumption, ?_, ?_⟩
      · first | exact box3_put Z3 _ _ _ | exact box3_new .. | exact box3_put (box3_new ..) _ _ _
      · have F := frT mF; (try simp only [World.size_alloc] at F); refine FrT.fro F ?_ (by omega); (repeat (with_reducible (first | exact F | refine FrT.alloc ?_ _ | refine FrT.drew ?_ | refine FrT.setCell ?_ (by first | (simp; done) | (simp; omega) | omega) _)))
  case rest => as_aux_lemma =>
    obtain ⟨P, ma, mk, mc, rfl, hbc, Pc, mG⟩ := hcut
    have V5 := next hb2 hbc
    have R5 := R2.stay hbc
    have hl := R2.lt
    have h4 := hb2.size
    clear hb2 R2 hbc f0 f1 cW cH cU cP cA
    have ⟨p0, p1, p2, _, _, _⟩ := Pc
    have ⟨r0, r1, r2, rz0, rz1, rz2⟩ := R5
    obtain ⟨t0, t1, t2⟩ := R5.set (.bool ds) (.slice ma mk mc) (.int .i64 dx)
    go_wp2
    refine bodyPost_ret (v := .agg #[.bool ds, .slice ma mk mc, .int .i64 dx]) (by simp [results, Tryz.results58, go_sem, t0, t1, t2]) rfl ⟨ma, mk, mc, rfl, ?_, ((V5.setCell (by simp) _).setCell (by simp) _).setCell (by simp) _⟩
    exact (((mG.setCell (by simpa using hl) _).setCell (by simpa using hl) _).setCell (by simpa using hl) _).mono h4

end Go.Proofs.YtfjgmpfpadfknaaGreatDoor

