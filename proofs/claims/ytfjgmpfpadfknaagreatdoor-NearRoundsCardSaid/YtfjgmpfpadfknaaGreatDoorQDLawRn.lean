/-
  The law numerallaw06.NearRounds answers true, whatever it is asked, in whatever memory; what it is asked reads behind the call as it read before. One condition: the table math/bits.deBruijn32tab reads as it was laid. (Printed by wip/gen/lawrn.py.)
-/
import Derived.Test.YtfjgmpfpadfknaaGreatDoorQRnBase
import Derived.Test.YtfjgmpfpadfknaaGreatDoorQDRchG
namespace Go.Proofs.YtfjgmpfpadfknaaGreatDoor

open Go.RowKit Go.Lb

attribute [local go_sem] Go.World.cell?_alloc_some

theorem rchG_two {g : Bool} {I O : Ds} {i o : Bool} {w w' : World} {en : Ending} (h : RchG g I O i o w en w') : Rch (g && decide ((loD g I O).N ≠ 0)) (g && decide ((hiD g I O).N ≠ 0)) (loD g I O) (hiD g I O) (if g = true then o else i) (if g = true then i else o) w en w' := by
  cases g
  · exact h
  · exact h

theorem rn_btw {E F b m N D : Nat} {rs : Bool} (hf : formE (E : Int) (F : Int) = 0) (hb : b < pw (1 + E + F)) (hx : exN E F b ≠ maskN E) (hm : m < 5) (hD : D ≠ 0) (hG : Nat.gcd N D = 1) (hs : rs = true → N ≠ 0) :
    rnB E F b m rs (sgB E F b) N D = btw (edQ (sgB E F b) (loD (sgB E F b) (rcI E F (mgN E F b) (seM m (sgB E F b))) (rcO E F (mgN E F b) (seM m (sgB E F b))))) (sgQ' rs N D) (edQ (sgB E F b) (hiD (sgB E F b) (rcI E F (mgN E F b) (seM m (sgB E F b))) (rcO E F (mgN E F b) (seM m (sgB E F b)))))
        (if sgB E F b = true then rco (mgN E F b) (seM m (sgB E F b)) else rci (mgN E F b) (seM m (sgB E F b))) (if sgB E F b = true then rci (mgN E F b) (seM m (sgB E F b)) else rco (mgN E F b) (seM m (sgB E F b))) := by
  have h := reach_law hf hb hx hm hD hG hs
  rw [Bool.eq_iff_iff, ← h]
  unfold rnB
  rw [Bool.and_eq_true, decide_eq_true_eq, decide_eq_true_eq]

/-- Cmp's two outcomes and the ends' flags. -/
def btwI (a b : Int) (l h : Bool) : Bool := (decide (a < 0) || (decide (a = 0) && l)) && (decide (b < 0) || (decide (b = 0) && h))

theorem cmpQ_three (x y : Rat) : cmpQ x y = -1 ∨ cmpQ x y = 0 ∨ cmpQ x y = 1 := by
  unfold cmpQ
  split
  · exact .inl rfl
  · split
    · exact .inr (.inr rfl)
    · exact .inr (.inl rfl)

/-- All that the law leans on, of a finite float: an end on each side, rounded as they must; what lies in the middle; any other fraction. -/
structure Rns (E F b m : Nat) (s sL sH : Bool) (xL yL xH yH : List Nat) (l h : Bool) (qL qH : Rat) : Prop where
  sg : s = sgB E F b
  rL : ratB sL xL yL = true
  rH : ratB sH xH yH = true
  lL : xL.length ≤ 126 ∧ yL.length ≤ 64
  lH : xH.length ≤ 126 ∧ yH.length ≤ 64
  vL : sgQ' sL (val xL) (val yL) = qL
  vH : sgQ' sH (val xH) (val yH) = qH
  rch : ∀ W, Tab W → Calls Tryz.prog 11 #[.agg #[.int .i64 (E : Int), .int .i64 (F : Int)], .int .u64 (b : Int), .int .u8 (m : Int)] W fun en w' => ∃ a1 n1 c1 a2 n2 c2 a3 n3 c3 a4 n4 c4, en = .returned (.tuple #[.agg #[.bool sL, .slice a1 n1 c1, .slice a2 n2 c2], .agg #[.bool sH, .slice a3 n3 c3, .slice a4 n4 c4], .bool l, .bool h, .int .i64 0]) ∧
    Fr 75 w' W.heap.size a1 n1 c1 xL ∧ Fr 75 w' W.heap.size a2 n2 c2 yL ∧ Fr 75 w' W.heap.size a3 n3 c3 xH ∧ Fr 75 w' W.heap.size a4 n4 c4 yH ∧ Below W.heap.size W w'
  ql : ln qL.num.natAbs ≤ 126 ∧ ln qL.den ≤ 64
  qh : ln qH.num.natAbs ≤ 126 ∧ ln qH.den ≤ 64
  ord : cmpQ qL qH = -1 ∨ cmpQ qL qH = 0 ∧ l = true ∧ h = true
  bt : ∀ N D rs, D ≠ 0 → Nat.gcd N D = 1 → (rs = true → N ≠ 0) → rnB E F b m rs s N D = btw qL (sgQ' rs N D) qH l h

theorem edge_list (s : Bool) (X : Ds) : sgQ' (s && decide (X.N ≠ 0)) (val (limbs (upN X.N X.x))) (val (limbs (upD X.x))) = edQ s X := by
  rw [val_limbs', val_limbs']
  rfl

theorem edge_len {s : Bool} {X : Ds} (hd : Dy false X.N X.x) (h1 : (limbs (upN X.N X.x)).length ≤ 126) (h2 : (limbs (upD X.x)).length ≤ 64) : ln (edQ s X).num.natAbs ≤ 126 ∧ ln (edQ s X).den ≤ 64 := by
  obtain ⟨q1, q2, _⟩ := mk_low (s := s && decide (X.N ≠ 0)) (upD_pos X.x) (up_cop hd) (fun h => upN_ne (of_decide_eq_true ((Bool.and_eq_true _ _).mp h).2) _)
  unfold edQ
  rw [q1, q2]
  exact ⟨h1, h2⟩

theorem rns_of {E F b m : Nat} (hfit : fitsE (E : Int) (F : Int) b = 0) (hx : exN E F b ≠ maskN E) (hm : m < 5) : ∃ sL sH xL yL xH yH l h qL qH, Rns E F b m (sgB E F b) sL sH xL yL xH yH l h qL qH := by
  obtain ⟨hf, hp⟩ := fitsE_parts hfit
  replace hp : b < pw (1 + E + F) := hp
  have ef := edge_facts hf hx (m := m) (sgB E F b)
  have eo := edge_order hf hx hm (sgB E F b)
  have cN := fun W hT => nearReach_ok E F b m W hfit hx hm hT
  have hbt := fun N D rs (hD : D ≠ 0) (hG : Nat.gcd N D = 1) (hs : rs = true → N ≠ 0) => rn_btw (rs := rs) hf hp hx hm hD hG hs
  have hlo : loD (sgB E F b) (rcI E F (mgN E F b) (seM m (sgB E F b))) (rcO E F (mgN E F b) (seM m (sgB E F b))) = rcI E F (mgN E F b) (seM m (sgB E F b)) ∨ loD (sgB E F b) (rcI E F (mgN E F b) (seM m (sgB E F b))) (rcO E F (mgN E F b) (seM m (sgB E F b))) = rcO E F (mgN E F b) (seM m (sgB E F b)) := by
    unfold loD; split <;> simp
  have hhi : hiD (sgB E F b) (rcI E F (mgN E F b) (seM m (sgB E F b))) (rcO E F (mgN E F b) (seM m (sgB E F b))) = rcI E F (mgN E F b) (seM m (sgB E F b)) ∨ hiD (sgB E F b) (rcI E F (mgN E F b) (seM m (sgB E F b))) (rcO E F (mgN E F b) (seM m (sgB E F b))) = rcO E F (mgN E F b) (seM m (sgB E F b)) := by
    unfold hiD; split <;> simp
  obtain ⟨y1, k1, k2⟩ := ef _ hlo
  obtain ⟨y2, k3, k4⟩ := ef _ hhi
  refine ⟨_, _, _, _, _, _, _, _, _, _, rfl, k1, k3, k2, k4, edge_list _ _, edge_list _ _, ?_, edge_len y1 k2.1 k2.2, edge_len y2 k4.1 k4.2, ?_, hbt⟩
  · intro W hT
    refine (cN W hT).mono fun en w' hh => ?_
    obtain ⟨a1, n1, c1, a2, n2, c2, a3, n3, c3, a4, n4, c4, e, F1, F2, F3, F4, _, hb⟩ := rchG_two hh
    exact ⟨a1, n1, c1, a2, n2, c2, a3, n3, c3, a4, n4, c4, e, F1, F2, F3, F4, hb⟩
  · rcases eo with h | ⟨h, h1, h2⟩
    · exact .inl h
    · refine .inr ⟨h, ?_, ?_⟩
      · rw [h1, h2]; simp
      · rw [h1, h2]; simp

/-- goes, of a fraction that must go or must not. -/
theorem goes_must {E F b m : Nat} {s sL sH : Bool} {xL yL xH yH : List Nat} {l h : Bool} {qL qH : Rat} (R : Rns E F b m s sL sH xL yL xH yH l h qL qH) (hf : formE (E : Int) (F : Int) = 0) (hm : m < 5)
    (t must : Bool) (a1 a2 : Option Addr) (n1 n2 c1 c2 : Nat) (xs ys : List Nat) (w : World) (h1 : Sl w a1 n1 c1 xs) (h2 : Sl w a2 n2 c2 ys) (hT : Tab w) (hr : ratB t xs ys = true) (l1 : n1 ≤ 400) (l2 : n2 ≤ 400)
    (hmu : btw qL (sgQ' t (val xs) (val ys)) qH l h = must) :
    Calls Tryz.prog 41 #[.agg #[.int .i64 (E : Int), .int .i64 (F : Int)], .int .u64 (b : Int), .int .u8 (m : Int), .bool s, .agg #[.bool t, .slice a1 n1 c1, .slice a2 n2 c2], .bool must] w fun en w' => en = .returned (.bool true) ∧ Below w.heap.size w w' := by
  obtain ⟨_, _, hD, hG, hs, _⟩ := rat_facts5 h1 h2 hr
  have hg := goes6_any E F b m t s must a1 a2 n1 n2 c1 c2 xs ys w h1 h2 hT hf hm hr l1 l2
  rw [R.bt _ _ _ hD hG hs, hmu] at hg
  simpa using hg

theorem btw_low (qL qH : Rat) (l h : Bool) (ho : cmpQ qL qH = -1 ∨ cmpQ qL qH = 0 ∧ l = true ∧ h = true) : btw qL qL qH l h = l ∧ btw qL qH qH l h = h ∧ btw qL (hfQ (qL + qH)) qH l h = true := by
  unfold btw
  rw [cmpQ_self, cmpQ_self]
  rcases ho with ho | ⟨ho, rfl, rfl⟩
  · obtain ⟨m1, m2⟩ := mid_lt (cmpQ_lt.1 ho)
    rw [ho, cmpQ_lt.2 m1, cmpQ_lt.2 m2]
    simp
  · have he := cmpQ_zero.1 ho
    rw [mid_eq he, cmpQ_self, ho]
    simp

theorem rn_len {E F b m : Nat} {s sL sH : Bool} {xL yL xH yH : List Nat} {l h : Bool} {qL qH : Rat} (R : Rns E F b m s sL sH xL yL xH yH l h qL qH) : ln (qL + qH).num.natAbs ≤ 381 ∧ ln (qL + qH).den ≤ 128 ∧ ln (hfQ (qL + qH)).num.natAbs ≤ 382 ∧ ln (hfQ (qL + qH)).den ≤ 129 := by
  have a := add_len qL qH
  have b := hf_len (qL + qH)
  have c := R.ql
  have d := R.qh
  omega

set_option maxRecDepth 100000 in
set_option maxHeartbeats 8000000 in
theorem roundsLaw_any (e f : Int) (b m : Nat) (t : Bool) (a0 b0 : Option Addr) (n0 m0 c0 d0 : Nat) (xs ys : List Nat) (w : World) (hb : b < 18446744073709551616) (hm : m < 256) (hT : Tab w) (h0 : Sl w a0 n0 c0 xs) (h0' : Sl w b0 m0 d0 ys) :
    Calls Tryz.prog 9 #[.agg #[.int .i64 e, .int .i64 f], .int .u64 (b : Int), .int .u8 (m : Int), .agg #[.bool t, .slice a0 n0 c0, .slice b0 m0 d0]] w fun en w' => en = .returned (.bool true) ∧ Below w.heap.size w w' := by
  obtain ⟨W1, hW1⟩ : ∃ W1 : World, W1 = (w.alloc (.cells #[.int .i64 e, .int .i64 f] 23)).alloc (.cells #[.bool t, .slice a0 n0 c0, .slice b0 m0 d0] 30) := ⟨_, rfl⟩
  have V : Below w.heap.size w W1 := hW1 ▸ more (more (Below.refl _ _) _) _
  have F0 : Box2 W1 w.heap.size (.int .i64 e) (.int .i64 f) := hW1 ▸ (box2_new w _ _ _).alloc _
  have B7 : Box3 W1 (w.heap.size + 1) (.bool t) (.slice a0 n0 c0) (.slice b0 m0 d0) := by
    have := box3_new (w.alloc (.cells #[.int .i64 e, .int .i64 f] 23)) (.bool t) (.slice a0 n0 c0) (.slice b0 m0 d0) 30
    rw [World.size_alloc] at this
    exact hW1 ▸ this
  have cA := awake6_any W1 (hT.below V)
  by_cases hE : rcE e f b m = 0
  rotate_left
  · have cN := fun W => nearReach_no e f b m W hb hm hE
    generalize rcE e f b m = T at *
    have hT0 : (T == 0) = false := by simpa using hE
    have hT1 : (T != 0) = true := by simpa using hE
    go_enter Tryz.func9, Tryz.ntmps9
    go_upto_region 1 with fail
    rw [← hW1]
    clear hW1
    go_wp2_with fail
    refine cA.mono ?_
    rintro en w2 ⟨rfl, hb2⟩
    replace V := next V hb2
    replace F0 := F0.stay hb2
    replace B7 := B7.stay hb2
    clear cA hb2
    have ⟨f0, f1⟩ := F0
    go_wp2_with fail
    refine (cN w2).mono ?_
    rintro en w3 ⟨rfl, hb3⟩
    have V3 := next V hb3
    have X3 := box3_new w3 (.bool false) (.slice none 0 0) (.slice none 0 0) 30
    clear cN f0 f1 F0 B7
    go_wp2
    go_ret
    exact ⟨by simp, more (more V3 _) _⟩
  obtain ⟨E, F, rfl, rfl, hfit, hx, hm5⟩ := rc_ok hE
  obtain ⟨hf, hp⟩ := fitsE_parts hfit
  replace hp : b < pw (1 + E + F) := hp
  obtain ⟨sL, sH, xL, yL, xH, yH, l, h, qL, qH, R⟩ := rns_of hfit hx hm5
  have cS := fun W => split_any E F b W hf hb hp
  have hsg := R.sg
  generalize sgB E F b = s at *
  generalize exN E F b = sx at *
  generalize frN F b = sf at *
  clear hsg
  have gm := fun t must a1 a2 n1 n2 c1 c2 xs ys W h1 h2 hT hr l1 l2 hmu => goes_must R hf hm5 t must a1 a2 n1 n2 c1 c2 xs ys W h1 h2 hT hr l1 l2 hmu
  have cR := R.rch
  obtain ⟨g1, g2, g3⟩ := btw_low qL qH l h R.ord
  have rL := R.rL
  have rH := R.rH
  have lL := R.lL
  have lH := R.lH
  have vL := R.vL
  have vH := R.vH
  have hord := R.ord
  have kL := fun a1 n1 c1 a2 n2 c2 W (j1 : Sl W a1 n1 c1 xL) (j2 : Sl W a2 n2 c2 yL) hT => gm sL l a1 a2 n1 n2 c1 c2 xL yL W j1 j2 hT rL (by have := j1.len; omega) (by have := j2.len; omega) (by rw [vL]; exact g1)
  have kH := fun a1 n1 c1 a2 n2 c2 W (j1 : Sl W a1 n1 c1 xH) (j2 : Sl W a2 n2 c2 yH) hT => gm sH h a1 a2 n1 n2 c1 c2 xH yH W j1 j2 hT rH (by have := j1.len; omega) (by have := j2.len; omega) (by rw [vH]; exact g2)
  have kA := fun a1 n1 c1 a2 n2 c2 a3 n3 c3 a4 n4 c4 W (j1 : Sl W a1 n1 c1 xL) (j2 : Sl W a2 n2 c2 yL) (j3 : Sl W a3 n3 c3 xH) (j4 : Sl W a4 n4 c4 yH) hT => rtAdd_ok sL sH a1 a2 a3 a4 n1 n2 n3 n4 c1 c2 c3 c4 xL yL xH yH W j1 j2 j3 j4 hT rL rH (by have := j1.len; omega) (by have := j2.len; omega) (by have := j3.len; omega) (by have := j4.len; omega)
  have kC := fun a1 n1 c1 a2 n2 c2 a3 n3 c3 a4 n4 c4 W (j1 : Sl W a1 n1 c1 xL) (j2 : Sl W a2 n2 c2 yL) (j3 : Sl W a3 n3 c3 xH) (j4 : Sl W a4 n4 c4 yH) hT => rtCmp_ok sL sH a1 a2 a3 a4 n1 n2 n3 n4 c1 c2 c3 c4 xL yL xH yH W j1 j2 j3 j4 hT rL rH
  rw [vL, vH] at kA kC
  have qlen : ln (qL + qH).num.natAbs ≤ 381 ∧ ln (qL + qH).den ≤ 128 ∧ ln (hfQ (qL + qH)).num.natAbs ≤ 382 ∧ ln (hfQ (qL + qH)).den ≤ 129 := rn_len R
  have kM := fun a1 n1 c1 a2 n2 c2 W (j1 : Sl W a1 n1 c1 (limbs (qL + qH).num.natAbs)) (j2 : Sl W a2 n2 c2 (limbs (qL + qH).den)) hT => rtHalf_ok (decide ((qL + qH).num < 0)) a1 a2 n1 n2 c1 c2 _ _ W j1 j2 hT (ratB_of (qL + qH) (by omega) (by omega)) (by have := j1.len; have := qlen.1; unfold ln at this; omega) (by have := j2.len; have := qlen.2.1; unfold ln at this; omega)
  simp only [val_limbs', sgQ_of] at kM
  have kG := fun a1 n1 c1 a2 n2 c2 W (j1 : Sl W a1 n1 c1 (limbs (hfQ (qL + qH)).num.natAbs)) (j2 : Sl W a2 n2 c2 (limbs (hfQ (qL + qH)).den)) hT => gm (decide ((hfQ (qL + qH)).num < 0)) true a1 a2 n1 n2 c1 c2 _ _ W j1 j2 hT (ratB_of (hfQ (qL + qH)) (by omega) (by omega)) (by have := j1.len; have := qlen.2.2.1; unfold ln at this; omega) (by have := j2.len; have := qlen.2.2.2; unfold ln at this; omega) (by rw [val_limbs', val_limbs', sgQ_of]; exact g3)
  have kK := fun W (hT : Tab W) (j1 : Sl W a0 n0 c0 xs) (j2 : Sl W b0 m0 d0 ys) => rtCheck_any t a0 b0 n0 m0 c0 d0 xs ys W j1 j2 hT
  have kS := fun W => short6_any t a0 b0 n0 m0 c0 d0 W
  have kU := fun (hr : ratB t xs ys = true) a1 n1 c1 a2 n2 c2 W (j1 : Sl W a1 n1 c1 xL) (j2 : Sl W a2 n2 c2 yL) (j3 : Sl W a0 n0 c0 xs) (j4 : Sl W b0 m0 d0 ys) hT => rtCmp_ok sL t a1 a2 a0 b0 n1 n2 n0 m0 c1 c2 c0 d0 xL yL xs ys W j1 j2 j3 j4 hT rL hr
  have kV := fun (hr : ratB t xs ys = true) a1 n1 c1 a2 n2 c2 W (j1 : Sl W a1 n1 c1 xH) (j2 : Sl W a2 n2 c2 yH) (j3 : Sl W a0 n0 c0 xs) (j4 : Sl W b0 m0 d0 ys) hT => rtCmp_ok t sH a0 b0 a1 a2 n0 m0 n1 n2 c0 d0 c1 c2 xs ys xH yH W j3 j4 j1 j2 hT hr rH
  have kR := fun (hr : ratB t xs ys = true) must (hmu : btw qL (sgQ' t (val xs) (val ys)) qH l h = must) W (j3 : Sl W a0 n0 c0 xs) (j4 : Sl W b0 m0 d0 ys) hT (l1 : n0 ≤ 200) (l2 : m0 ≤ 200) => gm t must a0 b0 n0 m0 c0 d0 xs ys W j3 j4 hT hr (by omega) (by omega) hmu
  rw [vL] at kU
  rw [vH] at kV
  unfold RtnQ Rtn at kA
  unfold RtnW at kM
  have hbt : ∀ q, btw qL q qH l h = btwI (cmpQ qL q) (cmpQ q qH) l h := fun q => rfl
  simp only [hbt] at kR
  have c31 := cmpQ_three qL (sgQ' t (val xs) (val ys))
  have c32 := cmpQ_three (sgQ' t (val xs) (val ys)) qH
  generalize sgQ' t (val xs) (val ys) = qq at *
  generalize hfQ (qL + qH) = qm at *
  generalize qL + qH = qs at *
  clear hbt gm R g1 g2 g3 rL rH lL lH vL vH qlen hfit hx hp hf hE 
  go_enter Tryz.func9, Tryz.ntmps9
  go_upto_region 1 with fail
  rw [← hW1]
  clear hW1
  go_wp2_with fail
  refine cA.mono ?_
  rintro en w2 ⟨rfl, hb2⟩
  replace V := next V hb2
  replace F0 := F0.stay hb2
  replace B7 := B7.stay hb2
  clear cA hb2
  have ⟨f0, f1⟩ := F0
  go_wp2_with fail
  refine (cR w2 (hT.below V)).mono ?_
  rintro en w3 ⟨a1, n1, c1, a2, n2, c2, a3, n3, c3, a4, n4, c4, rfl, A1, A2, A3, A4, hb3⟩
  obtain ⟨W4, hW4⟩ : ∃ W4 : World, W4 = (w3.alloc (.cells #[.bool sL, .slice a1 n1 c1, .slice a2 n2 c2] 30)).alloc (.cells #[.bool sH, .slice a3 n3 c3, .slice a4 n4 c4] 30) := ⟨_, rfl⟩
  have hb4 : Below w3.heap.size w3 W4 := hW4 ▸ more (more (Below.refl _ _) _) _
  have B10 : Box3 W4 w3.heap.size (.bool sL) (.slice a1 n1 c1) (.slice a2 n2 c2) := hW4 ▸ (box3_new w3 _ _ _ _).alloc _
  have B11 : Box3 W4 (w3.heap.size + 1) (.bool sH) (.slice a3 n3 c3) (.slice a4 n4 c4) := by
    have := box3_new (w3.alloc (.cells #[.bool sL, .slice a1 n1 c1, .slice a2 n2 c2] 30)) (.bool sH) (.slice a3 n3 c3) (.slice a4 n4 c4) 30
    rw [World.size_alloc] at this
    exact hW4 ▸ this
  replace V := next V (next hb3 hb4)
  replace F0 := F0.stay (next hb3 hb4)
  replace B7 := B7.stay (next hb3 hb4)
  replace A1 := A1.below hb4
  replace A2 := A2.below hb4
  replace A3 := A3.below hb4
  replace A4 := A4.below hb4
  go_upto_region 5 with fail
  rw [← hW4]
  obtain ⟨P10, hP10⟩ : ∃ q, q = w3.heap.size := ⟨_, rfl⟩
  obtain ⟨P11, hP11⟩ : ∃ q, q = w3.heap.size + 1 := ⟨_, rfl⟩
  rw [← hP11] at B11 ⊢
  rw [← hP10] at B10 ⊢
  clear hP10 hP11 hW4 hb3 hb4 cR f0 f1
  have ⟨f0, f1⟩ := F0
  go_wp2_with fail
  refine (cS W4).mono ?_
  rintro en w5 ⟨rfl, hb5⟩
  have B15 := box3_new w5 (.bool s) (.int .i64 (sx : Int)) (.int .u64 (sf : Int)) 68
  have s5 := more hb5 (.cells #[.bool s, .int .i64 (sx : Int), .int .u64 (sf : Int)] 68)
  replace V := next V s5
  replace F0 := F0.stay s5
  replace B7 := B7.stay s5
  replace B10 := B10.stay s5
  replace B11 := B11.stay s5
  replace A1 := A1.below s5
  replace A2 := A2.below s5
  replace A3 := A3.below s5
  replace A4 := A4.below s5
  go_upto_region 8 with fail
  obtain ⟨P15, hP15⟩ : ∃ q, q = w5.heap.size := ⟨_, rfl⟩
  rw [← hP15] at B15 ⊢
  generalize w5.alloc (.cells #[.bool s, .int .i64 (sx : Int), .int .u64 (sf : Int)] 68) = W6 at *
  clear hP15 hb5 s5 cS f0 f1
  have ⟨f0, f1⟩ := F0
  have ⟨p0, p1, p2, _, _, _⟩ := B15
  have ⟨q0, q1, q2, _, _, _⟩ := B10
  go_wp2_with fail
  (with_reducible refine (kL _ _ _ _ _ _ W6 A1.sl A2.sl (hT.below V)).mono ?_)
  rintro en w7 ⟨rfl, hb9⟩
  replace V := next V hb9
  replace F0 := F0.stay hb9
  replace B7 := B7.stay hb9
  replace B10 := B10.stay hb9
  replace B11 := B11.stay hb9
  replace A1 := A1.below hb9
  replace A2 := A2.below hb9
  replace A3 := A3.below hb9
  replace A4 := A4.below hb9
  replace B15 := B15.stay hb9
  clear hb9 f0 f1 p0 p1 p2 q0 q1 q2
  have ⟨f0, f1⟩ := F0
  have ⟨p0, p1, p2, _, _, _⟩ := B15
  have ⟨r0, r1, r2, _, _, _⟩ := B11
  go_wp2_with fail
  (with_reducible refine (kH _ _ _ _ _ _ w7 A3.sl A4.sl (hT.below V)).mono ?_)
  rintro en w8 ⟨rfl, hb9⟩
  replace V := next V hb9
  replace F0 := F0.stay hb9
  replace B7 := B7.stay hb9
  replace B10 := B10.stay hb9
  replace B11 := B11.stay hb9
  replace A1 := A1.below hb9
  replace A2 := A2.below hb9
  replace A3 := A3.below hb9
  replace A4 := A4.below hb9
  replace B15 := B15.stay hb9
  clear hb9 f0 f1 p0 p1 p2 r0 r1 r2
  have ⟨q0, q1, q2, _, _, _⟩ := B10
  have ⟨r0, r1, r2, _, _, _⟩ := B11
  go_wp2_with fail
  (with_reducible refine (kA _ _ _ _ _ _ _ _ _ _ _ _ w8 A1.sl A2.sl A3.sl A4.sl (hT.below V)).mono ?_)
  rintro en w9 ⟨e1, l1, g1, e2, l2, g2, rfl, K1, K2, _, hb9⟩
  have B16 := box3_new w9 (.bool (decide (qs.num < 0))) (.slice e1 l1 g1) (.slice e2 l2 g2) 30
  have s9 := more hb9 (.cells #[.bool (decide (qs.num < 0)), .slice e1 l1 g1, .slice e2 l2 g2] 30)
  have M1 := K1.alloc (.cells #[.bool (decide (qs.num < 0)), .slice e1 l1 g1, .slice e2 l2 g2] 30)
  have M2 := K2.alloc (.cells #[.bool (decide (qs.num < 0)), .slice e1 l1 g1, .slice e2 l2 g2] 30)
  replace V := next V s9
  replace F0 := F0.stay s9
  replace B7 := B7.stay s9
  replace B10 := B10.stay s9
  replace B11 := B11.stay s9
  replace A1 := A1.below s9
  replace A2 := A2.below s9
  replace A3 := A3.below s9
  replace A4 := A4.below s9
  replace B15 := B15.stay s9
  go_upto_region 11 with fail
  obtain ⟨P16, hP⟩ : ∃ q, q = w9.heap.size := ⟨_, rfl⟩
  rw [← hP] at B16 ⊢
  clear K1 K2
  generalize w9.alloc (.cells #[.bool (decide (qs.num < 0)), .slice e1 l1 g1, .slice e2 l2 g2] 30) = W10 at *
  clear hP hb9 s9 q0 q1 q2 r0 r1 r2
  have G1 := M1.sl
  have G2 := M2.sl
  clear M1 M2
  have ⟨t0, t1, t2, _, _, _⟩ := B16
  go_wp2_with fail
  (with_reducible refine (kM _ _ _ _ _ _ W10 G1 G2 (hT.below V)).mono ?_)
  rintro en w11 ⟨e3, l3, g3, e4, l4, g4, rfl, K1, K2, hb9⟩
  have B17 := box3_new w11 (.bool (decide (qm.num < 0))) (.slice e3 l3 g3) (.slice e4 l4 g4) 30
  have s9 := more hb9 (.cells #[.bool (decide (qm.num < 0)), .slice e3 l3 g3, .slice e4 l4 g4] 30)
  have M1 := K1.alloc (.cells #[.bool (decide (qm.num < 0)), .slice e3 l3 g3, .slice e4 l4 g4] 30)
  have M2 := K2.alloc (.cells #[.bool (decide (qm.num < 0)), .slice e3 l3 g3, .slice e4 l4 g4] 30)
  replace V := next V s9
  replace F0 := F0.stay s9
  replace B7 := B7.stay s9
  replace B10 := B10.stay s9
  replace B11 := B11.stay s9
  replace A1 := A1.below s9
  replace A2 := A2.below s9
  replace A3 := A3.below s9
  replace A4 := A4.below s9
  replace B15 := B15.stay s9
  replace B16 := B16.stay s9
  go_upto_region 12 with fail
  obtain ⟨P17, hP⟩ : ∃ q, q = w11.heap.size := ⟨_, rfl⟩
  rw [← hP] at B17 ⊢
  clear K1 K2
  generalize w11.alloc (.cells #[.bool (decide (qm.num < 0)), .slice e3 l3 g3, .slice e4 l4 g4] 30) = W12 at *
  clear hP hb9 s9 t0 t1 t2
  clear G1 G2 kA kM B16
  have ⟨q0, q1, q2, _, _, _⟩ := B10
  have ⟨r0, r1, r2, _, _, _⟩ := B11
  go_wp2_with fail
  (with_reducible refine (kC _ _ _ _ _ _ _ _ _ _ _ _ W12 A1.sl A2.sl A3.sl A4.sl (hT.below V)).mono ?_)
  rintro en w13 ⟨rfl, hb9⟩
  replace V := next V hb9
  replace F0 := F0.stay hb9
  replace B7 := B7.stay hb9
  replace B10 := B10.stay hb9
  replace B11 := B11.stay hb9
  replace A1 := A1.below hb9
  replace A2 := A2.below hb9
  replace A3 := A3.below hb9
  replace A4 := A4.below hb9
  replace B15 := B15.stay hb9
  replace B17 := B17.stay hb9
  replace M1 := M1.below hb9
  replace M2 := M2.below hb9
  clear hb9 q0 q1 q2 r0 r1 r2
  generalize cmpQ qL qH = cc at *
  rcases hord with rfl | ⟨rfl, rfl, rfl⟩
  · have ⟨f0, f1⟩ := F0
    have ⟨p0, p1, p2, _, _, _⟩ := B15
    have ⟨u0, u1, u2, _, _, _⟩ := B17
    go_wp2_with fail
    (with_reducible refine (kG _ _ _ _ _ _ w13 M1.sl M2.sl (hT.below V)).mono ?_)
    rintro en w14 ⟨rfl, hb9⟩
    replace V := next V hb9
    replace F0 := F0.stay hb9
    replace B7 := B7.stay hb9
    replace B10 := B10.stay hb9
    replace B11 := B11.stay hb9
    replace A1 := A1.below hb9
    replace A2 := A2.below hb9
    replace A3 := A3.below hb9
    replace A4 := A4.below hb9
    replace B15 := B15.stay hb9
    replace B17 := B17.stay hb9
    replace M1 := M1.below hb9
    replace M2 := M2.below hb9
    clear hb9 f0 f1 p0 p1 p2 u0 u1 u2
    clear kG kL kH kC B17 M1 M2
    replace h0 := h0.below V
    replace h0' := h0'.below V
    have hTw := hT.below V
    have ⟨v0, v1, v2, _, _, _⟩ := B7
    go_wp2_with fail
    (with_reducible refine (kK w14 hTw h0 h0').mono ?_)
    rintro en w15 ⟨rfl, hb9⟩
    replace V := next V hb9
    replace F0 := F0.stay hb9
    replace B7 := B7.stay hb9
    replace B10 := B10.stay hb9
    replace B11 := B11.stay hb9
    replace A1 := A1.below hb9
    replace A2 := A2.below hb9
    replace A3 := A3.below hb9
    replace A4 := A4.below hb9
    replace B15 := B15.stay hb9
    replace h0 := h0.below hb9
    replace h0' := h0'.below hb9
    clear hb9 v0 v1 v2
    clear kK hTw
    by_cases hr : ratB t xs ys = true
    rotate_left
    · have hr20 : ratE t xs ys = 20 := if_neg hr
      clear kU kV kR kS
      rw [hr20]
      go_wp2
      go_ret
      exact ⟨by simp, V⟩
    have hr0 : ratE t xs ys = 0 := if_pos hr
    rw [hr0]
    replace kU := kU hr
    replace kV := kV hr
    replace kR := kR hr
    have ⟨v0, v1, v2, _, _, _⟩ := B7
    go_wp2_with fail
    (with_reducible refine (kS w15).mono ?_)
    rintro en w16 ⟨rfl, hb9⟩
    replace V := next V hb9
    replace F0 := F0.stay hb9
    replace B7 := B7.stay hb9
    replace B10 := B10.stay hb9
    replace B11 := B11.stay hb9
    replace A1 := A1.below hb9
    replace A2 := A2.below hb9
    replace A3 := A3.below hb9
    replace A4 := A4.below hb9
    replace B15 := B15.stay hb9
    replace h0 := h0.below hb9
    replace h0' := h0'.below hb9
    clear hb9 v0 v1 v2
    by_cases hsh : n0 ≤ 200 ∧ m0 ≤ 200
    rotate_left
    · rw [decide_eq_false hsh]
      clear kU kV kR kS
      go_wp2
      go_ret
      exact ⟨by simp, V⟩
    rw [decide_eq_true hsh]
    have ⟨q0, q1, q2, _, _, _⟩ := B10
    have ⟨v0, v1, v2, _, _, _⟩ := B7
    go_wp2_with fail
    (with_reducible refine (kU _ _ _ _ _ _ w16 A1.sl A2.sl h0 h0' (hT.below V)).mono ?_)
    rintro en w17 ⟨rfl, hb9⟩
    replace V := next V hb9
    replace F0 := F0.stay hb9
    replace B7 := B7.stay hb9
    replace B10 := B10.stay hb9
    replace B11 := B11.stay hb9
    replace A1 := A1.below hb9
    replace A2 := A2.below hb9
    replace A3 := A3.below hb9
    replace A4 := A4.below hb9
    replace B15 := B15.stay hb9
    replace h0 := h0.below hb9
    replace h0' := h0'.below hb9
    clear hb9 q0 q1 q2 v0 v1 v2
    have ⟨v0, v1, v2, _, _, _⟩ := B7
    have ⟨r0, r1, r2, _, _, _⟩ := B11
    go_wp2_with fail
    (with_reducible refine (kV _ _ _ _ _ _ w17 A3.sl A4.sl h0 h0' (hT.below V)).mono ?_)
    rintro en w18 ⟨rfl, hb9⟩
    replace V := next V hb9
    replace F0 := F0.stay hb9
    replace B7 := B7.stay hb9
    replace B10 := B10.stay hb9
    replace B11 := B11.stay hb9
    replace A1 := A1.below hb9
    replace A2 := A2.below hb9
    replace A3 := A3.below hb9
    replace A4 := A4.below hb9
    replace B15 := B15.stay hb9
    replace h0 := h0.below hb9
    replace h0' := h0'.below hb9
    clear hb9 v0 v1 v2 r0 r1 r2
    clear kU kV kS hr hr0
    replace kR := fun must hmu => kR must hmu w18 h0 h0' (hT.below V) hsh.1 hsh.2
    obtain ⟨mu, hmu⟩ : ∃ mu, btwI (cmpQ qL qq) (cmpQ qq qH) l h = mu := ⟨_, rfl⟩
    replace kR := kR mu hmu
    generalize cmpQ qL qq = ca at *
    generalize cmpQ qq qH = cb at *
    have HM := Lib.hid hmu
    clear hmu
    go_upto_region 21 with fail
    go_cut [23] from 146 to 165 (fun v23 wx => v23 = .bool mu ∧ wx = w18)
    case first =>
      rcases c31 with rfl | rfl | rfl <;> rcases c32 with rfl | rfl | rfl <;> cases l <;> cases h
      all_goals
        go_wp2
        go_meet
        exact ⟨by rw [← HM.out]; rfl, rfl⟩
    case rest =>
      obtain ⟨rfl, hw⟩ := hcut
      subst hw
      have ⟨f0, f1⟩ := F0
      have ⟨p0, p1, p2, _, _, _⟩ := B15
      have ⟨v0, v1, v2, _, _, _⟩ := B7
      go_wp2_with fail
      (with_reducible refine kR.mono ?_)
      rintro en w19 ⟨rfl, hb9⟩
      have VZ := next V hb9
      clear f0 f1 p0 p1 p2 v0 v1 v2 hb9
      go_wp2
      go_ret
      exact ⟨by simp, VZ⟩
  · have ⟨f0, f1⟩ := F0
    have ⟨p0, p1, p2, _, _, _⟩ := B15
    have ⟨u0, u1, u2, _, _, _⟩ := B17
    go_wp2_with fail
    (with_reducible refine (kG _ _ _ _ _ _ w13 M1.sl M2.sl (hT.below V)).mono ?_)
    rintro en w14 ⟨rfl, hb9⟩
    replace V := next V hb9
    replace F0 := F0.stay hb9
    replace B7 := B7.stay hb9
    replace B10 := B10.stay hb9
    replace B11 := B11.stay hb9
    replace A1 := A1.below hb9
    replace A2 := A2.below hb9
    replace A3 := A3.below hb9
    replace A4 := A4.below hb9
    replace B15 := B15.stay hb9
    replace B17 := B17.stay hb9
    replace M1 := M1.below hb9
    replace M2 := M2.below hb9
    clear hb9 f0 f1 p0 p1 p2 u0 u1 u2
    clear kG kL kH kC B17 M1 M2
    replace h0 := h0.below V
    replace h0' := h0'.below V
    have hTw := hT.below V
    have ⟨v0, v1, v2, _, _, _⟩ := B7
    go_wp2_with fail
    (with_reducible refine (kK w14 hTw h0 h0').mono ?_)
    rintro en w15 ⟨rfl, hb9⟩
    replace V := next V hb9
    replace F0 := F0.stay hb9
    replace B7 := B7.stay hb9
    replace B10 := B10.stay hb9
    replace B11 := B11.stay hb9
    replace A1 := A1.below hb9
    replace A2 := A2.below hb9
    replace A3 := A3.below hb9
    replace A4 := A4.below hb9
    replace B15 := B15.stay hb9
    replace h0 := h0.below hb9
    replace h0' := h0'.below hb9
    clear hb9 v0 v1 v2
    clear kK hTw
    by_cases hr : ratB t xs ys = true
    rotate_left
    · have hr20 : ratE t xs ys = 20 := if_neg hr
      clear kU kV kR kS
      rw [hr20]
      go_wp2
      go_ret
      exact ⟨by simp, V⟩
    have hr0 : ratE t xs ys = 0 := if_pos hr
    rw [hr0]
    replace kU := kU hr
    replace kV := kV hr
    replace kR := kR hr
    have ⟨v0, v1, v2, _, _, _⟩ := B7
    go_wp2_with fail
    (with_reducible refine (kS w15).mono ?_)
    rintro en w16 ⟨rfl, hb9⟩
    replace V := next V hb9
    replace F0 := F0.stay hb9
    replace B7 := B7.stay hb9
    replace B10 := B10.stay hb9
    replace B11 := B11.stay hb9
    replace A1 := A1.below hb9
    replace A2 := A2.below hb9
    replace A3 := A3.below hb9
    replace A4 := A4.below hb9
    replace B15 := B15.stay hb9
    replace h0 := h0.below hb9
    replace h0' := h0'.below hb9
    clear hb9 v0 v1 v2
    by_cases hsh : n0 ≤ 200 ∧ m0 ≤ 200
    rotate_left
    · rw [decide_eq_false hsh]
      clear kU kV kR kS
      go_wp2
      go_ret
      exact ⟨by simp, V⟩
    rw [decide_eq_true hsh]
    have ⟨q0, q1, q2, _, _, _⟩ := B10
    have ⟨v0, v1, v2, _, _, _⟩ := B7
    go_wp2_with fail
    (with_reducible refine (kU _ _ _ _ _ _ w16 A1.sl A2.sl h0 h0' (hT.below V)).mono ?_)
    rintro en w17 ⟨rfl, hb9⟩
    replace V := next V hb9
    replace F0 := F0.stay hb9
    replace B7 := B7.stay hb9
    replace B10 := B10.stay hb9
    replace B11 := B11.stay hb9
    replace A1 := A1.below hb9
    replace A2 := A2.below hb9
    replace A3 := A3.below hb9
    replace A4 := A4.below hb9
    replace B15 := B15.stay hb9
    replace h0 := h0.below hb9
    replace h0' := h0'.below hb9
    clear hb9 q0 q1 q2 v0 v1 v2
    have ⟨v0, v1, v2, _, _, _⟩ := B7
    have ⟨r0, r1, r2, _, _, _⟩ := B11
    go_wp2_with fail
    (with_reducible refine (kV _ _ _ _ _ _ w17 A3.sl A4.sl h0 h0' (hT.below V)).mono ?_)
    rintro en w18 ⟨rfl, hb9⟩
    replace V := next V hb9
    replace F0 := F0.stay hb9
    replace B7 := B7.stay hb9
    replace B10 := B10.stay hb9
    replace B11 := B11.stay hb9
    replace A1 := A1.below hb9
    replace A2 := A2.below hb9
    replace A3 := A3.below hb9
    replace A4 := A4.below hb9
    replace B15 := B15.stay hb9
    replace h0 := h0.below hb9
    replace h0' := h0'.below hb9
    clear hb9 v0 v1 v2 r0 r1 r2
    clear kU kV kS hr hr0
    replace kR := fun must hmu => kR must hmu w18 h0 h0' (hT.below V) hsh.1 hsh.2
    obtain ⟨mu, hmu⟩ : ∃ mu, btwI (cmpQ qL qq) (cmpQ qq qH) true true = mu := ⟨_, rfl⟩
    replace kR := kR mu hmu
    generalize cmpQ qL qq = ca at *
    generalize cmpQ qq qH = cb at *
    have HM := Lib.hid hmu
    clear hmu
    go_upto_region 21 with fail
    go_cut [23] from 146 to 165 (fun v23 wx => v23 = .bool mu ∧ wx = w18)
    case first =>
      rcases c31 with rfl | rfl | rfl <;> rcases c32 with rfl | rfl | rfl
      all_goals
        go_wp2
        go_meet
        exact ⟨by rw [← HM.out]; rfl, rfl⟩
    case rest =>
      obtain ⟨rfl, hw⟩ := hcut
      subst hw
      have ⟨f0, f1⟩ := F0
      have ⟨p0, p1, p2, _, _, _⟩ := B15
      have ⟨v0, v1, v2, _, _, _⟩ := B7
      go_wp2_with fail
      (with_reducible refine kR.mono ?_)
      rintro en w19 ⟨rfl, hb9⟩
      have VZ := next V hb9
      clear f0 f1 p0 p1 p2 v0 v1 v2 hb9
      go_wp2
      go_ret
      exact ⟨by simp, VZ⟩

end Go.Proofs.YtfjgmpfpadfknaaGreatDoor

