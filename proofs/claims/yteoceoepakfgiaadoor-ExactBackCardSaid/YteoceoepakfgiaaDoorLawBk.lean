/-
  The walk of the law ExactBack: it answers true, whatever it is asked; nothing that was there has turned.
-/
import Derived.Test.YteoceoepakfgiaaDoorAlive
import Derived.Test.YteoceoepakfgiaaDoorBackL
namespace Go.Proofs.YteoceoepakfgiaaDoor
open Go.RowKit Go.Lb

attribute [local go_sem] Go.World.cell?_alloc_some

theorem ra_error {s : Bool} {xs : List Nat} {x : Int} (h : raB s xs x = false) : raE s xs x ≠ 0 := by
  unfold raE
  by_cases hd : dchk s xs x = 0
  · rw [if_neg (fun h1 => h1 hd), if_neg (by rw [h]; decide)]
    decide
  · rw [if_pos hd]
    exact hd

theorem bk_ratA_yes {s : Bool} {xs : List Nat} {x : Int} (h : raB s xs x = true) (w : World) : RatA s xs x w = Rtn s (raN xs x) (raD x) 0 w := by
  have hd := (of_decide_eq_true h).1
  unfold RatA raE
  rw [h, if_pos rfl, if_pos rfl, if_pos rfl, if_neg (by simp [hd]), Bool.true_and]

theorem bk_ratA_none {s : Bool} {xs : List Nat} {x : Int} (h : raB s xs x = false) (w : World) : RatA s xs x w = Rtn false 0 0 (raE s xs x) w := by
  unfold RatA
  rw [h, if_neg (by decide), if_neg (by decide), Bool.false_and]

set_option maxRecDepth 100000 in
set_option maxHeartbeats 4000000 in
theorem exactBack_any (s t : Bool) (ao a1 a2 : Option Addr) (n n1 n2 c c1 c2 : Nat) (x : Int) (xs us vs : List Nat) (w : World) (h : Sl w ao n c xs) (h1 : Sl w a1 n1 c1 us) (h2 : Sl w a2 n2 c2 vs) (hT : Tab w) :
    Calls Tryd.prog 3 #[.agg #[.bool s, .slice ao n c, .int .i64 x], .agg #[.bool t, .slice a1 n1 c1, .slice a2 n2 c2]] w fun en w' => en = .returned (.bool true) ∧ Below w.heap.size w w' := by
  obtain ⟨W2, hW2⟩ : ∃ W2 : World, W2 = (w.alloc (.cells #[.bool s, .slice ao n c, .int .i64 x] 26)).alloc (.cells #[.bool t, .slice a1 n1 c1, .slice a2 n2 c2] 28) := ⟨_, rfl⟩
  have hb2 : Below w.heap.size w W2 := hW2 ▸ more (more (Below.refl _ _) _) _
  have D2 : Box3 W2 w.heap.size (.bool s) (.slice ao n c) (.int .i64 x) := hW2 ▸ (box3_new w _ _ _ _).alloc _
  have R2 : Box3 W2 (w.heap.size + 1) (.bool t) (.slice a1 n1 c1) (.slice a2 n2 c2) := by
    have := box3_new (w.alloc (.cells #[.bool s, .slice ao n c, .int .i64 x] 26)) (.bool t) (.slice a1 n1 c1) (.slice a2 n2 c2) 28
    rw [World.size_alloc] at this
    exact hW2 ▸ this
  have hA := alive_any W2 (hT.below hb2)
  have kR : ∀ W, Below w.heap.size w W → Calls Tryd.prog 5 #[.agg #[.bool s, .slice ao n c, .int .i64 x]] W (RatA s xs x W) := fun W hW => exRatio_any s ao n c x xs W (h.below hW)
  have kO : ∀ W, Below w.heap.size w W → Calls Tryd.prog 6 #[.agg #[.bool t, .slice a1 n1 c1, .slice a2 n2 c2]] W (OfA t us vs W) := fun W hW => exOf_any t a1 a2 n1 n2 c1 c2 us vs W (h1.below hW) (h2.below hW) (hT.below hW)
  go_enter Tryd.func3, Tryd.ntmps3
  go_wp2_with fail
  rw [← hW2]
  clear hW2
  refine hA.mono ?_
  rintro en w4 ⟨rfl, hb4⟩
  have V4 := next hb2 hb4
  have D4 := D2.stay hb4
  have R4 := R2.stay hb4
  clear hA D2 R2 hb4 hb2
  have ⟨x0, x1, x2, _, _, _⟩ := D4
  by_cases hB : raB s xs x = true
  case' pos =>
    obtain ⟨hd, b1, b2⟩ : dchk s xs x = 0 ∧ bigE (raN xs x) = 0 ∧ bigE (raD x) = 0 := of_decide_eq_true hB
    obtain ⟨i1, i2⟩ := back_dy h.ok hd b1 b2
    have fx := (dchk_parts h.ok hd).1
    have kB : ∀ W a3 a4 n3 n4 c3 c4, Below w.heap.size w W → Sl W a3 n3 c3 (limbs (raN xs x)) → Sl W a4 n4 c4 (limbs (raD x)) → Calls Tryd.prog 6 #[.agg #[.bool s, .slice a3 n3 c3, .slice a4 n4 c4]] W fun en w' => ∃ bo p, en = .returned (.tuple #[.agg #[.bool s, .slice bo n p, .int .i64 x], .bool true, .int .i64 0]) ∧ Sl w' bo n p xs ∧ Below W.heap.size W w' := fun W a3 a4 n3 n4 c3 c4 hW j1 j2 => by
      refine (exOf_any s a3 a4 n3 n4 c3 c4 _ _ W j1 j2 (hT.below hW)).mono ?_
      rintro en w' ⟨bo, k, p, rfl, F, hb⟩
      rw [i1, i2]
      rw [i2] at F
      have S : Sl w' bo k p (limbs (val xs)) := F.sl
      rw [limbs_val fx] at S
      obtain rfl : k = n := S.len.symm.trans h.len
      exact ⟨bo, p, rfl, S, hb⟩
    have kS : ∀ W bo p, Below w.heap.size w W → Sl W bo n p xs → Calls Tryd.prog 7 #[.agg #[.bool s, .slice bo n p, .int .i64 x], .agg #[.bool s, .slice ao n c, .int .i64 x]] W fun e w' => e = .returned (.bool true) ∧ Below W.heap.size W w' := fun W bo p hW j => refDySame_eq s x bo ao n p c xs W j (h.below hW)
    simp only [bk_ratA_yes hB] at kR
    generalize raN xs x = N at *
    generalize raD x = D at *
    clear hB hd b1 b2 i1 i2 fx
    go_wp2_with fail
    with_reducible refine (kR w4 V4).mono ?_
    rintro en w5 ⟨a3, n3, c3, a4, n4, c4, rfl, F3, F4, _, hb5⟩
    have h46 := more hb5 (.cells #[.bool s, .slice a3 n3 c3, .slice a4 n4 c4] 28)
    have V6 := next V4 h46
    have D6 := D4.stay h46
    have R6 := R4.stay h46
    have X6 := box3_new w5 (.bool s) (.slice a3 n3 c3) (.slice a4 n4 c4) 28
    have G3 := (F3.alloc (.cells #[.bool s, .slice a3 n3 c3, .slice a4 n4 c4] 28)).sl
    have G4 := (F4.alloc (.cells #[.bool s, .slice a3 n3 c3, .slice a4 n4 c4] 28)).sl
    clear x0 x1 x2 D4 R4 V4 hb5 h46 kR F3 F4
    go_upto_region 3 with fail
    obtain ⟨Y, hY⟩ : ∃ q, q = w5.heap.size := ⟨_, rfl⟩
    rw [← hY] at X6 ⊢
    clear hY
    generalize w5.alloc (.cells #[.bool s, .slice a3 n3 c3, .slice a4 n4 c4] 28) = w6 at *
    have ⟨x0, x1, x2, _, _, _⟩ := X6
    go_wp2_with fail
    with_reducible refine (kB w6 _ _ _ _ _ _ V6 G3 G4).mono ?_
    rintro en w7 ⟨bo, p, rfl, S7, hb7⟩
    have h68 := more hb7 (.cells #[.bool s, .slice bo n p, .int .i64 x] 26)
    have V8 := next V6 h68
    have D8 := D6.stay h68
    have R8 := R6.stay h68
    have C8 := box3_new w7 (.bool s) (.slice bo n p) (.int .i64 x) 26
    have S8 := S7.below (more (Below.refl _ _) (.cells #[.bool s, .slice bo n p, .int .i64 x] 26))
    clear x0 x1 x2 D6 R6 X6 V6 hb7 h68 kB S7 G3 G4
    go_upto_region 5 with fail
    obtain ⟨Z, hZ⟩ : ∃ q, q = w7.heap.size := ⟨_, rfl⟩
    rw [← hZ] at C8 ⊢
    clear hZ
    generalize w7.alloc (.cells #[.bool s, .slice bo n p, .int .i64 x] 26) = w8 at *
    have ⟨x0, x1, x2, _, _, _⟩ := D8
    have ⟨y0, y1, y2, _, _, _⟩ := C8
    go_wp2_with fail
    with_reducible refine (kS w8 _ _ V8 S8).mono ?_
    rintro en wa ⟨rfl, hba⟩
    have Va := next V8 hba
    have Ra := R8.stay hba
    clear x0 x1 x2 y0 y1 y2 D8 C8 R8 V8 hba kS S8
  case' neg =>
    have hB' : raB s xs x = false := by simpa using hB
    have hE := ra_error hB'
    simp only [bk_ratA_none hB'] at kR
    generalize raE s xs x = er at *
    clear hB hB'
    go_wp2_with fail
    with_reducible refine (kR w4 V4).mono ?_
    rintro en w5 ⟨a3, n3, c3, a4, n4, c4, rfl, _, _, _, hb5⟩
    have h46 := more hb5 (.cells #[.bool false, .slice a3 n3 c3, .slice a4 n4 c4] 28)
    have Va := next V4 h46
    have Ra := R4.stay h46
    clear x0 x1 x2 D4 R4 V4 hb5 h46 kR
    go_upto_region 3 with fail
    generalize w5.alloc (.cells #[.bool false, .slice a3 n3 c3, .slice a4 n4 c4] 28) = wa at *
  all_goals
    have ⟨x0, x1, x2, _, _, _⟩ := Ra
    by_cases hI : ofI t us vs = true
    · have hbk := fun W => back_rt h1.ok h2.ok hI W
      have he := (hbk w).2
      obtain ⟨cx, cy, _, _, _⟩ : chk us = 0 ∧ chk vs = 0 ∧ vs.length ≠ 0 ∧ Nat.gcd (val us) (val vs) = 1 ∧ (t = true → val us ≠ 0) := of_decide_eq_true (by unfold ofI at hI; rw [Bool.and_eq_true] at hI; exact hI.1)
      have ux := limbs_val (fine_of_chk h1.ok cx)
      have uy := limbs_val (fine_of_chk h2.ok cy)
      have kQ : ∀ W bo k p, Sl W bo k p (limbs (ofD t us vs).N) → Calls Tryd.prog 5 #[.agg #[.bool (ofD t us vs).s, .slice bo k p, .int .i64 (ofD t us vs).x]] W (Rtn t (val us) (val vs) 0 W) := fun W bo k p j => by
        rw [← (hbk W).1]
        exact exRatio_any _ bo k p _ _ W j
      have kS1 : ∀ W bo p, Below w.heap.size w W → Sl W bo n1 p us → Calls Tryd.prog 8 #[.agg #[.slice bo n1 p], .agg #[.slice a1 n1 c1]] W fun e w' => e = .returned (.bool true) ∧ Below W.heap.size W w' := fun W bo p hW j => refSame_eq bo a1 n1 p c1 us W j (h1.below hW)
      have kS2 : ∀ W bo p, Below w.heap.size w W → Sl W bo n2 p vs → Calls Tryd.prog 8 #[.agg #[.slice bo n2 p], .agg #[.slice a2 n2 c2]] W fun e w' => e = .returned (.bool true) ∧ Below W.heap.size W w' := fun W bo p hW j => refSame_eq bo a2 n2 p c2 vs W j (h2.below hW)
      have lu := h1.len
      have lv := h2.len
      have kO' : ∀ W, Below w.heap.size w W → Calls Tryd.prog 6 #[.agg #[.bool t, .slice a1 n1 c1, .slice a2 n2 c2]] W fun en w' => ∃ bo k p, en = .returned (.tuple #[.agg #[.bool (ofD t us vs).s, .slice bo k p, .int .i64 (ofD t us vs).x], .bool true, .int .i64 0]) ∧ Sl w' bo k p (limbs (ofD t us vs).N) ∧ Below W.heap.size W w' := fun W hW => by
        refine (kO W hW).mono ?_
        rintro en w' ⟨bo, k, p, rfl, F, hb⟩
        rw [hI, he]
        exact ⟨bo, k, p, rfl, F.sl, hb⟩
      clear hbk he cx cy hI kO
      generalize (ofD t us vs).s = ds at *
      generalize (ofD t us vs).x = dx at *
      generalize (ofD t us vs).N = dN at *
      clear h h1 h2 hT
      go_wp2_with fail
      with_reducible refine (kO' wa Va).mono ?_
      rintro en wb ⟨bo', k', p', rfl, Sb, hbb⟩
      have hac := more hbb (.cells #[.bool ds, .slice bo' k' p', .int .i64 dx] 26)
      have Vc := next Va hac
      have Rc := Ra.stay hac
      have Cc := box3_new wb (.bool ds) (.slice bo' k' p') (.int .i64 dx) 26
      have Sc := Sb.below (more (Below.refl _ _) (.cells #[.bool ds, .slice bo' k' p', .int .i64 dx] 26))
      clear x0 x1 x2 Ra Va hbb hac kO' Sb
      go_upto_region 8 with fail
      obtain ⟨Zc, hZc⟩ : ∃ q, q = wb.heap.size := ⟨_, rfl⟩
      rw [← hZc] at Cc ⊢
      clear hZc
      generalize wb.alloc (.cells #[.bool ds, .slice bo' k' p', .int .i64 dx] 26) = wc at *
      have ⟨x0, x1, x2, _, _, _⟩ := Cc
      go_wp2_with fail
      with_reducible refine (kQ wc _ _ _ Sc).mono ?_
      rintro en wd ⟨e3, m3, g3, e4, m4, g4, rfl, F3, F4, _, hbd⟩
      have hce := more hbd (.cells #[.bool t, .slice e3 m3 g3, .slice e4 m4 g4] 28)
      have Ve := next Vc hce
      have Re := Rc.stay hce
      have Ye := box3_new wd (.bool t) (.slice e3 m3 g3) (.slice e4 m4 g4) 28
      have G3 := (F3.alloc (.cells #[.bool t, .slice e3 m3 g3, .slice e4 m4 g4] 28)).sl
      have G4 := (F4.alloc (.cells #[.bool t, .slice e3 m3 g3, .slice e4 m4 g4] 28)).sl
      rw [ux] at G3
      rw [uy] at G4
      obtain rfl : m3 = n1 := G3.len.symm.trans lu
      obtain rfl : m4 = n2 := G4.len.symm.trans lv
      clear x0 x1 x2 Rc Cc Vc hbd hce kQ Sc F3 F4 lu lv
      go_upto_region 11 with fail
      obtain ⟨Ze, hZe⟩ : ∃ q, q = wd.heap.size := ⟨_, rfl⟩
      rw [← hZe] at Ye ⊢
      clear hZe
      generalize wd.alloc (.cells #[.bool t, .slice e3 m3 g3, .slice e4 m4 g4] 28) = we at *
      have ⟨x0, x1, x2, _, _, _⟩ := Re
      have ⟨y0, y1, y2, _, _, _⟩ := Ye
      go_wp2_with fail
      with_reducible refine (kS1 we _ _ Ve G3).mono ?_
      rintro en wf ⟨rfl, hbf⟩
      have Vf := next Ve hbf
      have Rf := Re.stay hbf
      have Yf := Ye.stay hbf
      have G4f := G4.below hbf
      clear x0 x1 x2 y0 y1 y2 Re Ye Ve hbf kS1 G3 G4
      have ⟨x0, x1, x2, _, _, _⟩ := Rf
      have ⟨y0, y1, y2, _, _, _⟩ := Yf
      go_wp2_with fail
      with_reducible refine (kS2 wf _ _ Vf G4f).mono ?_
      rintro en wg ⟨rfl, hbg⟩
      go_wp2
      go_ret
      exact ⟨by simp, next Vf hbg⟩
    · have hI' : ofI t us vs = false := by simpa using hI
      have kO' : ∀ W, Below w.heap.size w W → Calls Tryd.prog 6 #[.agg #[.bool t, .slice a1 n1 c1, .slice a2 n2 c2]] W fun en w' => ∃ bo p, en = .returned (.tuple #[.agg #[.bool false, .slice bo 0 p, .int .i64 0], .bool false, .int .i64 (ratE t us vs)]) ∧ Below W.heap.size W w' := fun W hW => by
        refine (kO W hW).mono ?_
        rintro en w' ⟨bo, k, p, rfl, F, hb⟩
        have hd : ofD t us vs = noA (ratE t us vs) := by unfold ofD; rw [if_neg hI]
        rw [hI', hd]
        rw [hd] at F
        have S : Sl w' bo k p (limbs 0) := F.sl
        obtain rfl : 0 = k := S.len
        exact ⟨bo, p, rfl, hb⟩
      generalize ratE t us vs = re at *
      clear hI hI' kO h h1 h2 hT
      go_wp2_with fail
      with_reducible refine (kO' wa Va).mono ?_
      rintro en wb ⟨bo', p', rfl, hbb⟩
      have Vc := next Va (more hbb (.cells #[.bool false, .slice bo' 0 p', .int .i64 0] 26))
      have Cc := box3_new wb (.bool false) (.slice bo' 0 p') (.int .i64 0) 26
      clear x0 x1 x2 Ra Va hbb kO'
      go_upto_region 8 with fail
      obtain ⟨Zc, hZc⟩ : ∃ q, q = wb.heap.size := ⟨_, rfl⟩
      rw [← hZc] at Cc ⊢
      clear hZc
      generalize wb.alloc (.cells #[.bool false, .slice bo' 0 p', .int .i64 0] 26) = wc at *
      have ⟨x0, x1, x2, _, _, _⟩ := Cc
      by_cases hre : re = 0
      · go_wp2
        go_ret
        exact ⟨by simp, Vc⟩
      · go_wp2
        go_ret
        exact ⟨by simp, Vc⟩

end Go.Proofs.YteoceoepakfgiaaDoor
