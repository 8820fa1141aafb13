/-
  Contracts: Ratio of exact and of the reference. (Printed by wip/gen/ratio.py.) Contracts: Of of exact and of the reference. (Printed by wip/gen/of.py.)
-/
import Derived.Test.YtpmncmglmobjoaaGreatDoorQbTRtG
import Derived.Test.YtpmncmglmobjoaaGreatDoorQbTExs
import Derived.Test.YtpmncmglmobjoaaGreatDoorQbTMT7
set_option maxHeartbeats 4000000
set_option maxRecDepth 100000
namespace Go.Proofs.YtpmncmglmobjoaaGreatDoor
open Go.RowKit Go.Lb
def raN (xs : List Nat) (x : Int) : Nat := val xs * 2 ^ (max 0 x).toNat
def raD (x : Int) : Nat := 2 ^ (max 0 (-x)).toNat
def raB (s : Bool) (xs : List Nat) (x : Int) : Bool := decide (dchk s xs x = 0 ∧ bigE (raN xs x) = 0 ∧ bigE (raD x) = 0)
def raE (s : Bool) (xs : List Nat) (x : Int) : Int := if dchk s xs x ≠ 0 then dchk s xs x else if raB s xs x = true then 0 else 4
def RatA (s : Bool) (xs : List Nat) (x : Int) (w : World) : Ending → World → Prop :=
 Rtn (raB s xs x && s) (if raB s xs x = true then raN xs x else 0) (if raB s xs x = true then raD x else 0) (raE s xs x) w
theorem ratA_no {s : Bool} {xs : List Nat} {x : Int} {w w' : World} {er : Int} (hb : raB s xs x = false) (he : raE s xs x = er) (h : Below w.heap.size w w') : RatA s xs x w (.returned (.tuple #[.agg #[.bool false, .slice none 0 0, .slice none 0 0], .int .i64 er])) w' := by
 unfold RatA
 rw [hb, he]
 exact rtn_no h
theorem ratA_yes {s : Bool} {xs : List Nat} {x : Int} {w w' : World} {e : Ending} (hb : raB s xs x = true) (h : Rtn s (raN xs x) (raD x) 0 w e w') : RatA s xs x w e w' := by
 have he : raE s xs x = 0 := by
  unfold raE
  rw [if_neg (by have := (of_decide_eq_true hb).1; simp [this]), if_pos hb]
 unfold RatA
 rw [hb, he]
 exact h
theorem raE_dchk {s : Bool} {xs : List Nat} {x : Int} (h : dchk s xs x ≠ 0) : raB s xs x = false ∧ raE s xs x = dchk s xs x := ⟨decide_eq_false (fun hh => h hh.1), by unfold raE; rw [if_pos h]⟩
theorem raE_big {s : Bool} {xs : List Nat} {x : Int} (h : dchk s xs x = 0) (h2 : ¬ (bigE (raN xs x) = 0 ∧ bigE (raD x) = 0)) : raB s xs x = false ∧ raE s xs x = 4 := by
 have hb : raB s xs x = false := decide_eq_false (fun hh => h2 hh.2)
 refine ⟨hb, ?_⟩
 unfold raE
 rw [if_neg (by simp [h]), if_neg (by rw [hb]; decide)]
theorem bigE_ne {N : Nat} (h : bigE N ≠ 0) : bigE N = 4 := by
 unfold bigE at h ⊢
 split at h
 · exact absurd rfl h
 · rename_i hh; rw [if_neg hh]
def DenQ (e : Int) (N : Nat) (wq : World) (v6 v7 : Value) (wx : World) : Prop :=
 ∃ a2 n2 c2 b7, v6 = .int .i64 e ∧ v7 = .pointer (some ⟨b7, 0, none⟩) ∧ wx.cell? ⟨b7, 0, none⟩ = some (.slice a2 n2 c2) ∧ Fr 40 wx wq.heap.size a2 n2 c2 (limbs N) ∧ Below wq.heap.size wq wx
theorem exRatio_no1 (s : Bool) (ao : Option Addr) (n c : Nat) (x : Int) (xs : List Nat) (w : World) (h : Sl w ao n c xs) (hd : dchk s xs x ≠ 0) :
 Calls Tryz.prog 19 #[.agg #[.bool s, .slice ao n c, .int .i64 x]] w (RatA s xs x w) := by
 have hcB : (dchk s xs x != 0) = true := by simp [hd]
 have HR := Lib.hid (raE_dchk hd)
 clear hd
 go_enter Tryz.func19, Tryz.ntmps19
 go_wp2_with fail
 refine (dyCheck_any s ao n c x xs _ ((h.alloc _).alloc _)).mono ?_
 rintro e w1 ⟨rfl, hb1⟩
 have hW := next (more (more (Below.refl _ _) _) _) hb1
 have A := ((box3_new w (.bool s) (.slice ao n c) (.int .i64 x) 47).alloc (.cells #[.bool false, .slice none 0 0, .slice none 0 0] 29)).stay hb1
 have B := (box3_new (w.alloc (.cells #[.bool s, .slice ao n c, .int .i64 x] 47)) (.bool false) (.slice none 0 0) (.slice none 0 0) 29).stay hb1
 rw [World.size_alloc] at B
 have hBl := B.lt
 have ⟨b0, b1, b2, bz0, bz1, bz2⟩ := B
 go_wp2
 have ⟨t0, t1, t2⟩ := B.set (.bool false) (.slice none 0 0) (.slice none 0 0)
 refine bodyPost_ret (v := .tuple #[.agg #[.bool false, .slice none 0 0, .slice none 0 0], .int .i64 (dchk s xs x)]) (by simp [results, Tryz.results19, go_sem, t0, t1, t2]) rfl (ratA_no HR.out.1 HR.out.2 (((hW.setCell (by simp) _).setCell (by simp) _).setCell (by simp) _))
theorem exRatio_no2 (s : Bool) (ao : Option Addr) (n c : Nat) (x : Int) (xs : List Nat) (w : World) (h : Sl w ao n c xs) (hd : dchk s xs x = 0) (hb : bigE (raN xs x) ≠ 0) :
 Calls Tryz.prog 19 #[.agg #[.bool s, .slice ao n c, .int .i64 x]] w (RatA s xs x w) := by
 have hc := dchk_chk hd
 obtain ⟨hx1, hx2⟩ := dchk_exp hd
 have cU : ∀ W : World, Sl W ao n c xs → Calls Tryz.prog 41 #[.agg #[.slice ao n c], .int .i64 (max 0 x)] W (Numb W (bigN (raN xs x)) (bigE (raN xs x))) := fun W hS => natUp_i ao n c (max 0 x) (by omega) xs W hS hc
 have cD : ∀ (W : World) (a k c : Nat) (ao : Option Addr), Sl W ao k c (limbs 1) → Calls Tryz.prog 41 #[.agg #[.slice ao k c], .int .i64 (max 0 (-x))] W (Numb W (bigN (raD x)) (bigE (raD x))) := fun W a k c ao hS => by
  have := natUp_i ao k c (max 0 (-x)) (by omega) (limbs 1) W hS (chk_limbs (by decide))
  rwa [val_limbs', Nat.one_mul] at this
 have cO : ∀ W : World, Calls Tryz.prog 36 #[.int .u64 1] W fun e w' => ∃ ao k c, e = .returned (.agg #[.slice ao k c]) ∧ Fr 40 w' W.heap.size ao k c (limbs 1) ∧ Below W.heap.size W w' := fun W => natOf_any 1 W (by decide)
 have hwx : IntKind.i64.wrap (-x) = -x := IntWalk.i64_in _ (by constructor <;> omega)
 have HX := Lib.hid hd
 have hcB : (bigE (raN xs x) != 0) = true := by simp [hb]
 have HR := Lib.hid (raE_big hd (fun h => hb h.1))
 have h4 := bigE_ne hb
 rw [h4] at cU hcB
 clear hb h4
 go_enter Tryz.func19, Tryz.ntmps19
 go_wp2_with fail
 refine (dyCheck_any s ao n c x xs _ ((h.alloc _).alloc _)).mono ?_
 rintro e w1 ⟨rfl, hb1⟩
 have hW := next (more (more (Below.refl _ _) _) _) hb1
 have A := ((box3_new w (.bool s) (.slice ao n c) (.int .i64 x) 47).alloc (.cells #[.bool false, .slice none 0 0, .slice none 0 0] 29)).stay hb1
 have B := (box3_new (w.alloc (.cells #[.bool s, .slice ao n c, .int .i64 x] 47)) (.bool false) (.slice none 0 0) (.slice none 0 0) 29).stay hb1
 rw [World.size_alloc] at B
 have hBl := B.lt
 rw [HX.out]
 clear hd
 have ⟨p0, p1, p2, _, _, _⟩ := A
 go_wp2_with fail
 refine (cU _ (h.below hW)).mono ?_
 rintro e w2 ⟨o1, k1, e1, rfl, F1, hb2⟩
 have hs1 := hW.size
 replace hW := next hW hb2
 replace A := A.stay hb2
 replace B := B.stay hb2
 clear p0 p1 p2
 have H1 : ∀ g, blkOf o1 = some g → g < w2.heap.size := fun g hg => (fr_lt F1 hg).2
 replace B := B.alloc (.cells #[.slice o1 k1 e1] 27)
 have ⟨b0, b1, b2, bz0, bz1, bz2⟩ := B
 go_wp2
 replace hW := more hW (.cells #[.slice o1 k1 e1] 27)
 have ⟨t0, t1, t2⟩ := B.set (.bool false) (.slice none 0 0) (.slice none 0 0)
 refine bodyPost_ret (v := .tuple #[.agg #[.bool false, .slice none 0 0, .slice none 0 0], .int .i64 (4)]) (by simp [results, Tryz.results19, go_sem, t0, t1, t2]) rfl (ratA_no HR.out.1 HR.out.2 (((hW.setCell (by simp) _).setCell (by simp) _).setCell (by simp) _))
theorem exRatio_no3 (s : Bool) (ao : Option Addr) (n c : Nat) (x : Int) (xs : List Nat) (w : World) (h : Sl w ao n c xs) (hd : dchk s xs x = 0) (hb : bigE (raN xs x) = 0) (hb2 : bigE (raD x) ≠ 0) :
 Calls Tryz.prog 19 #[.agg #[.bool s, .slice ao n c, .int .i64 x]] w (RatA s xs x w) := by
 have hc := dchk_chk hd
 obtain ⟨hx1, hx2⟩ := dchk_exp hd
 have cU : ∀ W : World, Sl W ao n c xs → Calls Tryz.prog 41 #[.agg #[.slice ao n c], .int .i64 (max 0 x)] W (Numb W (bigN (raN xs x)) (bigE (raN xs x))) := fun W hS => natUp_i ao n c (max 0 x) (by omega) xs W hS hc
 have cD : ∀ (W : World) (a k c : Nat) (ao : Option Addr), Sl W ao k c (limbs 1) → Calls Tryz.prog 41 #[.agg #[.slice ao k c], .int .i64 (max 0 (-x))] W (Numb W (bigN (raD x)) (bigE (raD x))) := fun W a k c ao hS => by
  have := natUp_i ao k c (max 0 (-x)) (by omega) (limbs 1) W hS (chk_limbs (by decide))
  rwa [val_limbs', Nat.one_mul] at this
 have cO : ∀ W : World, Calls Tryz.prog 36 #[.int .u64 1] W fun e w' => ∃ ao k c, e = .returned (.agg #[.slice ao k c]) ∧ Fr 40 w' W.heap.size ao k c (limbs 1) ∧ Below W.heap.size W w' := fun W => natOf_any 1 W (by decide)
 have hwx : IntKind.i64.wrap (-x) = -x := IntWalk.i64_in _ (by constructor <;> omega)
 have HX := Lib.hid hd
 have hcB : (bigE (raD x) != 0) = true := by simp [hb2]
 have HR := Lib.hid (raE_big hd (fun h => hb2 h.2))
 have h4 := bigE_ne hb2
 rw [h4] at cD hcB
 rw [hb] at cU
 have H4 := Lib.hid h4
 clear hb hb2 h4
 go_enter Tryz.func19, Tryz.ntmps19
 go_wp2_with fail
 refine (dyCheck_any s ao n c x xs _ ((h.alloc _).alloc _)).mono ?_
 rintro e w1 ⟨rfl, hb1⟩
 have hW := next (more (more (Below.refl _ _) _) _) hb1
 have A := ((box3_new w (.bool s) (.slice ao n c) (.int .i64 x) 47).alloc (.cells #[.bool false, .slice none 0 0, .slice none 0 0] 29)).stay hb1
 have B := (box3_new (w.alloc (.cells #[.bool s, .slice ao n c, .int .i64 x] 47)) (.bool false) (.slice none 0 0) (.slice none 0 0) 29).stay hb1
 rw [World.size_alloc] at B
 have hBl := B.lt
 rw [HX.out]
 clear hd
 have ⟨p0, p1, p2, _, _, _⟩ := A
 go_wp2_with fail
 refine (cU _ (h.below hW)).mono ?_
 rintro e w2 ⟨o1, k1, e1, rfl, F1, hb2⟩
 have hs1 := hW.size
 replace hW := next hW hb2
 replace A := A.stay hb2
 replace B := B.stay hb2
 clear p0 p1 p2
 have H1 : ∀ g, blkOf o1 = some g → g < w2.heap.size := fun g hg => (fr_lt F1 hg).2
 go_upto_region 7 with fail
 have X1 := box1_new w2 (.slice o1 k1 e1) 27
 have V := more hW (.cells #[.slice o1 k1 e1] 27)
 have hs2 := hb2.size
 replace A := A.alloc (.cells #[.slice o1 k1 e1] 27)
 replace B := B.alloc (.cells #[.slice o1 k1 e1] 27)
 replace F1 := F1.alloc (.cells #[.slice o1 k1 e1] 27)
 have hqs := X1.lt
 clear hW hb2
 generalize w2.alloc (.cells #[.slice o1 k1 e1] 27) = wq at X1 V A B F1 hqs ⊢
 generalize w2.heap.size = q at X1 hqs H1 hs2 ⊢
 have ⟨p0, p1, p2, _, _, _⟩ := A
 go_cut [6, 7] from 27 (fun v6 v7 wx => DenQ 4 (bigN (raD x)) wq v6 v7 wx)
 case first =>
  have kS : ∀ w' : World, Below wq.heap.size wq w' → (w'.cell? ⟨w.heap.size, 0, none⟩ = some (.bool s) ∧ w'.cell? ⟨w.heap.size, 1, none⟩ = some (.slice ao n c) ∧ w'.cell? ⟨w.heap.size, 2, none⟩ = some (.int .i64 x) ∧ Below wq.heap.size wq w') := fun w' hb => ⟨cellStay A.c0 hb, cellStay A.c1 hb, cellStay A.c2 hb, hb⟩
  go_region_held3 (fun w' => w'.cell? ⟨w.heap.size, 0, none⟩ = some (.bool s) ∧ w'.cell? ⟨w.heap.size, 1, none⟩ = some (.slice ao n c) ∧ w'.cell? ⟨w.heap.size, 2, none⟩ = some (.int .i64 x) ∧ Below wq.heap.size wq w')
   ((refine kS _ ?_; (repeat (with_reducible (first | exact hW6 | exact hW5 | exact Below.refl _ _ | refine Below.drew ?_ | refine more ?_ _ | refine Below.setCell ?_ ?_ _ | exact Nat.le_refl _ | exact hs5 | exact Nat.le_trans hs5 hs6))); done))
   (first
   | (go_at_call 36; (with_reducible refine (cO _).mono ?_); rintro en w5 ⟨a5, k5, c5, rfl, F5, hb5⟩; have hW5 : Below wq.heap.size wq w5 := (by first | exact hb5 | exact undrew hb5 | exact next (more (Below.refl _ _) _) hb5 | exact next (more (Below.refl _ _) _).drew hb5); (try have Z := (box1_new wq (.slice none 0 0) 27).stay (by first | exact hb5 | exact undrew hb5)); (try have ⟨z0, z1⟩ := Z); have hs5 := hW5.size)
   | (go_at_call 41; (with_reducible refine (cD _ 0 _ _ _ ?_).mono ?_); (first | exact F5.sl | exact F5.sl.drew | exact F5.sl.alloc _); rintro en w6 ⟨a6, k6, c6, rfl, F6, hb6⟩; have h56 : Below w5.heap.size w5 w6 := (by first | exact hb6 | exact next (more (Below.refl _ _) _) hb6); have hW6 := next hW5 h56; have hs6 := h56.size; (try have ZZ := Z.stay h56); (try have ⟨y0, y1⟩ := ZZ); (try have YY := (box1_new w5 (.slice none 0 0) 27).stay hb6); (try have ⟨y2, y3⟩ := YY)))
  all_goals go_split_ands
  all_goals go_wp2
  all_goals go_meet
  all_goals (try have hzl := ZZ.lt)
  all_goals (try have hyl := YY.lt)
  all_goals (try have hzz := Z.lt)
  all_goals (first
   | exact ⟨a6, k6, c6, _, rfl, rfl, by simp, (F6.alloc _).mono hs5, more hW6 _⟩
   | exact ⟨a6, k6, c6, _, rfl, rfl, ZZ.set _, (F6.setCell (by simp; omega) _).mono hs5, hW6.setCell (by simp) _⟩
   | exact ⟨a6, k6, c6, _, rfl, rfl, YY.set _, (F6.setCell (by simp) _).mono (by simp; omega), hW6.setCell (by simp; omega) _⟩
   | trace_state)
 case rest =>
  obtain ⟨a2, n2, c2, b7, rfl, rfl, Y1, F2, hWc⟩ := hcut
  replace F1 := F1.below hWc
  replace A := A.stay hWc
  replace B := B.stay hWc
  replace X1 := X1.stay hWc
  have hW := next V hWc
  have hWs := hWc.size
  have ⟨b0, b1, b2, bz0, bz1, bz2⟩ := B
  go_wp2
  have ⟨t0, t1, t2⟩ := B.set (.bool false) (.slice none 0 0) (.slice none 0 0)
  refine bodyPost_ret (v := .tuple #[.agg #[.bool false, .slice none 0 0, .slice none 0 0], .int .i64 (4)]) (by simp [results, Tryz.results19, go_sem, t0, t1, t2]) rfl (ratA_no HR.out.1 HR.out.2 (((hW.setCell (by simp) _).setCell (by simp) _).setCell (by simp) _))
theorem exRatio_yes (s : Bool) (ao : Option Addr) (n c : Nat) (x : Int) (xs : List Nat) (w : World) (h : Sl w ao n c xs) (hd : dchk s xs x = 0) (hb : bigE (raN xs x) = 0) (hb2 : bigE (raD x) = 0) :
 Calls Tryz.prog 19 #[.agg #[.bool s, .slice ao n c, .int .i64 x]] w (RatA s xs x w) := by
 have hc := dchk_chk hd
 obtain ⟨hx1, hx2⟩ := dchk_exp hd
 have cU : ∀ W : World, Sl W ao n c xs → Calls Tryz.prog 41 #[.agg #[.slice ao n c], .int .i64 (max 0 x)] W (Numb W (bigN (raN xs x)) (bigE (raN xs x))) := fun W hS => natUp_i ao n c (max 0 x) (by omega) xs W hS hc
 have cD : ∀ (W : World) (a k c : Nat) (ao : Option Addr), Sl W ao k c (limbs 1) → Calls Tryz.prog 41 #[.agg #[.slice ao k c], .int .i64 (max 0 (-x))] W (Numb W (bigN (raD x)) (bigE (raD x))) := fun W a k c ao hS => by
  have := natUp_i ao k c (max 0 (-x)) (by omega) (limbs 1) W hS (chk_limbs (by decide))
  rwa [val_limbs', Nat.one_mul] at this
 have cO : ∀ W : World, Calls Tryz.prog 36 #[.int .u64 1] W fun e w' => ∃ ao k c, e = .returned (.agg #[.slice ao k c]) ∧ Fr 40 w' W.heap.size ao k c (limbs 1) ∧ Below W.heap.size W w' := fun W => natOf_any 1 W (by decide)
 have hwx : IntKind.i64.wrap (-x) = -x := IntWalk.i64_in _ (by constructor <;> omega)
 have HX := Lib.hid hd
 have HR := Lib.hid (decide_eq_true (And.intro hd (And.intro hb hb2)) : raB s xs x = true)
 rw [hb2, bigN_of hb2] at cD
 rw [hb, bigN_of hb] at cU
 clear hb hb2
 go_enter Tryz.func19, Tryz.ntmps19
 go_wp2_with fail
 refine (dyCheck_any s ao n c x xs _ ((h.alloc _).alloc _)).mono ?_
 rintro e w1 ⟨rfl, hb1⟩
 have hW := next (more (more (Below.refl _ _) _) _) hb1
 have A := ((box3_new w (.bool s) (.slice ao n c) (.int .i64 x) 47).alloc (.cells #[.bool false, .slice none 0 0, .slice none 0 0] 29)).stay hb1
 have B := (box3_new (w.alloc (.cells #[.bool s, .slice ao n c, .int .i64 x] 47)) (.bool false) (.slice none 0 0) (.slice none 0 0) 29).stay hb1
 rw [World.size_alloc] at B
 have hBl := B.lt
 rw [HX.out]
 clear hd
 have ⟨p0, p1, p2, _, _, _⟩ := A
 go_wp2_with fail
 refine (cU _ (h.below hW)).mono ?_
 rintro e w2 ⟨o1, k1, e1, rfl, F1, hb2⟩
 have hs1 := hW.size
 replace hW := next hW hb2
 replace A := A.stay hb2
 replace B := B.stay hb2
 clear p0 p1 p2
 have H1 : ∀ g, blkOf o1 = some g → g < w2.heap.size := fun g hg => (fr_lt F1 hg).2
 go_upto_region 7 with fail
 have X1 := box1_new w2 (.slice o1 k1 e1) 27
 have V := more hW (.cells #[.slice o1 k1 e1] 27)
 have hs2 := hb2.size
 replace A := A.alloc (.cells #[.slice o1 k1 e1] 27)
 replace B := B.alloc (.cells #[.slice o1 k1 e1] 27)
 replace F1 := F1.alloc (.cells #[.slice o1 k1 e1] 27)
 have hqs := X1.lt
 clear hW hb2
 generalize w2.alloc (.cells #[.slice o1 k1 e1] 27) = wq at X1 V A B F1 hqs ⊢
 generalize w2.heap.size = q at X1 hqs H1 hs2 ⊢
 have ⟨p0, p1, p2, _, _, _⟩ := A
 go_cut [6, 7] from 27 (fun v6 v7 wx => DenQ 0 (raD x) wq v6 v7 wx)
 case first =>
  have kS : ∀ w' : World, Below wq.heap.size wq w' → (w'.cell? ⟨w.heap.size, 0, none⟩ = some (.bool s) ∧ w'.cell? ⟨w.heap.size, 1, none⟩ = some (.slice ao n c) ∧ w'.cell? ⟨w.heap.size, 2, none⟩ = some (.int .i64 x) ∧ Below wq.heap.size wq w') := fun w' hb => ⟨cellStay A.c0 hb, cellStay A.c1 hb, cellStay A.c2 hb, hb⟩
  go_region_held3 (fun w' => w'.cell? ⟨w.heap.size, 0, none⟩ = some (.bool s) ∧ w'.cell? ⟨w.heap.size, 1, none⟩ = some (.slice ao n c) ∧ w'.cell? ⟨w.heap.size, 2, none⟩ = some (.int .i64 x) ∧ Below wq.heap.size wq w')
   ((refine kS _ ?_; (repeat (with_reducible (first | exact hW6 | exact hW5 | exact Below.refl _ _ | refine Below.drew ?_ | refine more ?_ _ | refine Below.setCell ?_ ?_ _ | exact Nat.le_refl _ | exact hs5 | exact Nat.le_trans hs5 hs6))); done))
   (first
   | (go_at_call 36; (with_reducible refine (cO _).mono ?_); rintro en w5 ⟨a5, k5, c5, rfl, F5, hb5⟩; have hW5 : Below wq.heap.size wq w5 := (by first | exact hb5 | exact undrew hb5 | exact next (more (Below.refl _ _) _) hb5 | exact next (more (Below.refl _ _) _).drew hb5); (try have Z := (box1_new wq (.slice none 0 0) 27).stay (by first | exact hb5 | exact undrew hb5)); (try have ⟨z0, z1⟩ := Z); have hs5 := hW5.size)
   | (go_at_call 41; (with_reducible refine (cD _ 0 _ _ _ ?_).mono ?_); (first | exact F5.sl | exact F5.sl.drew | exact F5.sl.alloc _); rintro en w6 ⟨a6, k6, c6, rfl, F6, hb6⟩; have h56 : Below w5.heap.size w5 w6 := (by first | exact hb6 | exact next (more (Below.refl _ _) _) hb6); have hW6 := next hW5 h56; have hs6 := h56.size; (try have ZZ := Z.stay h56); (try have ⟨y0, y1⟩ := ZZ); (try have YY := (box1_new w5 (.slice none 0 0) 27).stay hb6); (try have ⟨y2, y3⟩ := YY)))
  all_goals go_split_ands
  all_goals go_wp2
  all_goals go_meet
  all_goals (try have hzl := ZZ.lt)
  all_goals (try have hyl := YY.lt)
  all_goals (try have hzz := Z.lt)
  all_goals (first
   | exact ⟨a6, k6, c6, _, rfl, rfl, by simp, (F6.alloc _).mono hs5, more hW6 _⟩
   | exact ⟨a6, k6, c6, _, rfl, rfl, ZZ.set _, (F6.setCell (by simp; omega) _).mono hs5, hW6.setCell (by simp) _⟩
   | exact ⟨a6, k6, c6, _, rfl, rfl, YY.set _, (F6.setCell (by simp) _).mono (by simp; omega), hW6.setCell (by simp; omega) _⟩
   | trace_state)
 case rest =>
  obtain ⟨a2, n2, c2, b7, rfl, rfl, Y1, F2, hWc⟩ := hcut
  replace F1 := F1.below hWc
  replace A := A.stay hWc
  replace B := B.stay hWc
  replace X1 := X1.stay hWc
  have hW := next V hWc
  have hWs := hWc.size
  have ⟨x0, _⟩ := X1
  have ⟨p0, p1, p2, _, _, _⟩ := A
  have ⟨b0, b1, b2, bz0, bz1, bz2⟩ := B
  go_wp2
  have ⟨t0, t1, t2⟩ := B.set (.bool s) (.slice o1 k1 e1) (.slice a2 n2 c2)
  refine bodyPost_ret (v := .tuple #[.agg #[.bool s, .slice o1 k1 e1, .slice a2 n2 c2], .int .i64 0]) (by simp [results, Tryz.results19, go_sem, t0, t1, t2]) rfl ?_
  refine ratA_yes HR.out ⟨_, _, _, _, _, _, rfl, (((F1.setCell (by simp; omega) _).setCell (by simp; omega) _).setCell (by simp; omega) _).mono (by omega), (((F2.setCell (by simp; omega) _).setCell (by simp; omega) _).setCell (by simp; omega) _).mono (by omega), ?_, ((hW.setCell (by simp) _).setCell (by simp) _).setCell (by simp) _⟩
  intro g g1 g2
  have q1 := H1 g g1
  have q2 := (fr_lt F2 g2).1
  omega
theorem exRatio_any (s : Bool) (ao : Option Addr) (n c : Nat) (x : Int) (xs : List Nat) (w : World) (h : Sl w ao n c xs) :
 Calls Tryz.prog 19 #[.agg #[.bool s, .slice ao n c, .int .i64 x]] w (RatA s xs x w) := by
 by_cases hd : dchk s xs x = 0
 · by_cases hb : bigE (raN xs x) = 0
   · by_cases hb2 : bigE (raD x) = 0
     · exact exRatio_yes s ao n c x xs w h hd hb hb2
     · exact exRatio_no3 s ao n c x xs w h hd hb hb2
   · exact exRatio_no2 s ao n c x xs w h hd hb
 · exact exRatio_no1 s ao n c x xs w h hd
end Go.Proofs.YtpmncmglmobjoaaGreatDoor
