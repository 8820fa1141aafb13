/-
  Contracts: Ratio of exact and of the reference. (Printed by wip/gen/ratio.py.) Contracts: Of of exact and of the reference. (Printed by wip/gen/of.py.)
-/
import Derived.Test.YteoceoepakfgiaaDoorRtG
import Derived.Test.YteoceoepakfgiaaDoorSumNs
import Derived.Test.YteoceoepakfgiaaDoorRfs
import Derived.Test.YteoceoepakfgiaaDoorVals
namespace Go.Proofs.YteoceoepakfgiaaDoor
open Go.RowKit Go.Lb

/-- A dyadic as a fraction: above, below the line; may it be told; the error. -/
def raN (xs : List Nat) (x : Int) : Nat := val xs * 2 ^ (max 0 x).toNat
def raD (x : Int) : Nat := 2 ^ (max 0 (-x)).toNat
def raB (s : Bool) (xs : List Nat) (x : Int) : Bool := decide (dchk s xs x = 0 ∧ bigE (raN xs x) = 0 ∧ bigE (raD x) = 0)
def raE (s : Bool) (xs : List Nat) (x : Int) : Int := if dchk s xs x ≠ 0 then dchk s xs x else if raB s xs x = true then 0 else 4

/-- What Ratio answers. -/
def RatA (s : Bool) (xs : List Nat) (x : Int) (w : World) : Ending → World → Prop :=
  Rtn (raB s xs x && s) (if raB s xs x = true then raN xs x else 0) (if raB s xs x = true then raD x else 0) (raE s xs x) w

theorem ratA_no {s : Bool} {xs : List Nat} {x : Int} {w w' : World} {er : Int} (hb : raB s xs x = false) (he : raE s xs x = er) (h : Below w.heap.size w w') : RatA s xs x w (.returned (.tuple #[.agg #[.bool false, .slice none 0 0, .slice none 0 0], .int .i64 er])) w' := by
  unfold RatA
  rw [hb, he]
  exact rtn_no h

theorem ratA_yes {s : Bool} {xs : List Nat} {x : Int} {w w' : World} {e : Ending} (hb : raB s xs x = true) (h : Rtn s (raN xs x) (raD x) 0 w e w') : RatA s xs x w e w' := by
  have he : raE s xs x = 0 := by
    unfold raE
    rw [if_neg (by have := (of_decide_eq_true hb).1; simp [this]), if_pos hb]
  unfold RatA
  rw [hb, he]
  exact h

theorem raE_dchk {s : Bool} {xs : List Nat} {x : Int} (h : dchk s xs x ≠ 0) : raB s xs x = false ∧ raE s xs x = dchk s xs x := ⟨decide_eq_false (fun hh => h hh.1), by unfold raE; rw [if_pos h]⟩

theorem raE_big {s : Bool} {xs : List Nat} {x : Int} (h : dchk s xs x = 0) (h2 : ¬ (bigE (raN xs x) = 0 ∧ bigE (raD x) = 0)) : raB s xs x = false ∧ raE s xs x = 4 := by
  have hb : raB s xs x = false := decide_eq_false (fun hh => h2 hh.2)
  refine ⟨hb, ?_⟩
  unfold raE
  rw [if_neg (by simp [h]), if_neg (by rw [hb]; decide)]

theorem bigE_ne {N : Nat} (h : bigE N ≠ 0) : bigE N = 4 := by
  unfold bigE at h ⊢
  split at h
  · exact absurd rfl h
  · rename_i hh; rw [if_neg hh]

/-- What the statement that reckons the lower number leaves. -/
def DenQ (e : Int) (N : Nat) (wq : World) (v6 v7 : Value) (wx : World) : Prop :=
  ∃ a2 n2 c2 b7, v6 = .int .i64 e ∧ v7 = .pointer (some ⟨b7, 0, none⟩) ∧ wx.cell? ⟨b7, 0, none⟩ = some (.slice a2 n2 c2) ∧ Fr 81 wx wq.heap.size a2 n2 c2 (limbs N) ∧ Below wq.heap.size wq wx

set_option maxRecDepth 100000 in
set_option maxHeartbeats 4000000 in
theorem exRatio_no1 (s : Bool) (ao : Option Addr) (n c : Nat) (x : Int) (xs : List Nat) (w : World) (h : Sl w ao n c xs) (hd : dchk s xs x ≠ 0) :
    Calls Tryd.prog 5 #[.agg #[.bool s, .slice ao n c, .int .i64 x]] w (RatA s xs x w) := by
  have hcB : (dchk s xs x != 0) = true := by simp [hd]
  have HR := Lib.hid (raE_dchk hd)
  clear hd
  go_enter Tryd.func5, Tryd.ntmps5
  go_wp2_with fail
  refine (dyCheck_any s ao n c x xs _ ((h.alloc _).alloc _)).mono ?_
  rintro e w1 ⟨rfl, hb1⟩
  have hW := next (more (more (Below.refl _ _) _) _) hb1
  have A := ((box3_new w (.bool s) (.slice ao n c) (.int .i64 x) 26).alloc (.cells #[.bool false, .slice none 0 0, .slice none 0 0] 28)).stay hb1
  have B := (box3_new (w.alloc (.cells #[.bool s, .slice ao n c, .int .i64 x] 26)) (.bool false) (.slice none 0 0) (.slice none 0 0) 28).stay hb1
  rw [World.size_alloc] at B
  have hBl := B.lt
  have ⟨b0, b1, b2, bz0, bz1, bz2⟩ := B
  go_wp2
  have ⟨t0, t1, t2⟩ := B.set (.bool false) (.slice none 0 0) (.slice none 0 0)
  refine bodyPost_ret (v := .tuple #[.agg #[.bool false, .slice none 0 0, .slice none 0 0], .int .i64 (dchk s xs x)]) (by simp [results, Tryd.results5, go_sem, t0, t1, t2]) rfl (ratA_no HR.out.1 HR.out.2 (((hW.setCell (by simp) _).setCell (by simp) _).setCell (by simp) _))

set_option maxRecDepth 100000 in
set_option maxHeartbeats 4000000 in
theorem exRatio_no2 (s : Bool) (ao : Option Addr) (n c : Nat) (x : Int) (xs : List Nat) (w : World) (h : Sl w ao n c xs) (hd : dchk s xs x = 0) (hb : bigE (raN xs x) ≠ 0) :
    Calls Tryd.prog 5 #[.agg #[.bool s, .slice ao n c, .int .i64 x]] w (RatA s xs x w) := by
  have hc := dchk_chk hd
  obtain ⟨hx1, hx2⟩ := dchk_exp hd
  have cU : ∀ W : World, Sl W ao n c xs → Calls Tryd.prog 18 #[.agg #[.slice ao n c], .int .i64 (max 0 x)] W (Numb W (bigN (raN xs x)) (bigE (raN xs x))) := fun W hS => natUp_i ao n c (max 0 x) (by omega) xs W hS hc
  have cD : ∀ (W : World) (a k c : Nat) (ao : Option Addr), Sl W ao k c (limbs 1) → Calls Tryd.prog 18 #[.agg #[.slice ao k c], .int .i64 (max 0 (-x))] W (Numb W (bigN (raD x)) (bigE (raD x))) := fun W a k c ao hS => by
    have := natUp_i ao k c (max 0 (-x)) (by omega) (limbs 1) W hS (chk_limbs (by decide))
    rwa [val_limbs', Nat.one_mul] at this
  have cO : ∀ W : World, Calls Tryd.prog 19 #[.int .u64 1] W fun e w' => ∃ ao k c, e = .returned (.agg #[.slice ao k c]) ∧ Fr 81 w' W.heap.size ao k c (limbs 1) ∧ Below W.heap.size W w' := fun W => natOf_any 1 W (by decide)
  have hwx : IntKind.i64.wrap (-x) = -x := IntWalk.i64_in _ (by constructor <;> omega)
  have HX := Lib.hid hd
  have hcB : (bigE (raN xs x) != 0) = true := by simp [hb]
  have HR := Lib.hid (raE_big hd (fun h => hb h.1))
  have h4 := bigE_ne hb
  rw [h4] at cU hcB
  clear hb h4
  go_enter Tryd.func5, Tryd.ntmps5
  go_wp2_with fail
  refine (dyCheck_any s ao n c x xs _ ((h.alloc _).alloc _)).mono ?_
  rintro e w1 ⟨rfl, hb1⟩
  have hW := next (more (more (Below.refl _ _) _) _) hb1
  have A := ((box3_new w (.bool s) (.slice ao n c) (.int .i64 x) 26).alloc (.cells #[.bool false, .slice none 0 0, .slice none 0 0] 28)).stay hb1
  have B := (box3_new (w.alloc (.cells #[.bool s, .slice ao n c, .int .i64 x] 26)) (.bool false) (.slice none 0 0) (.slice none 0 0) 28).stay hb1
  rw [World.size_alloc] at B
  have hBl := B.lt
  rw [HX.out]
  clear hd
  have ⟨p0, p1, p2, _, _, _⟩ := A
  go_wp2_with fail
  refine (cU _ (h.below hW)).mono ?_
  rintro e w2 ⟨o1, k1, e1, rfl, F1, hb2⟩
  have hs1 := hW.size
  replace hW := next hW hb2
  replace A := A.stay hb2
  replace B := B.stay hb2
  clear p0 p1 p2
  have H1 : ∀ g, blkOf o1 = some g → g < w2.heap.size := fun g hg => (fr_lt F1 hg).2
  replace B := B.alloc (.cells #[.slice o1 k1 e1] 24)
  have ⟨b0, b1, b2, bz0, bz1, bz2⟩ := B
  go_wp2
  replace hW := more hW (.cells #[.slice o1 k1 e1] 24)
  have ⟨t0, t1, t2⟩ := B.set (.bool false) (.slice none 0 0) (.slice none 0 0)
  refine bodyPost_ret (v := .tuple #[.agg #[.bool false, .slice none 0 0, .slice none 0 0], .int .i64 (4)]) (by simp [results, Tryd.results5, go_sem, t0, t1, t2]) rfl (ratA_no HR.out.1 HR.out.2 (((hW.setCell (by simp) _).setCell (by simp) _).setCell (by simp) _))

set_option maxRecDepth 100000 in
set_option maxHeartbeats 4000000 in
theorem exRatio_no3 (s : Bool) (ao : Option Addr) (n c : Nat) (x : Int) (xs : List Nat) (w : World) (h : Sl w ao n c xs) (hd : dchk s xs x = 0) (hb : bigE (raN xs x) = 0) (hb2 : bigE (raD x) ≠ 0) :
    Calls Tryd.prog 5 #[.agg #[.bool s, .slice ao n c, .int .i64 x]] w (RatA s xs x w) := by
  have hc := dchk_chk hd
  obtain ⟨hx1, hx2⟩ := dchk_exp hd
  have cU : ∀ W : World, Sl W ao n c xs → Calls Tryd.prog 18 #[.agg #[.slice ao n c], .int .i64 (max 0 x)] W (Numb W (bigN (raN xs x)) (bigE (raN xs x))) := fun W hS => natUp_i ao n c (max 0 x) (by omega) xs W hS hc
  have cD : ∀ (W : World) (a k c : Nat) (ao : Option Addr), Sl W ao k c (limbs 1) → Calls Tryd.prog 18 #[.agg #[.slice ao k c], .int .i64 (max 0 (-x))] W (Numb W (bigN (raD x)) (bigE (raD x))) := fun W a k c ao hS => by
    have := natUp_i ao k c (max 0 (-x)) (by omega) (limbs 1) W hS (chk_limbs (by decide))
    rwa [val_limbs', Nat.one_mul] at this
  have cO : ∀ W : World, Calls Tryd.prog 19 #[.int .u64 1] W fun e w' => ∃ ao k c, e = .returned (.agg #[.slice ao k c]) ∧ Fr 81 w' W.heap.size ao k c (limbs 1) ∧ Below W.heap.size W w' := fun W => natOf_any 1 W (by decide)
  have hwx : IntKind.i64.wrap (-x) = -x := IntWalk.i64_in _ (by constructor <;> omega)
  have HX := Lib.hid hd
  have hcB : (bigE (raD x) != 0) = true := by simp [hb2]
  have HR := Lib.hid (raE_big hd (fun h => hb2 h.2))
  have h4 := bigE_ne hb2
  rw [h4] at cD hcB
  rw [hb] at cU
  have H4 := Lib.hid h4
  clear hb hb2 h4
  go_enter Tryd.func5, Tryd.ntmps5
  go_wp2_with fail
  refine (dyCheck_any s ao n c x xs _ ((h.alloc _).alloc _)).mono ?_
  rintro e w1 ⟨rfl, hb1⟩
  have hW := next (more (more (Below.refl _ _) _) _) hb1
  have A := ((box3_new w (.bool s) (.slice ao n c) (.int .i64 x) 26).alloc (.cells #[.bool false, .slice none 0 0, .slice none 0 0] 28)).stay hb1
  have B := (box3_new (w.alloc (.cells #[.bool s, .slice ao n c, .int .i64 x] 26)) (.bool false) (.slice none 0 0) (.slice none 0 0) 28).stay hb1
  rw [World.size_alloc] at B
  have hBl := B.lt
  rw [HX.out]
  clear hd
  have ⟨p0, p1, p2, _, _, _⟩ := A
  go_wp2_with fail
  refine (cU _ (h.below hW)).mono ?_
  rintro e w2 ⟨o1, k1, e1, rfl, F1, hb2⟩
  have hs1 := hW.size
  replace hW := next hW hb2
  replace A := A.stay hb2
  replace B := B.stay hb2
  clear p0 p1 p2
  have H1 : ∀ g, blkOf o1 = some g → g < w2.heap.size := fun g hg => (fr_lt F1 hg).2
  go_upto_region 7 with fail
  have X1 := box1_new w2 (.slice o1 k1 e1) 24
  have V := more hW (.cells #[.slice o1 k1 e1] 24)
  have hs2 := hb2.size
  replace A := A.alloc (.cells #[.slice o1 k1 e1] 24)
  replace B := B.alloc (.cells #[.slice o1 k1 e1] 24)
  replace F1 := F1.alloc (.cells #[.slice o1 k1 e1] 24)
  have hqs := X1.lt
  clear hW hb2
  generalize w2.alloc (.cells #[.slice o1 k1 e1] 24) = wq at X1 V A B F1 hqs ⊢
  generalize w2.heap.size = q at X1 hqs H1 hs2 ⊢
  have ⟨p0, p1, p2, _, _, _⟩ := A
  go_cut [6, 7] from 27 (fun v6 v7 wx => DenQ 4 (bigN (raD x)) wq v6 v7 wx)
  case first =>
    have kS : ∀ w' : World, Below wq.heap.size wq w' → (w'.cell? ⟨w.heap.size, 0, none⟩ = some (.bool s) ∧ w'.cell? ⟨w.heap.size, 1, none⟩ = some (.slice ao n c) ∧ w'.cell? ⟨w.heap.size, 2, none⟩ = some (.int .i64 x) ∧ Below wq.heap.size wq w') := fun w' hb => ⟨cellStay A.c0 hb, cellStay A.c1 hb, cellStay A.c2 hb, hb⟩
    go_region_held3 (fun w' => w'.cell? ⟨w.heap.size, 0, none⟩ = some (.bool s) ∧ w'.cell? ⟨w.heap.size, 1, none⟩ = some (.slice ao n c) ∧ w'.cell? ⟨w.heap.size, 2, none⟩ = some (.int .i64 x) ∧ Below wq.heap.size wq w')
      ((refine kS _ ?_; (repeat (with_reducible (first | exact hW6 | exact hW5 | exact Below.refl _ _ | refine Below.drew ?_ | refine more ?_ _ | refine Below.setCell ?_ ?_ _ | exact Nat.le_refl _ | exact hs5 | exact Nat.le_trans hs5 hs6))); done))
      (first
      | (go_at_call 19; (with_reducible refine (cO _).mono ?_); rintro en w5 ⟨a5, k5, c5, rfl, F5, hb5⟩; have hW5 : Below wq.heap.size wq w5 := (by first | exact hb5 | exact undrew hb5 | exact next (more (Below.refl _ _) _) hb5 | exact next (more (Below.refl _ _) _).drew hb5); (try have Z := (box1_new wq (.slice none 0 0) 24).stay (by first | exact hb5 | exact undrew hb5)); (try have ⟨z0, z1⟩ := Z); have hs5 := hW5.size)
      | (go_at_call 18; (with_reducible refine (cD _ 0 _ _ _ ?_).mono ?_); (first | exact F5.sl | exact F5.sl.drew | exact F5.sl.alloc _); rintro en w6 ⟨a6, k6, c6, rfl, F6, hb6⟩; have h56 : Below w5.heap.size w5 w6 := (by first | exact hb6 | exact next (more (Below.refl _ _) _) hb6); have hW6 := next hW5 h56; have hs6 := h56.size; (try have ZZ := Z.stay h56); (try have ⟨y0, y1⟩ := ZZ); (try have YY := (box1_new w5 (.slice none 0 0) 24).stay hb6); (try have ⟨y2, y3⟩ := YY)))
    all_goals go_split_ands
    all_goals go_wp2
    all_goals go_meet
    all_goals (try have hzl := ZZ.lt)
    all_goals (try have hyl := YY.lt)
    all_goals (try have hzz := Z.lt)
    all_goals (first
      | exact ⟨a6, k6, c6, _, rfl, rfl, by simp, (F6.alloc _).mono hs5, more hW6 _⟩
      | exact ⟨a6, k6, c6, _, rfl, rfl, ZZ.set _, (F6.setCell (by simp; omega) _).mono hs5, hW6.setCell (by simp) _⟩
      | exact ⟨a6, k6, c6, _, rfl, rfl, YY.set _, (F6.setCell (by simp) _).mono (by simp; omega), hW6.setCell (by simp; omega) _⟩
      | trace_state)
  case rest =>
    obtain ⟨a2, n2, c2, b7, rfl, rfl, Y1, F2, hWc⟩ := hcut
    replace F1 := F1.below hWc
    replace A := A.stay hWc
    replace B := B.stay hWc
    replace X1 := X1.stay hWc
    have hW := next V hWc
    have hWs := hWc.size
    have ⟨b0, b1, b2, bz0, bz1, bz2⟩ := B
    go_wp2
    have ⟨t0, t1, t2⟩ := B.set (.bool false) (.slice none 0 0) (.slice none 0 0)
    refine bodyPost_ret (v := .tuple #[.agg #[.bool false, .slice none 0 0, .slice none 0 0], .int .i64 (4)]) (by simp [results, Tryd.results5, go_sem, t0, t1, t2]) rfl (ratA_no HR.out.1 HR.out.2 (((hW.setCell (by simp) _).setCell (by simp) _).setCell (by simp) _))

set_option maxRecDepth 100000 in
set_option maxHeartbeats 4000000 in
theorem exRatio_yes (s : Bool) (ao : Option Addr) (n c : Nat) (x : Int) (xs : List Nat) (w : World) (h : Sl w ao n c xs) (hd : dchk s xs x = 0) (hb : bigE (raN xs x) = 0) (hb2 : bigE (raD x) = 0) :
    Calls Tryd.prog 5 #[.agg #[.bool s, .slice ao n c, .int .i64 x]] w (RatA s xs x w) := by
  have hc := dchk_chk hd
  obtain ⟨hx1, hx2⟩ := dchk_exp hd
  have cU : ∀ W : World, Sl W ao n c xs → Calls Tryd.prog 18 #[.agg #[.slice ao n c], .int .i64 (max 0 x)] W (Numb W (bigN (raN xs x)) (bigE (raN xs x))) := fun W hS => natUp_i ao n c (max 0 x) (by omega) xs W hS hc
  have cD : ∀ (W : World) (a k c : Nat) (ao : Option Addr), Sl W ao k c (limbs 1) → Calls Tryd.prog 18 #[.agg #[.slice ao k c], .int .i64 (max 0 (-x))] W (Numb W (bigN (raD x)) (bigE (raD x))) := fun W a k c ao hS => by
    have := natUp_i ao k c (max 0 (-x)) (by omega) (limbs 1) W hS (chk_limbs (by decide))
    rwa [val_limbs', Nat.one_mul] at this
  have cO : ∀ W : World, Calls Tryd.prog 19 #[.int .u64 1] W fun e w' => ∃ ao k c, e = .returned (.agg #[.slice ao k c]) ∧ Fr 81 w' W.heap.size ao k c (limbs 1) ∧ Below W.heap.size W w' := fun W => natOf_any 1 W (by decide)
  have hwx : IntKind.i64.wrap (-x) = -x := IntWalk.i64_in _ (by constructor <;> omega)
  have HX := Lib.hid hd
  have HR := Lib.hid (decide_eq_true (And.intro hd (And.intro hb hb2)) : raB s xs x = true)
  rw [hb2, bigN_of hb2] at cD
  rw [hb, bigN_of hb] at cU
  clear hb hb2
  go_enter Tryd.func5, Tryd.ntmps5
  go_wp2_with fail
  refine (dyCheck_any s ao n c x xs _ ((h.alloc _).alloc _)).mono ?_
  rintro e w1 ⟨rfl, hb1⟩
  have hW := next (more (more (Below.refl _ _) _) _) hb1
  have A := ((box3_new w (.bool s) (.slice ao n c) (.int .i64 x) 26).alloc (.cells #[.bool false, .slice none 0 0, .slice none 0 0] 28)).stay hb1
  have B := (box3_new (w.alloc (.cells #[.bool s, .slice ao n c, .int .i64 x] 26)) (.bool false) (.slice none 0 0) (.slice none 0 0) 28).stay hb1
  rw [World.size_alloc] at B
  have hBl := B.lt
  rw [HX.out]
  clear hd
  have ⟨p0, p1, p2, _, _, _⟩ := A
  go_wp2_with fail
  refine (cU _ (h.below hW)).mono ?_
  rintro e w2 ⟨o1, k1, e1, rfl, F1, hb2⟩
  have hs1 := hW.size
  replace hW := next hW hb2
  replace A := A.stay hb2
  replace B := B.stay hb2
  clear p0 p1 p2
  have H1 : ∀ g, blkOf o1 = some g → g < w2.heap.size := fun g hg => (fr_lt F1 hg).2
  go_upto_region 7 with fail
  have X1 := box1_new w2 (.slice o1 k1 e1) 24
  have V := more hW (.cells #[.slice o1 k1 e1] 24)
  have hs2 := hb2.size
  replace A := A.alloc (.cells #[.slice o1 k1 e1] 24)
  replace B := B.alloc (.cells #[.slice o1 k1 e1] 24)
  replace F1 := F1.alloc (.cells #[.slice o1 k1 e1] 24)
  have hqs := X1.lt
  clear hW hb2
  generalize w2.alloc (.cells #[.slice o1 k1 e1] 24) = wq at X1 V A B F1 hqs ⊢
  generalize w2.heap.size = q at X1 hqs H1 hs2 ⊢
  have ⟨p0, p1, p2, _, _, _⟩ := A
  go_cut [6, 7] from 27 (fun v6 v7 wx => DenQ 0 (raD x) wq v6 v7 wx)
  case first =>
    have kS : ∀ w' : World, Below wq.heap.size wq w' → (w'.cell? ⟨w.heap.size, 0, none⟩ = some (.bool s) ∧ w'.cell? ⟨w.heap.size, 1, none⟩ = some (.slice ao n c) ∧ w'.cell? ⟨w.heap.size, 2, none⟩ = some (.int .i64 x) ∧ Below wq.heap.size wq w') := fun w' hb => ⟨cellStay A.c0 hb, cellStay A.c1 hb, cellStay A.c2 hb, hb⟩
    go_region_held3 (fun w' => w'.cell? ⟨w.heap.size, 0, none⟩ = some (.bool s) ∧ w'.cell? ⟨w.heap.size, 1, none⟩ = some (.slice ao n c) ∧ w'.cell? ⟨w.heap.size, 2, none⟩ = some (.int .i64 x) ∧ Below wq.heap.size wq w')
      ((refine kS _ ?_; (repeat (with_reducible (first | exact hW6 | exact hW5 | exact Below.refl _ _ | refine Below.drew ?_ | refine more ?_ _ | refine Below.setCell ?_ ?_ _ | exact Nat.le_refl _ | exact hs5 | exact Nat.le_trans hs5 hs6))); done))
      (first
      | (go_at_call 19; (with_reducible refine (cO _).mono ?_); rintro en w5 ⟨a5, k5, c5, rfl, F5, hb5⟩; have hW5 : Below wq.heap.size wq w5 := (by first | exact hb5 | exact undrew hb5 | exact next (more (Below.refl _ _) _) hb5 | exact next (more (Below.refl _ _) _).drew hb5); (try have Z := (box1_new wq (.slice none 0 0) 24).stay (by first | exact hb5 | exact undrew hb5)); (try have ⟨z0, z1⟩ := Z); have hs5 := hW5.size)
      | (go_at_call 18; (with_reducible refine (cD _ 0 _ _ _ ?_).mono ?_); (first | exact F5.sl | exact F5.sl.drew | exact F5.sl.alloc _); rintro en w6 ⟨a6, k6, c6, rfl, F6, hb6⟩; have h56 : Below w5.heap.size w5 w6 := (by first | exact hb6 | exact next (more (Below.refl _ _) _) hb6); have hW6 := next hW5 h56; have hs6 := h56.size; (try have ZZ := Z.stay h56); (try have ⟨y0, y1⟩ := ZZ); (try have YY := (box1_new w5 (.slice none 0 0) 24).stay hb6); (try have ⟨y2, y3⟩ := YY)))
    all_goals go_split_ands
    all_goals go_wp2
    all_goals go_meet
    all_goals (try have hzl := ZZ.lt)
    all_goals (try have hyl := YY.lt)
    all_goals (try have hzz := Z.lt)
    all_goals (first
      | exact ⟨a6, k6, c6, _, rfl, rfl, by simp, (F6.alloc _).mono hs5, more hW6 _⟩
      | exact ⟨a6, k6, c6, _, rfl, rfl, ZZ.set _, (F6.setCell (by simp; omega) _).mono hs5, hW6.setCell (by simp) _⟩
      | exact ⟨a6, k6, c6, _, rfl, rfl, YY.set _, (F6.setCell (by simp) _).mono (by simp; omega), hW6.setCell (by simp; omega) _⟩
      | trace_state)
  case rest =>
    obtain ⟨a2, n2, c2, b7, rfl, rfl, Y1, F2, hWc⟩ := hcut
    replace F1 := F1.below hWc
    replace A := A.stay hWc
    replace B := B.stay hWc
    replace X1 := X1.stay hWc
    have hW := next V hWc
    have hWs := hWc.size
    have ⟨x0, _⟩ := X1
    have ⟨p0, p1, p2, _, _, _⟩ := A
    have ⟨b0, b1, b2, bz0, bz1, bz2⟩ := B
    go_wp2
    have ⟨t0, t1, t2⟩ := B.set (.bool s) (.slice o1 k1 e1) (.slice a2 n2 c2)
    refine bodyPost_ret (v := .tuple #[.agg #[.bool s, .slice o1 k1 e1, .slice a2 n2 c2], .int .i64 0]) (by simp [results, Tryd.results5, go_sem, t0, t1, t2]) rfl ?_
    refine ratA_yes HR.out ⟨_, _, _, _, _, _, rfl, (((F1.setCell (by simp; omega) _).setCell (by simp; omega) _).setCell (by simp; omega) _).mono (by omega), (((F2.setCell (by simp; omega) _).setCell (by simp; omega) _).setCell (by simp; omega) _).mono (by omega), ?_, ((hW.setCell (by simp) _).setCell (by simp) _).setCell (by simp) _⟩
    intro g g1 g2
    have q1 := H1 g g1
    have q2 := (fr_lt F2 g2).1
    omega

theorem exRatio_any (s : Bool) (ao : Option Addr) (n c : Nat) (x : Int) (xs : List Nat) (w : World) (h : Sl w ao n c xs) :
    Calls Tryd.prog 5 #[.agg #[.bool s, .slice ao n c, .int .i64 x]] w (RatA s xs x w) := by
  by_cases hd : dchk s xs x = 0
  · by_cases hb : bigE (raN xs x) = 0
    · by_cases hb2 : bigE (raD x) = 0
      · exact exRatio_yes s ao n c x xs w h hd hb hb2
      · exact exRatio_no3 s ao n c x xs w h hd hb hb2
    · exact exRatio_no2 s ao n c x xs w h hd hb
  · exact exRatio_no1 s ao n c x xs w h hd

end Go.Proofs.YteoceoepakfgiaaDoor

namespace Go.Proofs.YteoceoepakfgiaaDoor
open Go.RowKit Go.Lb

/-- Is a fraction a dyadic? Which one? -/
def ofI (s : Bool) (xs ys : List Nat) : Bool := ratB s xs ys && decide (tz (val ys) + 1 = szN ys)
def ofD (s : Bool) (xs ys : List Nat) : Ds := if ofI s xs ys = true then ⟨mkS s xs (1 - (szN ys : Int)), mkN xs (1 - (szN ys : Int)), mkX xs (1 - (szN ys : Int)), 0⟩ else noA (ratE s xs ys)

/-- What Of answers. -/
def OfA (s : Bool) (xs ys : List Nat) (w : World) (en : Ending) (w' : World) : Prop :=
  ∃ ao n c, en = .returned (.tuple #[.agg #[.bool (ofD s xs ys).s, .slice ao n c, .int .i64 (ofD s xs ys).x], .bool (ofI s xs ys), .int .i64 (ofD s xs ys).e]) ∧ Fr 81 w' w.heap.size ao n c (limbs (ofD s xs ys).N) ∧ Below w.heap.size w w'

theorem ofA_no {s : Bool} {xs ys : List Nat} {w w' : World} {er : Int} (hi : ofI s xs ys = false) (he : ratE s xs ys = er) (h : Below w.heap.size w w') : OfA s xs ys w (.returned (.tuple #[.agg #[.bool false, .slice none 0 0, .int .i64 0], .bool false, .int .i64 er])) w' := by
  have hd : ofD s xs ys = noA er := by unfold ofD; rw [if_neg (by rw [hi]; decide), he]
  refine ⟨none, 0, 0, ?_, ?_, h⟩
  · rw [hd, hi]; rfl
  · rw [hd]; show Fr _ _ _ _ _ _ (limbs 0); rw [limbs_zero]; exact fr_nil _ _ _

theorem ofA_yes {s : Bool} {xs ys : List Nat} {w w' : World} {ao : Option Addr} {n c : Nat} {x : Int} (hi : ofI s xs ys = true) (hx : x = 1 - (szN ys : Int)) (hf : Fr 81 w' w.heap.size ao n c (limbs (mkN xs x))) (h : Below w.heap.size w w') : OfA s xs ys w (.returned (.tuple #[.agg #[.bool (mkS s xs x), .slice ao n c, .int .i64 (mkX xs x)], .bool true, .int .i64 0])) w' := by
  subst hx
  have hd : ofD s xs ys = ⟨mkS s xs (1 - (szN ys : Int)), mkN xs (1 - (szN ys : Int)), mkX xs (1 - (szN ys : Int)), 0⟩ := by unfold ofD; rw [if_pos hi]
  refine ⟨ao, n, c, ?_, ?_, h⟩
  · rw [hd, hi]
  · rw [hd]; exact hf

theorem ratB_parts {s : Bool} {xs ys : List Nat} (h : ratB s xs ys = true) : chk xs = 0 ∧ chk ys = 0 ∧ ys.length ≠ 0 ∧ Nat.gcd (val xs) (val ys) = 1 ∧ (s = true → val xs ≠ 0) := of_decide_eq_true h

theorem mkE_of {xs : List Nat} {x : Int} (hok : Ok xs) (hc : chk xs = 0) (h1 : -524288 ≤ x) (h2 : x ≤ 0) : mkE xs x = 0 := by
  by_cases h0 : val xs = 0
  · exact (mk_zero hc h0).2
  · have ht := tz_lt hok h0
    have hl := chk_zero_len hc
    have hb : mkB xs x = true := decide_eq_true ⟨hc, h0, by omega, by omega, by omega, by omega⟩
    exact (mk_yes false hb).2.2.2

set_option maxRecDepth 100000 in
set_option maxHeartbeats 4000000 in
theorem exOf_no1 (s : Bool) (a1 a2 : Option Addr) (n1 n2 c1 c2 : Nat) (xs ys : List Nat) (w : World) (h1 : Sl w a1 n1 c1 xs) (h2 : Sl w a2 n2 c2 ys) (hT : Tab w) (hr : ratB s xs ys = false) :
    Calls Tryd.prog 6 #[.agg #[.bool s, .slice a1 n1 c1, .slice a2 n2 c2]] w (OfA s xs ys w) := by
  have cK : ∀ W : World, Below w.heap.size w W → Calls Tryd.prog 20 #[.agg #[.bool s, .slice a1 n1 c1, .slice a2 n2 c2]] W fun e w' => e = .returned (.int .i64 (ratE s xs ys)) ∧ Below W.heap.size W w' := fun W hW => rtCheck_any s a1 a2 n1 n2 c1 c2 xs ys W (h1.below hW) (h2.below hW) (hT.below hW)
  have HE := Lib.hid (ratE_no hr)
  rw [HE.out] at cK
  have HI : Hid (ofI s xs ys = false) := Lib.hid (by unfold ofI; rw [hr]; rfl)
  clear hr
  go_enter Tryd.func6, Tryd.ntmps6
  go_wp2_with fail
  have hM := more (more (Below.refl w.heap.size w) (.cells #[.bool s, .slice a1 n1 c1, .slice a2 n2 c2] 28)) (.cells #[.bool false, .slice none 0 0, .int .i64 0] 26)
  refine (cK _ hM).mono ?_
  rintro e w1 ⟨rfl, hb1⟩
  have hW := next hM hb1
  have A := ((box3_new w (.bool s) (.slice a1 n1 c1) (.slice a2 n2 c2) 28).alloc (.cells #[.bool false, .slice none 0 0, .int .i64 0] 26)).stay hb1
  have B := (box3_new (w.alloc (.cells #[.bool s, .slice a1 n1 c1, .slice a2 n2 c2] 28)) (.bool false) (.slice none 0 0) (.int .i64 0) 26).stay hb1
  rw [World.size_alloc] at B
  have hBl := B.lt
  clear hM hb1
  have ⟨b0, b1, b2, bz0, bz1, bz2⟩ := B
  go_wp2
  have ⟨t0, t1, t2⟩ := B.set (.bool false) (.slice none 0 0) (.int .i64 0)
  refine bodyPost_ret (v := .tuple #[.agg #[.bool false, .slice none 0 0, .int .i64 0], .bool false, .int .i64 20]) (by simp [results, Tryd.results6, go_sem, t0, t1, t2]) rfl (ofA_no HI.out HE.out (((hW.setCell (by simp) _).setCell (by simp) _).setCell (by simp) _))

set_option maxRecDepth 100000 in
set_option maxHeartbeats 4000000 in
theorem exOf_no2 (s : Bool) (a1 a2 : Option Addr) (n1 n2 c1 c2 : Nat) (xs ys : List Nat) (w : World) (h1 : Sl w a1 n1 c1 xs) (h2 : Sl w a2 n2 c2 ys) (hT : Tab w) (hr : ratB s xs ys = true) (hp : tz (val ys) + 1 ≠ szN ys) :
    Calls Tryd.prog 6 #[.agg #[.bool s, .slice a1 n1 c1, .slice a2 n2 c2]] w (OfA s xs ys w) := by
  have cK : ∀ W : World, Below w.heap.size w W → Calls Tryd.prog 20 #[.agg #[.bool s, .slice a1 n1 c1, .slice a2 n2 c2]] W fun e w' => e = .returned (.int .i64 (ratE s xs ys)) ∧ Below W.heap.size W w' := fun W hW => rtCheck_any s a1 a2 n1 n2 c1 c2 xs ys W (h1.below hW) (h2.below hW) (hT.below hW)
  have HE := Lib.hid (ratE_yes hr)
  rw [HE.out] at cK
  obtain ⟨q1, q2, q3, q4, q5⟩ := ratB_parts hr
  have hv : val ys ≠ 0 := fun h => q3 ((val_zero_iff h2.ok q2).1 h)
  obtain ⟨z1, z2, z3⟩ := sz_bounds h2.ok q2 hv
  have z4 := szN_max h2.ok q2
  have l2 := chk_zero_len q2
  rw [h2.len] at l2
  have cB : ∀ W : World, Below w.heap.size w W → Calls Tryd.prog 21 #[.agg #[.slice a2 n2 c2]] W fun e w' => e = .returned (.tuple #[.int .i64 (szN ys : Int), .int .i64 0]) ∧ Below W.heap.size W w' := fun W hW => by
    have := natBits_any a2 n2 c2 ys W (h2.below hW)
    unfold bitsN at this
    rwa [if_pos q2, q2] at this
  have cE : ∀ W : World, Below w.heap.size w W → Calls Tryd.prog 22 #[.agg #[.slice a2 n2 c2]] W fun e w' => e = .returned (.int .i64 (tz (val ys) : Int)) ∧ Below W.heap.size W w' := fun W hW => exEven_any a2 n2 c2 ys W (h2.below hW) hv l2 (hT.below hW)
  have HI : Hid (ofI s xs ys = false) := Lib.hid (by unfold ofI; rw [hr, decide_eq_false hp]; rfl)
  have ht := tz_lt h2.ok hv
  generalize hZ : szN ys = Z at z1 z4 cB hp
  generalize hU : tz (val ys) = U at ht cE hp
  have HZ := Lib.hid hZ
  have HU := Lib.hid hU
  clear hZ hU z2 z3 hr q1 q2 q3 q4 q5 hv
  have hq : ((U : Int) != (Z : Int) - 1) = true := by simp; omega
  clear hp
  go_enter Tryd.func6, Tryd.ntmps6
  go_wp2_with fail
  have hM := more (more (Below.refl w.heap.size w) (.cells #[.bool s, .slice a1 n1 c1, .slice a2 n2 c2] 28)) (.cells #[.bool false, .slice none 0 0, .int .i64 0] 26)
  refine (cK _ hM).mono ?_
  rintro e w1 ⟨rfl, hb1⟩
  have hW := next hM hb1
  have A := ((box3_new w (.bool s) (.slice a1 n1 c1) (.slice a2 n2 c2) 28).alloc (.cells #[.bool false, .slice none 0 0, .int .i64 0] 26)).stay hb1
  have B := (box3_new (w.alloc (.cells #[.bool s, .slice a1 n1 c1, .slice a2 n2 c2] 28)) (.bool false) (.slice none 0 0) (.int .i64 0) 26).stay hb1
  rw [World.size_alloc] at B
  have hBl := B.lt
  clear hM hb1
  have ⟨p0, p1, p2, _, _, _⟩ := A
  go_wp2_with fail
  refine (cB _ hW).mono ?_
  rintro e w2 ⟨rfl, hb2⟩
  replace hW := next hW hb2
  replace A := A.stay hb2
  replace B := B.stay hb2
  have ⟨p3, p4, p5, _, _, _⟩ := A
  clear p0 p1 p2
  go_wp2_with fail
  refine (cE _ hW).mono ?_
  rintro e w3 ⟨rfl, hb3⟩
  replace hW := next hW hb3
  replace A := A.stay hb3
  replace B := B.stay hb3
  clear p3 p4 p5
  have hBl3 := B.lt
  have ⟨b0, b1, b2, bz0, bz1, bz2⟩ := B
  go_wp2
  have ⟨t0, t1, t2⟩ := B.set (.bool false) (.slice none 0 0) (.int .i64 0)
  refine bodyPost_ret (v := .tuple #[.agg #[.bool false, .slice none 0 0, .int .i64 0], .bool false, .int .i64 0]) (by simp [results, Tryd.results6, go_sem, t0, t1, t2]) rfl (ofA_no HI.out HE.out (((hW.setCell (by simp) _).setCell (by simp) _).setCell (by simp) _))

set_option maxRecDepth 100000 in
set_option maxHeartbeats 4000000 in
theorem exOf_yes (s : Bool) (a1 a2 : Option Addr) (n1 n2 c1 c2 : Nat) (xs ys : List Nat) (w : World) (h1 : Sl w a1 n1 c1 xs) (h2 : Sl w a2 n2 c2 ys) (hT : Tab w) (hr : ratB s xs ys = true) (hp : tz (val ys) + 1 = szN ys) :
    Calls Tryd.prog 6 #[.agg #[.bool s, .slice a1 n1 c1, .slice a2 n2 c2]] w (OfA s xs ys w) := by
  have cK : ∀ W : World, Below w.heap.size w W → Calls Tryd.prog 20 #[.agg #[.bool s, .slice a1 n1 c1, .slice a2 n2 c2]] W fun e w' => e = .returned (.int .i64 (ratE s xs ys)) ∧ Below W.heap.size W w' := fun W hW => rtCheck_any s a1 a2 n1 n2 c1 c2 xs ys W (h1.below hW) (h2.below hW) (hT.below hW)
  have HE := Lib.hid (ratE_yes hr)
  rw [HE.out] at cK
  obtain ⟨q1, q2, q3, q4, q5⟩ := ratB_parts hr
  have hv : val ys ≠ 0 := fun h => q3 ((val_zero_iff h2.ok q2).1 h)
  obtain ⟨z1, z2, z3⟩ := sz_bounds h2.ok q2 hv
  have z4 := szN_max h2.ok q2
  have l2 := chk_zero_len q2
  rw [h2.len] at l2
  have cB : ∀ W : World, Below w.heap.size w W → Calls Tryd.prog 21 #[.agg #[.slice a2 n2 c2]] W fun e w' => e = .returned (.tuple #[.int .i64 (szN ys : Int), .int .i64 0]) ∧ Below W.heap.size W w' := fun W hW => by
    have := natBits_any a2 n2 c2 ys W (h2.below hW)
    unfold bitsN at this
    rwa [if_pos q2, q2] at this
  have cE : ∀ W : World, Below w.heap.size w W → Calls Tryd.prog 22 #[.agg #[.slice a2 n2 c2]] W fun e w' => e = .returned (.int .i64 (tz (val ys) : Int)) ∧ Below W.heap.size W w' := fun W hW => exEven_any a2 n2 c2 ys W (h2.below hW) hv l2 (hT.below hW)
  have HI : Hid (ofI s xs ys = true) := Lib.hid (by unfold ofI; rw [hr, decide_eq_true hp]; rfl)
  have hm := mkE_of (x := 1 - (szN ys : Int)) h1.ok q1 (by omega) (by omega)
  have cM : ∀ W : World, Below w.heap.size w W → Calls Tryd.prog 23 #[.bool s, .agg #[.slice a1 n1 c1], .int .i64 (1 - (szN ys : Int))] W (Made s xs (1 - (szN ys : Int)) W) := fun W hW => exMake_any s a1 n1 c1 xs _ W (h1.below hW) (hT.below hW)
  have ht := tz_lt h2.ok hv
  generalize hZ : szN ys = Z at z1 z4 cB hp hm cM
  generalize hU : tz (val ys) = U at ht cE hp hm cM
  have HZ := Lib.hid hZ
  have HU := Lib.hid hU
  clear hZ hU z2 z3 hr q1 q2 q3 q4 q5 hv
  have HM := Lib.hid hm
  clear hm
  have hq : ((U : Int) != (Z : Int) - 1) = false := by simp; omega
  clear hp
  go_enter Tryd.func6, Tryd.ntmps6
  go_wp2_with fail
  have hM := more (more (Below.refl w.heap.size w) (.cells #[.bool s, .slice a1 n1 c1, .slice a2 n2 c2] 28)) (.cells #[.bool false, .slice none 0 0, .int .i64 0] 26)
  refine (cK _ hM).mono ?_
  rintro e w1 ⟨rfl, hb1⟩
  have hW := next hM hb1
  have A := ((box3_new w (.bool s) (.slice a1 n1 c1) (.slice a2 n2 c2) 28).alloc (.cells #[.bool false, .slice none 0 0, .int .i64 0] 26)).stay hb1
  have B := (box3_new (w.alloc (.cells #[.bool s, .slice a1 n1 c1, .slice a2 n2 c2] 28)) (.bool false) (.slice none 0 0) (.int .i64 0) 26).stay hb1
  rw [World.size_alloc] at B
  have hBl := B.lt
  clear hM hb1
  have ⟨p0, p1, p2, _, _, _⟩ := A
  go_wp2_with fail
  refine (cB _ hW).mono ?_
  rintro e w2 ⟨rfl, hb2⟩
  replace hW := next hW hb2
  replace A := A.stay hb2
  replace B := B.stay hb2
  have ⟨p3, p4, p5, _, _, _⟩ := A
  clear p0 p1 p2
  go_wp2_with fail
  refine (cE _ hW).mono ?_
  rintro e w3 ⟨rfl, hb3⟩
  replace hW := next hW hb3
  replace A := A.stay hb3
  replace B := B.stay hb3
  clear p3 p4 p5
  have hBl3 := B.lt
  have ⟨p0, p1, p2, _, _, _⟩ := A
  go_wp2_with fail
  refine (cM _ hW).mono ?_
  rintro e w4 ⟨a4, n4, c4, rfl, F4, hb4⟩
  replace hW := next hW hb4
  replace B := B.stay hb4
  have hBl4 := B.lt
  have hs4 := hb4.size
  rw [HM.out]
  replace hW := more hW (.cells #[.bool (mkS s xs (1 - (Z : Int))), .slice a4 n4 c4, .int .i64 (mkX xs (1 - (Z : Int)))] 26)
  replace B := B.alloc (.cells #[.bool (mkS s xs (1 - (Z : Int))), .slice a4 n4 c4, .int .i64 (mkX xs (1 - (Z : Int)))] 26)
  have F5 := F4.alloc (.cells #[.bool (mkS s xs (1 - (Z : Int))), .slice a4 n4 c4, .int .i64 (mkX xs (1 - (Z : Int)))] 26)
  have Y := box3_new w4 (.bool (mkS s xs (1 - (Z : Int)))) (.slice a4 n4 c4) (.int .i64 (mkX xs (1 - (Z : Int)))) 26
  go_upto_region 8 with fail
  generalize w4.alloc (.cells #[.bool (mkS s xs (1 - (Z : Int))), .slice a4 n4 c4, .int .i64 (mkX xs (1 - (Z : Int)))] 26) = w5 at hW B F5 Y ⊢
  have ⟨y0, y1, y2, _, _, _⟩ := Y
  have ⟨b0, b1, b2, bz0, bz1, bz2⟩ := B
  go_wp2
  have ⟨t0, t1, t2⟩ := B.set (.bool (mkS s xs (1 - (Z : Int)))) (.slice a4 n4 c4) (.int .i64 (mkX xs (1 - (Z : Int))))
  refine bodyPost_ret (v := .tuple #[.agg #[.bool (mkS s xs (1 - (Z : Int))), .slice a4 n4 c4, .int .i64 (mkX xs (1 - (Z : Int)))], .bool true, .int .i64 0]) (by simp [results, Tryd.results6, go_sem, t0, t1, t2]) rfl ?_
  refine ofA_yes HI.out (by rw [HZ.out]) ((((F5.setCell (by simp; omega) _).setCell (by simp; omega) _).setCell (by simp; omega) _).mono (by omega)) (((hW.setCell (by simp) _).setCell (by simp) _).setCell (by simp) _)

theorem exOf_any (s : Bool) (a1 a2 : Option Addr) (n1 n2 c1 c2 : Nat) (xs ys : List Nat) (w : World) (h1 : Sl w a1 n1 c1 xs) (h2 : Sl w a2 n2 c2 ys) (hT : Tab w) :
    Calls Tryd.prog 6 #[.agg #[.bool s, .slice a1 n1 c1, .slice a2 n2 c2]] w (OfA s xs ys w) := by
  by_cases hr : ratB s xs ys = true
  · by_cases hp : tz (val ys) + 1 = szN ys
    · exact exOf_yes s a1 a2 n1 n2 c1 c2 xs ys w h1 h2 hT hr hp
    · exact exOf_no2 s a1 a2 n1 n2 c1 c2 xs ys w h1 h2 hT hr hp
  · exact exOf_no1 s a1 a2 n1 n2 c1 c2 xs ys w h1 h2 hT (by simpa using hr)

end Go.Proofs.YteoceoepakfgiaaDoor
