/-
  Contracts: Ratio of exact and of the reference. (Printed by wip/gen/ratio.py.) Contracts: Of of exact and of the reference. (Printed by wip/gen/of.py.)
-/
import Derived.Test.YtklibjdhlmdkpaaGreatDoorQbIMI17
import Derived.Test.YtklibjdhlmdkpaaGreatDoorQbINbI
import Derived.Test.YtklibjdhlmdkpaaGreatDoorQbIMI12
import Derived.Test.YtklibjdhlmdkpaaGreatDoorQbIMI2
import Derived.Test.YtklibjdhlmdkpaaGreatDoorQbIUps
import Derived.Test.YtklibjdhlmdkpaaGreatDoorQbIMI1
import Derived.Test.YtklibjdhlmdkpaaGreatDoorQbIVals
import Derived.Test.YtklibjdhlmdkpaaGreatDoorQbINbU
import Derived.Test.YtklibjdhlmdkpaaGreatDoorQbIMI18
import Derived.Test.YtklibjdhlmdkpaaGreatDoorQbIRdA
import Derived.Deep.DrawnRows
import Derived.Test.YtklibjdhlmdkpaaGreatDoorQbIRdD
import Derived.Test.YtklibjdhlmdkpaaGreatDoorQbIMI14
import Derived.Deep.RegionHeld3
namespace Go.Proofs.YtklibjdhlmdkpaaGreatDoor

open Go.RowKit Go.Lb

/-- A dyadic as a fraction: above, below the line; may it be told; the error. -/
def raN (xs : List Nat) (x : Int) : Nat := val xs * 2 ^ (max 0 x).toNat

def raD (x : Int) : Nat := 2 ^ (max 0 (-x)).toNat

def raB (s : Bool) (xs : List Nat) (x : Int) : Bool := decide (dchk s xs x = 0 ∧ bigE (raN xs x) = 0 ∧ bigE (raD x) = 0)

def raE (s : Bool) (xs : List Nat) (x : Int) : Int := if dchk s xs x ≠ 0 then dchk s xs x else if raB s xs x = true then 0 else 4

/-- What Ratio answers. -/
def RatA (s : Bool) (xs : List Nat) (x : Int) (w : World) : Ending → World → Prop :=
  Rtn (raB s xs x && s) (if raB s xs x = true then raN xs x else 0) (if raB s xs x = true then raD x else 0) (raE s xs x) w

theorem ratA_no {s : Bool} {xs : List Nat} {x : Int} {w w' : World} {er : Int} (hb : raB s xs x = false) (he : raE s xs x = er) (h : Below w.heap.size w w') : RatA s xs x w (.returned (.tuple #[.agg #[.bool false, .slice none 0 0, .slice none 0 0], .int .i64 er])) w' := by
  unfold RatA
  rw [hb, he]
  exact rtn_no h

theorem ratA_yes {s : Bool} {xs : List Nat} {x : Int} {w w' : World} {e : Ending} (hb : raB s xs x = true) (h : Rtn s (raN xs x) (raD x) 0 w e w') : RatA s xs x w e w' := by
  have he : raE s xs x = 0 := by
    unfold raE
    rw [if_neg (by have := (of_decide_eq_true hb).1; simp [this]), if_pos hb]
  unfold RatA
  rw [hb, he]
  exact h

theorem raE_dchk {s : Bool} {xs : List Nat} {x : Int} (h : dchk s xs x ≠ 0) : raB s xs x = false ∧ raE s xs x = dchk s xs x := ⟨decide_eq_false (fun hh => h hh.1), by unfold raE; rw [if_pos h]⟩

theorem raE_big {s : Bool} {xs : List Nat} {x : Int} (h : dchk s xs x = 0) (h2 : ¬ (bigE (raN xs x) = 0 ∧ bigE (raD x) = 0)) : raB s xs x = false ∧ raE s xs x = 4 := by
  have hb : raB s xs x = false := decide_eq_false (fun hh => h2 hh.2)
  refine ⟨hb, ?_⟩
  unfold raE
  rw [if_neg (by simp [h]), if_neg (by rw [hb]; decide)]

theorem bigE_ne {N : Nat} (h : bigE N ≠ 0) : bigE N = 4 := by
  unfold bigE at h ⊢
  split at h
  · exact absurd rfl h
  · rename_i hh; rw [if_neg hh]

/-- What the statement that reckons the lower number leaves. -/
def DenQ (e : Int) (N : Nat) (wq : World) (v6 v7 : Value) (wx : World) : Prop :=
  ∃ a2 n2 c2 b7, v6 = .int .i64 e ∧ v7 = .pointer (some ⟨b7, 0, none⟩) ∧ wx.cell? ⟨b7, 0, none⟩ = some (.slice a2 n2 c2) ∧ Fr 38 wx wq.heap.size a2 n2 c2 (limbs N) ∧ Below wq.heap.size wq wx

set_option maxRecDepth 100000 in
set_option maxHeartbeats 4000000 in
theorem exRatio_no1 (s : Bool) (ao : Option Addr) (n c : Nat) (x : Int) (xs : List Nat) (w : World) (h : Sl w ao n c xs) (hd : dchk s xs x ≠ 0) :
    Calls Tryz.prog 89 #[.agg #[.bool s, .slice ao n c, .int .i64 x]] w (RatA s xs x w) := by
  have hcB : (dchk s xs x != 0) = true := by simp [hd]
  have HR := Lib.hid (raE_dchk hd)
  clear hd
  go_enter Tryz.func89, Tryz.ntmps89
  go_wp2_with fail
  refine (dyCheck_any s ao n c x xs _ ((h.alloc _).alloc _)).mono ?_
  rintro e w1 ⟨rfl, hb1⟩
  have hW := next (more (more (Below.refl _ _) _) _) hb1
  have A := ((box3_new w (.bool s) (.slice ao n c) (.int .i64 x) 113).alloc (.cells #[.bool false, .slice none 0 0, .slice none 0 0] 131)).stay hb1
  have B := (box3_new (w.alloc (.cells #[.bool s, .slice ao n c, .int .i64 x] 113)) (.bool false) (.slice none 0 0) (.slice none 0 0) 131).stay hb1
  rw [World.size_alloc] at B
  have hBl := B.lt
  have ⟨b0, b1, b2, bz0, bz1, bz2⟩ := B
  go_wp2
  have ⟨t0, t1, t2⟩ := B.set (.bool false) (.slice none 0 0) (.slice none 0 0)
  refine bodyPost_ret (v := .tuple #[.agg #[.bool false, .slice none 0 0, .slice none 0 0], .int .i64 (dchk s xs x)]) (by simp [results, Tryz.results89, go_sem, t0, t1, t2]) rfl (ratA_no HR.out.1 HR.out.2 (((hW.setCell (by simp) _).setCell (by simp) _).setCell (by simp) _))

set_option maxRecDepth 100000 in
set_option maxHeartbeats 4000000 in
theorem exRatio_no2 (s : Bool) (ao : Option Addr) (n c : Nat) (x : Int) (xs : List Nat) (w : World) (h : Sl w ao n c xs) (hd : dchk s xs x = 0) (hb : bigE (raN xs x) ≠ 0) :
    Calls Tryz.prog 89 #[.agg #[.bool s, .slice ao n c, .int .i64 x]] w (RatA s xs x w) := by
  have hc := dchk_chk hd
  obtain ⟨hx1, hx2⟩ := dchk_exp hd
  have cU : ∀ W : World, Sl W ao n c xs → Calls Tryz.prog 191 #[.agg #[.slice ao n c], .int .i64 (max 0 x)] W (Numb W (bigN (raN xs x)) (bigE (raN xs x))) := fun W hS => natUp_i ao n c (max 0 x) (by omega) xs W hS hc
  have cD : ∀ (W : World) (a k c : Nat) (ao : Option Addr), Sl W ao k c (limbs 1) → Calls Tryz.prog 191 #[.agg #[.slice ao k c], .int .i64 (max 0 (-x))] W (Numb W (bigN (raD x)) (bigE (raD x))) := fun W a k c ao hS => by
    have := natUp_i ao k c (max 0 (-x)) (by omega) (limbs 1) W hS (chk_limbs (by decide))
    rwa [val_limbs', Nat.one_mul] at this
  have cO : ∀ W : World, Calls Tryz.prog 172 #[.int .u64 1] W fun e w' => ∃ ao k c, e = .returned (.agg #[.slice ao k c]) ∧ Fr 38 w' W.heap.size ao k c (limbs 1) ∧ Below W.heap.size W w' := fun W => natOf_any 1 W (by decide)
  have hwx : IntKind.i64.wrap (-x) = -x := IntWalk.i64_in _ (by constructor <;> omega)
  have HX := Lib.hid hd
  have hcB : (bigE (raN xs x) != 0) = true := by simp [hb]
  have HR := Lib.hid (raE_big hd (fun h => hb h.1))
  have h4 := bigE_ne hb
  rw [h4] at cU hcB
  clear hb h4
  go_enter Tryz.func89, Tryz.ntmps89
  go_wp2_with fail
  refine (dyCheck_any s ao n c x xs _ ((h.alloc _).alloc _)).mono ?_
  rintro e w1 ⟨rfl, hb1⟩
  have hW := next (more (more (Below.refl _ _) _) _) hb1
  have A := ((box3_new w (.bool s) (.slice ao n c) (.int .i64 x) 113).alloc (.cells #[.bool false, .slice none 0 0, .slice none 0 0] 131)).stay hb1
  have B := (box3_new (w.alloc (.cells #[.bool s, .slice ao n c, .int .i64 x] 113)) (.bool false) (.slice none 0 0) (.slice none 0 0) 131).stay hb1
  rw [World.size_alloc] at B
  have hBl := B.lt
  rw [HX.out]
  clear hd
  have ⟨p0, p1, p2, _, _, _⟩ := A
  go_wp2_with fail
  refine (cU _ (h.below hW)).mono ?_
  rintro e w2 ⟨o1, k1, e1, rfl, F1, hb2⟩
  have hs1 := hW.size
  replace hW := next hW hb2
  replace A := A.stay hb2
  replace B := B.stay hb2
  clear p0 p1 p2
  have H1 : ∀ g, blkOf o1 = some g → g < w2.heap.size := fun g hg => (fr_lt F1 hg).2
  replace B := B.alloc (.cells #[.slice o1 k1 e1] 111)
  have ⟨b0, b1, b2, bz0, bz1, bz2⟩ := B
  go_wp2
  replace hW := more hW (.cells #[.slice o1 k1 e1] 111)
  have ⟨t0, t1, t2⟩ := B.set (.bool false) (.slice none 0 0) (.slice none 0 0)
  refine bodyPost_ret (v := .tuple #[.agg #[.bool false, .slice none 0 0, .slice none 0 0], .int .i64 (4)]) (by simp [results, Tryz.results89, go_sem, t0, t1, t2]) rfl (ratA_no HR.out.1 HR.out.2 (((hW.setCell (by simp) _).setCell (by simp) _).setCell (by simp) _))

set_option maxRecDepth 100000 in
set_option maxHeartbeats 4000000 in
theorem exRatio_no3 (s : Bool) (ao : Option Addr) (n c : Nat) (x : Int) (xs : List Nat) (w : World) (h : Sl w ao n c xs) (hd : dchk s xs x = 0) (hb : bigE (raN xs x) = 0) (hb2 : bigE (raD x) ≠ 0) :
    Calls Tryz.prog 89 #[.agg #[.bool s, .slice ao n c, .int .i64 x]] w (RatA s xs x w) := by
  have hc := dchk_chk hd
  obtain ⟨hx1, hx2⟩ := dchk_exp hd
  have cU : ∀ W : World, Sl W ao n c xs → Calls Tryz.prog 191 #[.agg #[.slice ao n c], .int .i64 (max 0 x)] W (Numb W (bigN (raN xs x)) (bigE (raN xs x))) := fun W hS => natUp_i ao n c (max 0 x) (by omega) xs W hS hc
  have cD : ∀ (W : World) (a k c : Nat) (ao : Option Addr), Sl W ao k c (limbs 1) → Calls Tryz.prog 191 #[.agg #[.slice ao k c], .int .i64 (max 0 (-x))] W (Numb W (bigN (raD x)) (bigE (raD x))) := fun W a k c ao hS => by
    have := natUp_i ao k c (max 0 (-x)) (by omega) (limbs 1) W hS (chk_limbs (by decide))
    rwa [val_limbs', Nat.one_mul] at this
  have cO : ∀ W : World, Calls Tryz.prog 172 #[.int .u64 1] W fun e w' => ∃ ao k c, e = .returned (.agg #[.slice ao k c]) ∧ Fr 38 w' W.heap.size ao k c (limbs 1) ∧ Below W.heap.size W w' := fun W => natOf_any 1 W (by decide)
  have hwx : IntKind.i64.wrap (-x) = -x := IntWalk.i64_in _ (by constructor <;> omega)
  have HX := Lib.hid hd
  have hcB : (bigE (raD x) != 0) = true := by simp [hb2]
  have HR := Lib.hid (raE_big hd (fun h => hb2 h.2))
  have h4 := bigE_ne hb2
  rw [h4] at cD hcB
  rw [hb] at cU
  have H4 := Lib.hid h4
  clear hb hb2 h4
  go_enter Tryz.func89, Tryz.ntmps89
  go_wp2_with fail
  refine (dyCheck_any s ao n c x xs _ ((h.alloc _).alloc _)).mono ?_
  rintro e w1 ⟨rfl, hb1⟩
  have hW := next (more (more (Below.refl _ _) _) _) hb1
  have A := ((box3_new w (.bool s) (.slice ao n c) (.int .i64 x) 113).alloc (.cells #[.bool false, .slice none 0 0, .slice none 0 0] 131)).stay hb1
  have B := (box3_new (w.alloc (.cells #[.bool s, .slice ao n c, .int .i64 x] 113)) (.bool false) (.slice none 0 0) (.slice none 0 0) 131).stay hb1
  rw [World.size_alloc] at B
  have hBl := B.lt
  rw [HX.out]
  clear hd
  have ⟨p0, p1, p2, _, _, _⟩ := A
  go_wp2_with fail
  refine (cU _ (h.below hW)).mono ?_
  rintro e w2 ⟨o1, k1, e1, rfl, F1, hb2⟩
  have hs1 := hW.size
  replace hW := next hW hb2
  replace A := A.stay hb2
  replace B := B.stay hb2
  clear p0 p1 p2
  have H1 : ∀ g, blkOf o1 = some g → g < w2.heap.size := fun g hg => (fr_lt F1 hg).2
  go_upto_region 7 with fail
  have X1 := box1_new w2 (.slice o1 k1 e1) 111
  have V := more hW (.cells #[.slice o1 k1 e1] 111)
  have hs2 := hb2.size
  replace A := A.alloc (.cells #[.slice o1 k1 e1] 111)
  replace B := B.alloc (.cells #[.slice o1 k1 e1] 111)
  replace F1 := F1.alloc (.cells #[.slice o1 k1 e1] 111)
  have hqs := X1.lt
  clear hW hb2
  generalize w2.alloc (.cells #[.slice o1 k1 e1] 111) = wq at X1 V A B F1 hqs ⊢
  generalize w2.heap.size = q at X1 hqs H1 hs2 ⊢
  have ⟨p0, p1, p2, _, _, _⟩ := A
  go_cut [6, 7] from 27 (fun v6 v7 wx => DenQ 4 (bigN (raD x)) wq v6 v7 wx)
  case first =>
    have kS : ∀ w' : World, Below wq.heap.size wq w' → (w'.cell? ⟨w.heap.size, 0, none⟩ = some (.bool s) ∧ w'.cell? ⟨w.heap.size, 1, none⟩ = some (.slice ao n c) ∧ w'.cell? ⟨w.heap.size, 2, none⟩ = some (.int .i64 x) ∧ Below wq.heap.size wq w') := fun w' hb => ⟨cellStay A.c0 hb, cellStay A.c1 hb, cellStay A.c2 hb, hb⟩
    go_region_held3 (fun w' => w'.cell? ⟨w.heap.size, 0, none⟩ = some (.bool s) ∧ w'.cell? ⟨w.heap.size, 1, none⟩ = some (.slice ao n c) ∧ w'.cell? ⟨w.heap.size, 2, none⟩ = some (.int .i64 x) ∧ Below wq.heap.size wq w')
      ((refine kS _ ?_; (repeat (with_reducible (first | exact hW6 | exact hW5 | exact Below.refl _ _ | refine Below.drew ?_ | refine more ?_ _ | refine Below.setCell ?_ ?_ _ | exact Nat.le_refl _ | exact hs5 | exact Nat.le_trans hs5 hs6))); done))
      (first
      | (go_at_call 172; (with_reducible refine (cO _).mono ?_); rintro en w5 ⟨a5, k5, c5, rfl, F5, hb5⟩; have hW5 : Below wq.heap.size wq w5 := (by first | exact hb5 | exact undrew hb5 | exact next (more (Below.refl _ _) _) hb5 | exact next (more (Below.refl _ _) _).drew hb5); (try have Z := (box1_new wq (.slice none 0 0) 111).stay (by first | exact hb5 | exact undrew hb5)); (try have ⟨z0, z1⟩ := Z); have hs5 := hW5.size)
      | (go_at_call 191; (with_reducible refine (cD _ 0 _ _ _ ?_).mono ?_); (first | exact F5.sl | exact F5.sl.drew | exact F5.sl.alloc _); rintro en w6 ⟨a6, k6, c6, rfl, F6, hb6⟩; have h56 : Below w5.heap.size w5 w6 := (by first | exact hb6 | exact next (more (Below.refl _ _) _) hb6); have hW6 := next hW5 h56; have hs6 := h56.size; (try have ZZ := Z.stay h56); (try have ⟨y0, y1⟩ := ZZ); (try have YY := (box1_new w5 (.slice none 0 0) 111).stay hb6); (try have ⟨y2, y3⟩ := YY)))
    all_goals go_split_ands
    all_goals go_wp2
    all_goals go_meet
    all_goals (try have hzl := ZZ.lt)
    all_goals (try have hyl := YY.lt)
    all_goals (try have hzz := Z.lt)
    all_goals (first
      | exact ⟨a6, k6, c6, _, rfl, rfl, by simp, (F6.alloc _).mono hs5, more hW6 _⟩
      | exact ⟨a6, k6, c6, _, rfl, rfl, ZZ.set _, (F6.setCell (by simp; omega) _).mono hs5, hW6.setCell (by simp) _⟩
      | exact ⟨a6, k6, c6, _, rfl, rfl, YY.set _, (F6.setCell (by simp) _).mono (by simp; omega), hW6.setCell (by simp; omega) _⟩
      | trace_state)
  case rest =>
    obtain ⟨a2, n2, c2, b7, rfl, rfl, Y1, F2, hWc⟩ := hcut
    replace F1 := F1.below hWc
    replace A := A.stay hWc
    replace B := B.stay hWc
    replace X1 := X1.stay hWc
    have hW := next V hWc
    have hWs := hWc.size
    have ⟨b0, b1, b2, bz0, bz1, bz2⟩ := B
    go_wp2
    have ⟨t0, t1, t2⟩ := B.set (.bool false) (.slice none 0 0) (.slice none 0 0)
    refine bodyPost_ret (v := .tuple #[.agg #[.bool false, .slice none 0 0, .slice none 0 0], .int .i64 (4)]) (by simp [results, Tryz.results89, go_sem, t0, t1, t2]) rfl (ratA_no HR.out.1 HR.out.2 (((hW.setCell (by simp) _).setCell (by simp) _).setCell (by simp) _))

set_option maxRecDepth 100000 in
set_option maxHeartbeats 4000000 in
theorem exRatio_yes (s : Bool) (ao : Option Addr) (n c : Nat) (x : Int) (xs : List Nat) (w : World) (h : Sl w ao n c xs) (hd : dchk s xs x = 0) (hb : bigE (raN xs x) = 0) (hb2 : bigE (raD x) = 0) :
    Calls Tryz.prog 89 #[.agg #[.bool s, .slice ao n c, .int .i64 x]] w (RatA s xs x w) := by
  have hc := dchk_chk hd
  obtain ⟨hx1, hx2⟩ := dchk_exp hd
  have cU : ∀ W : World, Sl W ao n c xs → Calls Tryz.prog 191 #[.agg #[.slice ao n c], .int .i64 (max 0 x)] W (Numb W (bigN (raN xs x)) (bigE (raN xs x))) := fun W hS => natUp_i ao n c (max 0 x) (by omega) xs W hS hc
  have cD : ∀ (W : World) (a k c : Nat) (ao : Option Addr), Sl W ao k c (limbs 1) → Calls Tryz.prog 191 #[.agg #[.slice ao k c], .int .i64 (max 0 (-x))] W (Numb W (bigN (raD x)) (bigE (raD x))) := fun W a k c ao hS => by
    have := natUp_i ao k c (max 0 (-x)) (by omega) (limbs 1) W hS (chk_limbs (by decide))
    rwa [val_limbs', Nat.one_mul] at this
  have cO : ∀ W : World, Calls Tryz.prog 172 #[.int .u64 1] W fun e w' => ∃ ao k c, e = .returned (.agg #[.slice ao k c]) ∧ Fr 38 w' W.heap.size ao k c (limbs 1) ∧ Below W.heap.size W w' := fun W => natOf_any 1 W (by decide)
  have hwx : IntKind.i64.wrap (-x) = -x := IntWalk.i64_in _ (by constructor <;> omega)
  have HX := Lib.hid hd
  have HR := Lib.hid (decide_eq_true (And.intro hd (And.intro hb hb2)) : raB s xs x = true)
  rw [hb2, bigN_of hb2] at cD
  rw [hb, bigN_of hb] at cU
  clear hb hb2
  go_enter Tryz.func89, Tryz.ntmps89
  go_wp2_with fail
  refine (dyCheck_any s ao n c x xs _ ((h.alloc _).alloc _)).mono ?_
  rintro e w1 ⟨rfl, hb1⟩
  have hW := next (more (more (Below.refl _ _) _) _) hb1
  have A := ((box3_new w (.bool s) (.slice ao n c) (.int .i64 x) 113).alloc (.cells #[.bool false, .slice none 0 0, .slice none 0 0] 131)).stay hb1
  have B := (box3_new (w.alloc (.cells #[.bool s, .slice ao n c, .int .i64 x] 113)) (.bool false) (.slice none 0 0) (.slice none 0 0) 131).stay hb1
  rw [World.size_alloc] at B
  have hBl := B.lt
  rw [HX.out]
  clear hd
  have ⟨p0, p1, p2, _, _, _⟩ := A
  go_wp2_with fail
  refine (cU _ (h.below hW)).mono ?_
  rintro e w2 ⟨o1, k1, e1, rfl, F1, hb2⟩
  have hs1 := hW.size
  replace hW := next hW hb2
  replace A := A.stay hb2
  replace B := B.stay hb2
  clear p0 p1 p2
  have H1 : ∀ g, blkOf o1 = some g → g < w2.heap.size := fun g hg => (fr_lt F1 hg).2
  go_upto_region 7 with fail
  have X1 := box1_new w2 (.slice o1 k1 e1) 111
  have V := more hW (.cells #[.slice o1 k1 e1] 111)
  have hs2 := hb2.size
  replace A := A.alloc (.cells #[.slice o1 k1 e1] 111)
  replace B := B.alloc (.cells #[.slice o1 k1 e1] 111)
  replace F1 := F1.alloc (.cells #[.slice o1 k1 e1] 111)
  have hqs := X1.lt
  clear hW hb2
  generalize w2.alloc (.cells #[.slice o1 k1 e1] 111) = wq at X1 V A B F1 hqs ⊢
  generalize w2.heap.size = q at X1 hqs H1 hs2 ⊢
  have ⟨p0, p1, p2, _, _, _⟩ := A
  go_cut [6, 7] from 27 (fun v6 v7 wx => DenQ 0 (raD x) wq v6 v7 wx)
  case first =>
    have kS : ∀ w' : World, Below wq.heap.size wq w' → (w'.cell? ⟨w.heap.size, 0, none⟩ = some (.bool s) ∧ w'.cell? ⟨w.heap.size, 1, none⟩ = some (.slice ao n c) ∧ w'.cell? ⟨w.heap.size, 2, none⟩ = some (.int .i64 x) ∧ Below wq.heap.size wq w') := fun w' hb => ⟨cellStay A.c0 hb, cellStay A.c1 hb, cellStay A.c2 hb, hb⟩
    go_region_held3 (fun w' => w'.cell? ⟨w.heap.size, 0, none⟩ = some (.bool s) ∧ w'.cell? ⟨w.heap.size, 1, none⟩ = some (.slice ao n c) ∧ w'.cell? ⟨w.heap.size, 2, none⟩ = some (.int .i64 x) ∧ Below wq.heap.size wq w')
      ((refine kS _ ?_; (repeat (with_reducible (first | exact hW6 | exact hW5 | exact Below.refl _ _ | refine Below.drew ?_ | refine more ?_ _ | refine Below.setCell ?_ ?_ _ | exact Nat.le_refl _ | exact hs5 | exact Nat.le_trans hs5 hs6))); done))
      (first
      | (go_at_call 172; (with_reducible refine (cO _).mono ?_); rintro en w5 ⟨a5, k5, c5, rfl, F5, hb5⟩; have hW5 : Below wq.heap.size wq w5 := (by first | exact hb5 | exact undrew hb5 | exact next (more (Below.refl _ _) _) hb5 | exact next (more (Below.refl _ _) _).drew hb5); (try have Z := (box1_new wq (.slice none 0 0) 111).stay (by first | exact hb5 | exact undrew hb5)); (try have ⟨z0, z1⟩ := Z); have hs5 := hW5.size)
      | (go_at_call 191; (with_reducible refine (cD _ 0 _ _ _ ?_).mono ?_); (first | exact F5.sl | exact F5.sl.drew | exact F5.sl.alloc _); rintro en w6 ⟨a6, k6, c6, rfl, F6, hb6⟩; have h56 : Below w5.heap.size w5 w6 := (by first | exact hb6 | exact next (more (Below.refl _ _) _) hb6); have hW6 := next hW5 h56; have hs6 := h56.size; (try have ZZ := Z.stay h56); (try have ⟨y0, y1⟩ := ZZ); (try have YY := (box1_new w5 (.slice none 0 0) 111).stay hb6); (try have ⟨y2, y3⟩ := YY)))
    all_goals go_split_ands
    all_goals go_wp2
    all_goals go_meet
    all_goals (try have hzl := ZZ.lt)
    all_goals (try have hyl := YY.lt)
    all_goals (try have hzz := Z.lt)
    all_goals (first
      | exact ⟨a6, k6, c6, _, rfl, rfl, by simp, (F6.alloc _).mono hs5, more hW6 _⟩
      | exact ⟨a6, k6, c6, _, rfl, rfl, ZZ.set _, (F6.setCell (by simp; omega) _).mono hs5, hW6.setCell (by simp) _⟩
      | exact ⟨a6, k6, c6, _, rfl, rfl, YY.set _, (F6.setCell (by simp) _).mono (by simp; omega), hW6.setCell (by simp; omega) _⟩
      | trace_state)
  case rest =>
    obtain ⟨a2, n2, c2, b7, rfl, rfl, Y1, F2, hWc⟩ := hcut
    replace F1 := F1.below hWc
    replace A := A.stay hWc
    replace B := B.stay hWc
    replace X1 := X1.stay hWc
    have hW := next V hWc
    have hWs := hWc.size
    have ⟨x0, _⟩ := X1
    have ⟨p0, p1, p2, _, _, _⟩ := A
    have ⟨b0, b1, b2, bz0, bz1, bz2⟩ := B
    go_wp2
    have ⟨t0, t1, t2⟩ := B.set (.bool s) (.slice o1 k1 e1) (.slice a2 n2 c2)
    refine bodyPost_ret (v := .tuple #[.agg #[.bool s, .slice o1 k1 e1, .slice a2 n2 c2], .int .i64 0]) (by simp [results, Tryz.results89, go_sem, t0, t1, t2]) rfl ?_
    refine ratA_yes HR.out ⟨_, _, _, _, _, _, rfl, (((F1.setCell (by simp; omega) _).setCell (by simp; omega) _).setCell (by simp; omega) _).mono (by omega), (((F2.setCell (by simp; omega) _).setCell (by simp; omega) _).setCell (by simp; omega) _).mono (by omega), ?_, ((hW.setCell (by simp) _).setCell (by simp) _).setCell (by simp) _⟩
    intro g g1 g2
    have q1 := H1 g g1
    have q2 := (fr_lt F2 g2).1
    omega

theorem exRatio_any (s : Bool) (ao : Option Addr) (n c : Nat) (x : Int) (xs : List Nat) (w : World) (h : Sl w ao n c xs) :
    Calls Tryz.prog 89 #[.agg #[.bool s, .slice ao n c, .int .i64 x]] w (RatA s xs x w) := by
  by_cases hd : dchk s xs x = 0
  · by_cases hb : bigE (raN xs x) = 0
    · by_cases hb2 : bigE (raD x) = 0
      · exact exRatio_yes s ao n c x xs w h hd hb hb2
      · exact exRatio_no3 s ao n c x xs w h hd hb hb2
    · exact exRatio_no2 s ao n c x xs w h hd hb
  · exact exRatio_no1 s ao n c x xs w h hd

end Go.Proofs.YtklibjdhlmdkpaaGreatDoor

namespace Go.Proofs.YtklibjdhlmdkpaaGreatDoor

open Go.RowKit Go.Lb

end Go.Proofs.YtklibjdhlmdkpaaGreatDoor

/-
  Contracts of numeral/numeralref05: power, log. Contracts of numeral/numeralref05: whole (and NewRat of numeralbig).
-/
namespace Go.Proofs.YtklibjdhlmdkpaaGreatDoor

open Go.RowKit Go.Lb

theorem p2_int (k : Nat) : (((1 : Int) * 2 ^ k : Int) : Rat) = p2 (k : Int) := by
  rw [p2_nat, Int.one_mul, show ((2 : Int) ^ k) = ((2 ^ k : Nat) : Int) by simp]
  rfl

set_option maxRecDepth 100000 in
set_option maxHeartbeats 2000000 in
theorem nbPower_any (n : Int) (w : World) (h1 : -8388608 ≤ n) (h2 : n ≤ 8388608) :
    Calls Tryz.prog 210 #[.int .i64 n] w (MkQ 38 (p2 n) w) := by
  obtain ⟨k, hk⟩ : ∃ k : Nat, (k : Int) = max n (-n) := ⟨n.natAbs, by omega⟩
  have hkb : k ≤ 8388608 := by omega
  have hwn : IntKind.i64.wrap (-n) = -n := IntWalk.i64_in _ (by omega)
  have hwk : IntKind.u64.wrap (k : Int) = (k : Int) := IntWalk.u64_in _ (by omega)
  obtain ⟨W1, hW1⟩ : ∃ W1 : World, W1 = w.alloc (.cells #[.bool false, .slice none 0 0, .slice none 0 0] 153) := ⟨_, rfl⟩
  obtain ⟨W2, hW2⟩ : ∃ W2 : World, W2 = W1.alloc (.cells #[.bool false, .slice none 0 0] 151) := ⟨_, rfl⟩
  have hs1 : W1.heap.size = w.heap.size + 1 := by rw [hW1]; simp
  have hz : Zc W2 (w.heap.size + 1) := by rw [← hs1, hW2]; exact zc_new _ _ _ _
  have hr : Res3 W1 w.heap.size := by rw [hW1]; exact res_new _ _ _ _ _
  have hb1 : Below w.heap.size w W1 := hW1 ▸ more (Below.refl _ _) _
  have hb2 : Below W1.heap.size W1 W2 := hW2 ▸ more (Below.refl _ _) _
  have HN := nbNewZ_any 1 W2 (by decide)
  have hq : p2 n = if n < 0 then (p2 (k : Int))⁻¹ else p2 (k : Int) := by
    split
    · rw [← p2_neg]; congr 1; omega
    · congr 1; omega
  have hp := p2_parts (k : Int)
  have l1 : ln (p2 (k : Int)).num.natAbs ≤ 4294967296 := by rw [hp.1, Int.natAbs_natCast, Int.toNat_natCast]; have := ln_p2 k; omega
  have l2 : ln (p2 (k : Int)).den ≤ 4294967296 := by
    rw [hp.2]
    have := ln_p2 (-(k : Int)).toNat
    omega
  have HL1 := Lib.hid l1
  have HL2 := Lib.hid l2
  have HQ := Lib.hid hq
  have HS1 := Lib.hid hs1
  have hl2 : ln ((1 : Int) * 2 ^ k).natAbs ≤ 4294967296 := by
    rw [Int.one_mul, show ((2 : Int) ^ k) = ((2 ^ k : Nat) : Int) by simp, Int.natAbs_natCast]
    have := ln_p2 k; omega
  have HL3 := Lib.hid hl2
  clear hp l1 l2 hq hs1 hl2
  generalize hmx : max n (-n) = mx at *
  subst hk
  by_cases hn : n < 0
  all_goals
    go_enter Tryz.func210, Tryz.ntmps210
    go_wp2_with fail
    rw [← hW1, ← hW2]
    clear hW1 hW2
    refine HN.mono ?_
    rintro en w3 ⟨bt, rfl, I1, hb3⟩
    have hL := nbLsh_any (w.heap.size + 1) W1.heap.size W2.heap.size bt k 1 w3 (hz.stay hb3) (by have := hb2.size; have := hb3.size; omega) I1 (by decide) (by omega)
    go_wp2_with fail
    refine hL.mono ?_
    rintro en w4 hS4
    have hb4 : Below W1.heap.size W1 w4 := hS4.below (next hb2 hb3) (by have := hb2.size; have := hb3.size; omega) (by rw [HS1.out]; exact Nat.le_refl _)
    obtain ⟨rfl, I4, _⟩ := hS4.in_ (hz.stay hb3) (by rw [HS1.out]; exact Nat.le_refl _)
    have hT := nbRSetInt_any w.heap.size w.heap.size W1.heap.size (w.heap.size + 1) _ w4 (hr.stay hb4) (Nat.le_refl _) I4 HL3.out
    rw [p2_int] at hT
    go_wp2_with fail
    refine hT.mono ?_
    rintro en w5 ⟨rfl, Q5, hg5⟩
    have hb5 : Below w.heap.size w w5 := (next hb1 hb4).grown hg5 (Nat.le_trans hb1.size hb4.size) (fun k hk => by cases hk; exact Nat.le_refl _)
  · have hI := nbRInv_any w.heap.size w.heap.size w.heap.size w.heap.size (p2 (k : Int)) w5 Q5.res (Nat.le_refl _) Q5 (p2_ne _) HL1.out HL2.out
    go_wp2_with fail
    refine hI.mono ?_
    rintro en w6 ⟨rfl, Q6, hg6⟩
    go_wp2
    go_ret
    refine ⟨_, rfl, ?_, hb5.grown hg6 hb5.size (fun k hk => by cases hk; exact Nat.le_refl _)⟩
    rw [HQ.out, if_pos hn]
    exact Q6
  · go_wp2
    go_ret
    refine ⟨_, rfl, ?_, hb5⟩
    rw [HQ.out, if_neg (by omega)]
    exact Q5

/-- The form's own numbers. -/
theorem nbForm_any (e f : Int) (w : World) :
    Calls Tryz.prog 94 #[.agg #[.int .i64 e, .int .i64 f]] w fun en w' => en = .returned (.bool (formB e f)) ∧ Below w.heap.size w w' := by
  by_cases h1 : 2 ≤ e
  · by_cases h2 : e ≤ 11
    · by_cases h3 : 1 ≤ f
      · by_cases h4 : f ≤ 52
        · have H : Hid (formB e f = true) := Lib.hid (by unfold formB; simp; omega)
          go_enter Tryz.func94, Tryz.ntmps94
          go_wp2
          go_ret
          exact ⟨by rw [H.out]; rfl, more (Below.refl _ _) _⟩
        · have H : Hid (formB e f = false) := Lib.hid (by unfold formB; simp; omega)
          go_enter Tryz.func94, Tryz.ntmps94
          go_wp2
          go_ret
          exact ⟨by rw [H.out]; rfl, more (Below.refl _ _) _⟩
      · have H : Hid (formB e f = false) := Lib.hid (by unfold formB; simp; omega)
        go_enter Tryz.func94, Tryz.ntmps94
        go_wp2
        go_ret
        exact ⟨by rw [H.out]; rfl, more (Below.refl _ _) _⟩
    · have H : Hid (formB e f = false) := Lib.hid (by unfold formB; simp; omega)
      go_enter Tryz.func94, Tryz.ntmps94
      go_wp2
      go_ret
      exact ⟨by rw [H.out]; rfl, more (Below.refl _ _) _⟩
  · have H : Hid (formB e f = false) := Lib.hid (by unfold formB; simp; omega)
    go_enter Tryz.func94, Tryz.ntmps94
    go_wp2
    go_ret
    exact ⟨by rw [H.out]; rfl, more (Below.refl _ _) _⟩

theorem nbBias_any (E : Nat) (f : Int) (w : World) (h1 : 2 ≤ E) (h2 : E ≤ 11) :
    Calls Tryz.prog 202 #[.agg #[.int .i64 (E : Int), .int .i64 f]] w fun en w' => en = .returned (.int .i64 (bsN E : Int)) ∧ Below w.heap.size w w' := by
  have hE : Hid ((bsN E : Int) = 2 ^ (E - 1) - 1) := Lib.hid (by
    unfold bsN
    have := Nat.two_pow_pos (E - 1)
    rw [Int.natCast_sub this]; simp)
  obtain ⟨k, hk⟩ : ∃ k : Nat, k = E - 1 := ⟨_, rfl⟩
  have hk1 : (E : Int) - 1 = (k : Int) := by omega
  have hk2 : k ≤ 10 := by omega
  rw [← hk] at hE
  have hp : (1 : Int) ≤ 2 ^ k ∧ (2 : Int) ^ k ≤ 1024 := by
    have a := Nat.two_pow_pos k
    have b : 2 ^ k ≤ 2 ^ 10 := Nat.pow_le_pow_right (by decide) hk2
    have c : (2 : Int) ^ k = ((2 ^ k : Nat) : Int) := by simp
    rw [c]
    have d : (2 : Nat) ^ 10 = 1024 := by decide
    omega
  have hw1 : IntKind.i64.wrap (2 ^ k) = 2 ^ k := IntWalk.i64_in _ (by omega)
  clear hk
  go_enter Tryz.func202, Tryz.ntmps202
  go_wp2
  go_ret
  exact ⟨by rw [hE.out]; rfl, more (Below.refl _ _) _⟩

end Go.Proofs.YtklibjdhlmdkpaaGreatDoor

namespace Go.Proofs.YtklibjdhlmdkpaaGreatDoor

open Go.RowKit Go.Lb

theorem rest_sign (M : Nat) {D : Nat} (hD : D ≠ 0) : (mkRat (M : Int) D).num.sign = 0 ↔ M = 0 := by
  rw [Int.sign_eq_zero_iff_zero, Rat.num_eq_zero, Rat.mkRat_eq_zero hD]
  omega

theorem rest_half (M : Nat) {D : Nat} (hD : D ≠ 0) : cmpQ (mkRat (M : Int) D) (mkRat 1 2) = cmpN (2 * M) D := by
  have h1 : (mkRat 1 2).num = 1 := by decide
  have h2 : (mkRat 1 2).den = 2 := by decide
  have hc := mk_cross (M : Int) hD
  have hs := (mk_parts (M : Int) hD).2.2
  rw [Int.natAbs_natCast] at hc
  have hp := (mkRat (M : Int) D).den_pos
  rw [cmpQ_cross, h1, h2]
  rw [decide_eq_false (by omega : ¬ (M : Int) < 0)] at hs
  have hs' := of_decide_eq_false hs
  rw [← cmp_mul (a := 2 * M) (b := D) hp, Nat.mul_assoc, ← hc, show 2 * ((mkRat (M : Int) D).num.natAbs * D) = (2 * (mkRat (M : Int) D).num.natAbs) * D by rw [Nat.mul_assoc], Nat.mul_comm D, cmp_mul (Nat.pos_of_ne_zero hD)]
  unfold cmpN
  generalize (mkRat (M : Int) D).num = a at *
  generalize (mkRat (M : Int) D).den = b at *
  (repeat' split) <;> omega

theorem nbHalf_any (w : World) (hT : Tab w) :
    Calls Tryz.prog 218 #[.int .i64 1, .int .i64 2] w (MkQ 38 (mkRat 1 2) w) := by
  obtain ⟨W1, hW1⟩ : ∃ W1 : World, W1 = w.alloc (.cells #[.bool false, .slice none 0 0, .slice none 0 0] 153) := ⟨_, rfl⟩
  have hr : Res3 W1 w.heap.size := by rw [hW1]; exact res_new _ _ _ _ _
  have hb1 : Below w.heap.size w W1 := hW1 ▸ more (Below.refl _ _) _
  have hs1 : w.heap.size < W1.heap.size := by rw [hW1]; simp
  have hF : Calls Tryz.prog 281 #[.pointer (some ⟨w.heap.size, 0, none⟩), .int .i64 1, .int .i64 2] W1 (MkQ 38 (mkRat 1 2) w) := by
    clear hW1
    have HN1 := nbNewZ_any 1 W1 (by decide)
    go_enter Tryz.func281, Tryz.ntmps281
    go_wp2_with fail
    refine HN1.mono ?_
    rintro en w2 ⟨t1, rfl, I1, hb2⟩
    have HN2 := nbNewZ_any 2 w2 (by decide)
    go_wp2_with fail
    refine HN2.mono ?_
    rintro en w3 ⟨t2, rfl, I2, hb3⟩
    have hl1 := I1.le
    have hl2 := I2.le
    have hz2 := hb2.size
    have hb23 := next hb2 hb3
    have hS := nbSetFracZ_any w.heap.size w.heap.size W1.heap.size w2.heap.size t1 t2 1 2 w3 (hr.stay hb23) (I1.stay hb3) I2 (by omega) (by omega) (by decide) (Nat.le_refl _) (by decide) (by decide) (hT.below (next hb1 hb23))
    go_wp2_with fail
    refine hS.mono ?_
    rintro en w4 ⟨rfl, Q4, hg4⟩
    go_wp2
    go_ret
    exact ⟨_, rfl, Q4, (next hb1 hb23).grown hg4 (next hb1 hb23).size (fun k hk => by cases hk; exact Nat.le_refl _)⟩
  go_enter Tryz.func218, Tryz.ntmps218
  go_wp2_with fail
  rw [← hW1]
  refine hF.mono ?_
  rintro en w4 ⟨b, rfl, Q4, hb4⟩
  go_wp2
  go_ret
  exact ⟨b, rfl, Q4, hb4⟩

end Go.Proofs.YtklibjdhlmdkpaaGreatDoor

/-
  Contracts of numeral/numeralref05: unit, Least, Greatest, Sign, beyond. Contracts of numeral/numeralref05: Pack.
-/
namespace Go.Proofs.YtklibjdhlmdkpaaGreatDoor

open Go.RowKit Go.Lb

theorem nbSign5_any (E F : Nat) (w : World) (hE : E ≤ 11) (hF : F ≤ 52) :
    Calls Tryz.prog 96 #[.agg #[.int .i64 (E : Int), .int .i64 (F : Int)]] w fun en w' => en = .returned (.int .u64 ((2 ^ (E + F) : Nat) : Int)) ∧ Below w.heap.size w w' := by
  obtain ⟨k, hk⟩ : ∃ k : Nat, (E : Int) + (F : Int) = (k : Int) := ⟨E + F, by omega⟩
  have hkk : k = E + F := by omega
  have hk2 : k ≤ 63 := by omega
  have hP : Hid (((2 ^ (E + F) : Nat) : Int) = 2 ^ k) := Lib.hid (by rw [← hkk]; simp)
  have hw : IntKind.u64.wrap (2 ^ k) = 2 ^ k := IntWalk.u64_in _ (by
    have a := Nat.two_pow_pos k
    have b : 2 ^ k ≤ 2 ^ 63 := Nat.pow_le_pow_right (by decide) hk2
    have c : (2 : Int) ^ k = ((2 ^ k : Nat) : Int) := by simp
    rw [c]
    have d : (2 : Nat) ^ 63 = 9223372036854775808 := by decide
    omega)
  clear hkk
  go_enter Tryz.func96, Tryz.ntmps96
  go_wp2
  go_ret
  exact ⟨by rw [hP.out]; rfl, more (Below.refl _ _) _⟩

theorem pow_bounds {E F : Nat} (hE : 2 ≤ E) (hE2 : E ≤ 11) (hF : F ≤ 52) : 2 ^ F ≤ 2 ^ 52 ∧ 4 * 2 ^ F ≤ 2 ^ (E + F) ∧ 2 ^ (E + F) ≤ 2 ^ 63 := by
  refine ⟨Nat.pow_le_pow_right (by decide) hF, ?_, Nat.pow_le_pow_right (by decide) (by omega)⟩
  rw [show (4 : Nat) = 2 ^ 2 from rfl, ← Nat.pow_add]
  exact Nat.pow_le_pow_right (by decide) (by omega)

end Go.Proofs.YtklibjdhlmdkpaaGreatDoor

namespace Go.Proofs.YtklibjdhlmdkpaaGreatDoor

open Go.RowKit Go.Lb

attribute [local go_sem] Go.World.cell?_alloc_some

theorem bs_le {E : Nat} (h2 : E ≤ 11) : bsN E ≤ 1023 := by
  unfold bsN
  have b : 2 ^ (E - 1) ≤ 2 ^ 10 := Nat.pow_le_pow_right (by decide) (by omega)
  have d : (2 : Nat) ^ 10 = 1024 := by decide
  omega

end Go.Proofs.YtklibjdhlmdkpaaGreatDoor

/-
  Contracts of numeral/numeralref05: Two.
-/
namespace Go.Proofs.YtklibjdhlmdkpaaGreatDoor

open Go.RowKit Go.Lb

attribute [local go_sem] Go.World.cell?_alloc_some

/-- May it be a dyadic? -/
def twoB (neg : Bool) (xs : List Nat) (x : Int) : Bool := decide (dchk neg xs x = 0)

theorem two_odd {neg : Bool} {xs : List Nat} {x : Int} (h : chk xs = 0) (hl : xs.length ≠ 0) (h1 : ¬ x > 1073741824) (h2 : ¬ x < -1073741824) : twoB neg xs x = decide (nth xs 0 % 2 = 1) := by
  unfold twoB dchk
  have hf : farB x = false := by unfold farB; simp; omega
  rw [if_neg (by simp [h]), if_neg hl, hf]
  by_cases hx : nth xs 0 % 2 = 0
  · simp [hx]
  · have : nth xs 0 % 2 = 1 := by omega
    simp [this]

end Go.Proofs.YtklibjdhlmdkpaaGreatDoor

