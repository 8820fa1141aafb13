/-
  Contracts: Ratio of exact and of the reference. (Printed by wip/gen/ratio.py.) Contracts: Of of exact and of the reference. (Printed by wip/gen/of.py.)
-/
import Derived.Test.YtfjgmpfpadfknaaGreatDoorQbDRtE
import Derived.Test.YtfjgmpfpadfknaaGreatDoorQbDBigL
import Derived.Deep.CutBlock
import Derived.Deep.Cut
import Derived.Deep.RegionHeld3
import Derived.Deep.CutRange
import Derived.Deep.RegionWith
import Derived.Test.YtfjgmpfpadfknaaGreatDoorQbDSumNs
import Derived.Test.YtfjgmpfpadfknaaGreatDoorQbDMakes
import Derived.Test.YtfjgmpfpadfknaaGreatDoorQbDExs
import Derived.Test.YtfjgmpfpadfknaaGreatDoorQbDNatOps
import Derived.Test.YtfjgmpfpadfknaaGreatDoorQbDMD1
import Derived.Test.YtfjgmpfpadfknaaGreatDoorQbDVals
import Derived.Test.YtfjgmpfpadfknaaGreatDoorQbDBgV
namespace Go.Proofs.YtfjgmpfpadfknaaGreatDoor

open Go.RowKit Go.Lb

/-- A dyadic as a fraction: above, below the line; may it be told; the error. -/
def raN (xs : List Nat) (x : Int) : Nat := val xs * 2 ^ (max 0 x).toNat

def raD (x : Int) : Nat := 2 ^ (max 0 (-x)).toNat

def raB (s : Bool) (xs : List Nat) (x : Int) : Bool := decide (dchk s xs x = 0 ∧ bigE (raN xs x) = 0 ∧ bigE (raD x) = 0)

def raE (s : Bool) (xs : List Nat) (x : Int) : Int := if dchk s xs x ≠ 0 then dchk s xs x else if raB s xs x = true then 0 else 4

/-- What Ratio answers. -/
def RatA (s : Bool) (xs : List Nat) (x : Int) (w : World) : Ending → World → Prop :=
  Rtn (raB s xs x && s) (if raB s xs x = true then raN xs x else 0) (if raB s xs x = true then raD x else 0) (raE s xs x) w

theorem ratA_no {s : Bool} {xs : List Nat} {x : Int} {w w' : World} {er : Int} (hb : raB s xs x = false) (he : raE s xs x = er) (h : Below w.heap.size w w') : RatA s xs x w (.returned (.tuple #[.agg #[.bool false, .slice none 0 0, .slice none 0 0], .int .i64 er])) w' := by
  unfold RatA
  rw [hb, he]
  exact rtn_no h

theorem ratA_yes {s : Bool} {xs : List Nat} {x : Int} {w w' : World} {e : Ending} (hb : raB s xs x = true) (h : Rtn s (raN xs x) (raD x) 0 w e w') : RatA s xs x w e w' := by
  have he : raE s xs x = 0 := by
    unfold raE
    rw [if_neg (by have := (of_decide_eq_true hb).1; simp [this]), if_pos hb]
  unfold RatA
  rw [hb, he]
  exact h

theorem raE_dchk {s : Bool} {xs : List Nat} {x : Int} (h : dchk s xs x ≠ 0) : raB s xs x = false ∧ raE s xs x = dchk s xs x := ⟨decide_eq_false (fun hh => h hh.1), by unfold raE; rw [if_pos h]⟩

theorem raE_big {s : Bool} {xs : List Nat} {x : Int} (h : dchk s xs x = 0) (h2 : ¬ (bigE (raN xs x) = 0 ∧ bigE (raD x) = 0)) : raB s xs x = false ∧ raE s xs x = 4 := by
  have hb : raB s xs x = false := decide_eq_false (fun hh => h2 hh.2)
  refine ⟨hb, ?_⟩
  unfold raE
  rw [if_neg (by simp [h]), if_neg (by rw [hb]; decide)]

theorem bigE_ne {N : Nat} (h : bigE N ≠ 0) : bigE N = 4 := by
  unfold bigE at h ⊢
  split at h
  · exact absurd rfl h
  · rename_i hh; rw [if_neg hh]

/-- What the statement that reckons the lower number leaves. -/
def DenQ (e : Int) (N : Nat) (wq : World) (v6 v7 : Value) (wx : World) : Prop :=
  ∃ a2 n2 c2 b7, v6 = .int .i64 e ∧ v7 = .pointer (some ⟨b7, 0, none⟩) ∧ wx.cell? ⟨b7, 0, none⟩ = some (.slice a2 n2 c2) ∧ Fr 75 wx wq.heap.size a2 n2 c2 (limbs N) ∧ Below wq.heap.size wq wx

set_option maxRecDepth 100000 in
set_option maxHeartbeats 4000000 in
theorem exRatio_no1 (s : Bool) (ao : Option Addr) (n c : Nat) (x : Int) (xs : List Nat) (w : World) (h : Sl w ao n c xs) (hd : dchk s xs x ≠ 0) :
    Calls Tryz.prog 52 #[.agg #[.bool s, .slice ao n c, .int .i64 x]] w (RatA s xs x w) := by
  have hcB : (dchk s xs x != 0) = true := by simp [hd]
  have HR := Lib.hid (raE_dchk hd)
  clear hd
  go_enter Tryz.func52, Tryz.ntmps52
  go_wp2_with fail
  refine (dyCheck_any s ao n c x xs _ ((h.alloc _).alloc _)).mono ?_
  rintro e w1 ⟨rfl, hb1⟩
  have hW := next (more (more (Below.refl _ _) _) _) hb1
  have A := ((box3_new w (.bool s) (.slice ao n c) (.int .i64 x) 41).alloc (.cells #[.bool false, .slice none 0 0, .slice none 0 0] 30)).stay hb1
  have B := (box3_new (w.alloc (.cells #[.bool s, .slice ao n c, .int .i64 x] 41)) (.bool false) (.slice none 0 0) (.slice none 0 0) 30).stay hb1
  rw [World.size_alloc] at B
  have hBl := B.lt
  have ⟨b0, b1, b2, bz0, bz1, bz2⟩ := B
  go_wp2
  have ⟨t0, t1, t2⟩ := B.set (.bool false) (.slice none 0 0) (.slice none 0 0)
  refine bodyPost_ret (v := .tuple #[.agg #[.bool false, .slice none 0 0, .slice none 0 0], .int .i64 (dchk s xs x)]) (by simp [results, Tryz.results52, go_sem, t0, t1, t2]) rfl (ratA_no HR.out.1 HR.out.2 (((hW.setCell (by simp) _).setCell (by simp) _).setCell (by simp) _))

set_option maxRecDepth 100000 in
set_option maxHeartbeats 4000000 in
theorem exRatio_no2 (s : Bool) (ao : Option Addr) (n c : Nat) (x : Int) (xs : List Nat) (w : World) (h : Sl w ao n c xs) (hd : dchk s xs x = 0) (hb : bigE (raN xs x) ≠ 0) :
    Calls Tryz.prog 52 #[.agg #[.bool s, .slice ao n c, .int .i64 x]] w (RatA s xs x w) := by
  have hc := dchk_chk hd
  obtain ⟨hx1, hx2⟩ := dchk_exp hd
  have cU : ∀ W : World, Sl W ao n c xs → Calls Tryz.prog 105 #[.agg #[.slice ao n c], .int .i64 (max 0 x)] W (Numb W (bigN (raN xs x)) (bigE (raN xs x))) := fun W hS => natUp_i ao n c (max 0 x) (by omega) xs W hS hc
  have cD : ∀ (W : World) (a k c : Nat) (ao : Option Addr), Sl W ao k c (limbs 1) → Calls Tryz.prog 105 #[.agg #[.slice ao k c], .int .i64 (max 0 (-x))] W (Numb W (bigN (raD x)) (bigE (raD x))) := fun W a k c ao hS => by
    have := natUp_i ao k c (max 0 (-x)) (by omega) (limbs 1) W hS (chk_limbs (by decide))
    rwa [val_limbs', Nat.one_mul] at this
  have cO : ∀ W : World, Calls Tryz.prog 68 #[.int .u64 1] W fun e w' => ∃ ao k c, e = .returned (.agg #[.slice ao k c]) ∧ Fr 75 w' W.heap.size ao k c (limbs 1) ∧ Below W.heap.size W w' := fun W => natOf_any 1 W (by decide)
  have hwx : IntKind.i64.wrap (-x) = -x := IntWalk.i64_in _ (by constructor <;> omega)
  have HX := Lib.hid hd
  have hcB : (bigE (raN xs x) != 0) = true := by simp [hb]
  have HR := Lib.hid (raE_big hd (fun h => hb h.1))
  have h4 := bigE_ne hb
  rw [h4] at cU hcB
  clear hb h4
  go_enter Tryz.func52, Tryz.ntmps52
  go_wp2_with fail
  refine (dyCheck_any s ao n c x xs _ ((h.alloc _).alloc _)).mono ?_
  rintro e w1 ⟨rfl, hb1⟩
  have hW := next (more (more (Below.refl _ _) _) _) hb1
  have A := ((box3_new w (.bool s) (.slice ao n c) (.int .i64 x) 41).alloc (.cells #[.bool false, .slice none 0 0, .slice none 0 0] 30)).stay hb1
  have B := (box3_new (w.alloc (.cells #[.bool s, .slice ao n c, .int .i64 x] 41)) (.bool false) (.slice none 0 0) (.slice none 0 0) 30).stay hb1
  rw [World.size_alloc] at B
  have hBl := B.lt
  rw [HX.out]
  clear hd
  have ⟨p0, p1, p2, _, _, _⟩ := A
  go_wp2_with fail
  refine (cU _ (h.below hW)).mono ?_
  rintro e w2 ⟨o1, k1, e1, rfl, F1, hb2⟩
  have hs1 := hW.size
  replace hW := next hW hb2
  replace A := A.stay hb2
  replace B := B.stay hb2
  clear p0 p1 p2
  have H1 : ∀ g, blkOf o1 = some g → g < w2.heap.size := fun g hg => (fr_lt F1 hg).2
  replace B := B.alloc (.cells #[.slice o1 k1 e1] 28)
  have ⟨b0, b1, b2, bz0, bz1, bz2⟩ := B
  go_wp2
  replace hW := more hW (.cells #[.slice o1 k1 e1] 28)
  have ⟨t0, t1, t2⟩ := B.set (.bool false) (.slice none 0 0) (.slice none 0 0)
  refine bodyPost_ret (v := .tuple #[.agg #[.bool false, .slice none 0 0, .slice none 0 0], .int .i64 (4)]) (by simp [results, Tryz.results52, go_sem, t0, t1, t2]) rfl (ratA_no HR.out.1 HR.out.2 (((hW.setCell (by simp) _).setCell (by simp) _).setCell (by simp) _))

set_option maxRecDepth 100000 in
set_option maxHeartbeats 4000000 in
theorem exRatio_no3 (s : Bool) (ao : Option Addr) (n c : Nat) (x : Int) (xs : List Nat) (w : World) (h : Sl w ao n c xs) (hd : dchk s xs x = 0) (hb : bigE (raN xs x) = 0) (hb2 : bigE (raD x) ≠ 0) :
    Calls Tryz.prog 52 #[.agg #[.bool s, .slice ao n c, .int .i64 x]] w (RatA s xs x w) := by
  have hc := dchk_chk hd
  obtain ⟨hx1, hx2⟩ := dchk_exp hd
  have cU : ∀ W : World, Sl W ao n c xs → Calls Tryz.prog 105 #[.agg #[.slice ao n c], .int .i64 (max 0 x)] W (Numb W (bigN (raN xs x)) (bigE (raN xs x))) := fun W hS => natUp_i ao n c (max 0 x) (by omega) xs W hS hc
  have cD : ∀ (W : World) (a k c : Nat) (ao : Option Addr), Sl W ao k c (limbs 1) → Calls Tryz.prog 105 #[.agg #[.slice ao k c], .int .i64 (max 0 (-x))] W (Numb W (bigN (raD x)) (bigE (raD x))) := fun W a k c ao hS => by
    have := natUp_i ao k c (max 0 (-x)) (by omega) (limbs 1) W hS (chk_limbs (by decide))
    rwa [val_limbs', Nat.one_mul] at this
  have cO : ∀ W : World, Calls Tryz.prog 68 #[.int .u64 1] W fun e w' => ∃ ao k c, e = .returned (.agg #[.slice ao k c]) ∧ Fr 75 w' W.heap.size ao k c (limbs 1) ∧ Below W.heap.size W w' := fun W => natOf_any 1 W (by decide)
  have hwx : IntKind.i64.wrap (-x) = -x := IntWalk.i64_in _ (by constructor <;> omega)
  have HX := Lib.hid hd
  have hcB : (bigE (raD x) != 0) = true := by simp [hb2]
  have HR := Lib.hid (raE_big hd (fun h => hb2 h.2))
  have h4 := bigE_ne hb2
  rw [h4] at cD hcB
  rw [hb] at cU
  have H4 := Lib.hid h4
  clear hb hb2 h4
  go_enter Tryz.func52, Tryz.ntmps52
  go_wp2_with fail
  refine (dyCheck_any s ao n c x xs _ ((h.alloc _).alloc _)).mono ?_
  rintro e w1 ⟨rfl, hb1⟩
  have hW := next (more (more (Below.refl _ _) _) _) hb1
  have A := ((box3_new w (.bool s) (.slice ao n c) (.int .i64 x) 41).alloc (.cells #[.bool false, .slice none 0 0, .slice none 0 0] 30)).stay hb1
  have B := (box3_new (w.alloc (.cells #[.bool s, .slice ao n c, .int .i64 x] 41)) (.bool false) (.slice none 0 0) (.slice none 0 0) 30).stay hb1
  rw [World.size_alloc] at B
  have hBl := B.lt
  rw [HX.out]
  clear hd
  have ⟨p0, p1, p2, _, _, _⟩ := A
  go_wp2_with fail
  refine (cU _ (h.below hW)).mono ?_
  rintro e w2 ⟨o1, k1, e1, rfl, F1, hb2⟩
  have hs1 := hW.size
  replace hW := next hW hb2
  replace A := A.stay hb2
  replace B := B.stay hb2
  clear p0 p1 p2
  have H1 : ∀ g, blkOf o1 = some g → g < w2.heap.size := fun g hg => (fr_lt F1 hg).2
  go_upto_region 7 with fail
  have X1 := box1_new w2 (.slice o1 k1 e1) 28
  have V := more hW (.cells #[.slice o1 k1 e1] 28)
  have hs2 := hb2.size
  replace A := A.alloc (.cells #[.slice o1 k1 e1] 28)
  replace B := B.alloc (.cells #[.slice o1 k1 e1] 28)
  replace F1 := F1.alloc (.cells #[.slice o1 k1 e1] 28)
  have hqs := X1.lt
  clear hW hb2
  generalize w2.alloc (.cells #[.slice o1 k1 e1] 28) = wq at X1 V A B F1 hqs ⊢
  generalize w2.heap.size = q at X1 hqs H1 hs2 ⊢
  have ⟨p0, p1, p2, _, _, _⟩ := A
  go_cut [6, 7] from 27 (fun v6 v7 wx => DenQ 4 (bigN (raD x)) wq v6 v7 wx)
  case first =>
    have kS : ∀ w' : World, Below wq.heap.size wq w' → (w'.cell? ⟨w.heap.size, 0, none⟩ = some (.bool s) ∧ w'.cell? ⟨w.heap.size, 1, none⟩ = some (.slice ao n c) ∧ w'.cell? ⟨w.heap.size, 2, none⟩ = some (.int .i64 x) ∧ Below wq.heap.size wq w') := fun w' hb => ⟨cellStay A.c0 hb, cellStay A.c1 hb, cellStay A.c2 hb, hb⟩
    go_region_held3 (fun w' => w'.cell? ⟨w.heap.size, 0, none⟩ = some (.bool s) ∧ w'.cell? ⟨w.heap.size, 1, none⟩ = some (.slice ao n c) ∧ w'.cell? ⟨w.heap.size, 2, none⟩ = some (.int .i64 x) ∧ Below wq.heap.size wq w')
      ((refine kS _ ?_; (repeat (with_reducible (first | exact hW6 | exact hW5 | exact Below.refl _ _ | refine Below.drew ?_ | refine more ?_ _ | refine Below.setCell ?_ ?_ _ | exact Nat.le_refl _ | exact hs5 | exact Nat.le_trans hs5 hs6))); done))
      (first
      | (go_at_call 68; (with_reducible refine (cO _).mono ?_); rintro en w5 ⟨a5, k5, c5, rfl, F5, hb5⟩; have hW5 : Below wq.heap.size wq w5 := (by first | exact hb5 | exact undrew hb5 | exact next (more (Below.refl _ _) _) hb5 | exact next (more (Below.refl _ _) _).drew hb5); (try have Z := (box1_new wq (.slice none 0 0) 28).stay (by first | exact hb5 | exact undrew hb5)); (try have ⟨z0, z1⟩ := Z); have hs5 := hW5.size)
      | (go_at_call 105; (with_reducible refine (cD _ 0 _ _ _ ?_).mono ?_); (first | exact F5.sl | exact F5.sl.drew | exact F5.sl.alloc _); rintro en w6 ⟨a6, k6, c6, rfl, F6, hb6⟩; have h56 : Below w5.heap.size w5 w6 := (by first | exact hb6 | exact next (more (Below.refl _ _) _) hb6); have hW6 := next hW5 h56; have hs6 := h56.size; (try have ZZ := Z.stay h56); (try have ⟨y0, y1⟩ := ZZ); (try have YY := (box1_new w5 (.slice none 0 0) 28).stay hb6); (try have ⟨y2, y3⟩ := YY)))
    all_goals go_split_ands
    all_goals go_wp2
    all_goals go_meet
    all_goals (try have hzl := ZZ.lt)
    all_goals (try have hyl := YY.lt)
    all_goals (try have hzz := Z.lt)
    all_goals (first
      | exact ⟨a6, k6, c6, _, rfl, rfl, by simp, (F6.alloc _).mono hs5, more hW6 _⟩
      | exact ⟨a6, k6, c6, _, rfl, rfl, ZZ.set _, (F6.setCell (by simp; omega) _).mono hs5, hW6.setCell (by simp) _⟩
      | exact ⟨a6, k6, c6, _, rfl, rfl, YY.set _, (F6.setCell (by simp) _).mono (by simp; omega), hW6.setCell (by simp; omega) _⟩
      | trace_state)
  case rest =>
    obtain ⟨a2, n2, c2, b7, rfl, rfl, Y1, F2, hWc⟩ := hcut
    replace F1 := F1.below hWc
    replace A := A.stay hWc
    replace B := B.stay hWc
    replace X1 := X1.stay hWc
    have hW := next V hWc
    have hWs := hWc.size
    have ⟨b0, b1, b2, bz0, bz1, bz2⟩ := B
    go_wp2
    have ⟨t0, t1, t2⟩ := B.set (.bool false) (.slice none 0 0) (.slice none 0 0)
    refine bodyPost_ret (v := .tuple #[.agg #[.bool false, .slice none 0 0, .slice none 0 0], .int .i64 (4)]) (by simp [results, Tryz.results52, go_sem, t0, t1, t2]) rfl (ratA_no HR.out.1 HR.out.2 (((hW.setCell (by simp) _).setCell (by simp) _).setCell (by simp) _))

set_option maxRecDepth 100000 in
set_option maxHeartbeats 4000000 in
theorem exRatio_yes (s : Bool) (ao : Option Addr) (n c : Nat) (x : Int) (xs : List Nat) (w : World) (h : Sl w ao n c xs) (hd : dchk s xs x = 0) (hb : bigE (raN xs x) = 0) (hb2 : bigE (raD x) = 0) :
    Calls Tryz.prog 52 #[.agg #[.bool s, .slice ao n c, .int .i64 x]] w (RatA s xs x w) := by
  have hc := dchk_chk hd
  obtain ⟨hx1, hx2⟩ := dchk_exp hd
  have cU : ∀ W : World, Sl W ao n c xs → Calls Tryz.prog 105 #[.agg #[.slice ao n c], .int .i64 (max 0 x)] W (Numb W (bigN (raN xs x)) (bigE (raN xs x))) := fun W hS => natUp_i ao n c (max 0 x) (by omega) xs W hS hc
  have cD : ∀ (W : World) (a k c : Nat) (ao : Option Addr), Sl W ao k c (limbs 1) → Calls Tryz.prog 105 #[.agg #[.slice ao k c], .int .i64 (max 0 (-x))] W (Numb W (bigN (raD x)) (bigE (raD x))) := fun W a k c ao hS => by
    have := natUp_i ao k c (max 0 (-x)) (by omega) (limbs 1) W hS (chk_limbs (by decide))
    rwa [val_limbs', Nat.one_mul] at this
  have cO : ∀ W : World, Calls Tryz.prog 68 #[.int .u64 1] W fun e w' => ∃ ao k c, e = .returned (.agg #[.slice ao k c]) ∧ Fr 75 w' W.heap.size ao k c (limbs 1) ∧ Below W.heap.size W w' := fun W => natOf_any 1 W (by decide)
  have hwx : IntKind.i64.wrap (-x) = -x := IntWalk.i64_in _ (by constructor <;> omega)
  have HX := Lib.hid hd
  have HR := Lib.hid (decide_eq_true (And.intro hd (And.intro hb hb2)) : raB s xs x = true)
  rw [hb2, bigN_of hb2] at cD
  rw [hb, bigN_of hb] at cU
  clear hb hb2
  go_enter Tryz.func52, Tryz.ntmps52
  go_wp2_with fail
  refine (dyCheck_any s ao n c x xs _ ((h.alloc _).alloc _)).mono ?_
  rintro e w1 ⟨rfl, hb1⟩
  have hW := next (more (more (Below.refl _ _) _) _) hb1
  have A := ((box3_new w (.bool s) (.slice ao n c) (.int .i64 x) 41).alloc (.cells #[.bool false, .slice none 0 0, .slice none 0 0] 30)).stay hb1
  have B := (box3_new (w.alloc (.cells #[.bool s, .slice ao n c, .int .i64 x] 41)) (.bool false) (.slice none 0 0) (.slice none 0 0) 30).stay hb1
  rw [World.size_alloc] at B
  have hBl := B.lt
  rw [HX.out]
  clear hd
  have ⟨p0, p1, p2, _, _, _⟩ := A
  go_wp2_with fail
  refine (cU _ (h.below hW)).mono ?_
  rintro e w2 ⟨o1, k1, e1, rfl, F1, hb2⟩
  have hs1 := hW.size
  replace hW := next hW hb2
  replace A := A.stay hb2
  replace B := B.stay hb2
  clear p0 p1 p2
  have H1 : ∀ g, blkOf o1 = some g → g < w2.heap.size := fun g hg => (fr_lt F1 hg).2
  go_upto_region 7 with fail
  have X1 := box1_new w2 (.slice o1 k1 e1) 28
  have V := more hW (.cells #[.slice o1 k1 e1] 28)
  have hs2 := hb2.size
  replace A := A.alloc (.cells #[.slice o1 k1 e1] 28)
  replace B := B.alloc (.cells #[.slice o1 k1 e1] 28)
  replace F1 := F1.alloc (.cells #[.slice o1 k1 e1] 28)
  have hqs := X1.lt
  clear hW hb2
  generalize w2.alloc (.cells #[.slice o1 k1 e1] 28) = wq at X1 V A B F1 hqs ⊢
  generalize w2.heap.size = q at X1 hqs H1 hs2 ⊢
  have ⟨p0, p1, p2, _, _, _⟩ := A
  go_cut [6, 7] from 27 (fun v6 v7 wx => DenQ 0 (raD x) wq v6 v7 wx)
  case first =>
    have kS : ∀ w' : World, Below wq.heap.size wq w' → (w'.cell? ⟨w.heap.size, 0, none⟩ = some (.bool s) ∧ w'.cell? ⟨w.heap.size, 1, none⟩ = some (.slice ao n c) ∧ w'.cell? ⟨w.heap.size, 2, none⟩ = some (.int .i64 x) ∧ Below wq.heap.size wq w') := fun w' hb => ⟨cellStay A.c0 hb, cellStay A.c1 hb, cellStay A.c2 hb, hb⟩
    go_region_held3 (fun w' => w'.cell? ⟨w.heap.size, 0, none⟩ = some (.bool s) ∧ w'.cell? ⟨w.heap.size, 1, none⟩ = some (.slice ao n c) ∧ w'.cell? ⟨w.heap.size, 2, none⟩ = some (.int .i64 x) ∧ Below wq.heap.size wq w')
      ((refine kS _ ?_; (repeat (with_reducible (first | exact hW6 | exact hW5 | exact Below.refl _ _ | refine Below.drew ?_ | refine more ?_ _ | refine Below.setCell ?_ ?_ _ | exact Nat.le_refl _ | exact hs5 | exact Nat.le_trans hs5 hs6))); done))
      (first
      | (go_at_call 68; (with_reducible refine (cO _).mono ?_); rintro en w5 ⟨a5, k5, c5, rfl, F5, hb5⟩; have hW5 : Below wq.heap.size wq w5 := (by first | exact hb5 | exact undrew hb5 | exact next (more (Below.refl _ _) _) hb5 | exact next (more (Below.refl _ _) _).drew hb5); (try have Z := (box1_new wq (.slice none 0 0) 28).stay (by first | exact hb5 | exact undrew hb5)); (try have ⟨z0, z1⟩ := Z); have hs5 := hW5.size)
      | (go_at_call 105; (with_reducible refine (cD _ 0 _ _ _ ?_).mono ?_); (first | exact F5.sl | exact F5.sl.drew | exact F5.sl.alloc _); rintro en w6 ⟨a6, k6, c6, rfl, F6, hb6⟩; have h56 : Below w5.heap.size w5 w6 := (by first | exact hb6 | exact next (more (Below.refl _ _) _) hb6); have hW6 := next hW5 h56; have hs6 := h56.size; (try have ZZ := Z.stay h56); (try have ⟨y0, y1⟩ := ZZ); (try have YY := (box1_new w5 (.slice none 0 0) 28).stay hb6); (try have ⟨y2, y3⟩ := YY)))
    all_goals go_split_ands
    all_goals go_wp2
    all_goals go_meet
    all_goals (try have hzl := ZZ.lt)
    all_goals (try have hyl := YY.lt)
    all_goals (try have hzz := Z.lt)
    all_goals (first
      | exact ⟨a6, k6, c6, _, rfl, rfl, by simp, (F6.alloc _).mono hs5, more hW6 _⟩
      | exact ⟨a6, k6, c6, _, rfl, rfl, ZZ.set _, (F6.setCell (by simp; omega) _).mono hs5, hW6.setCell (by simp) _⟩
      | exact ⟨a6, k6, c6, _, rfl, rfl, YY.set _, (F6.setCell (by simp) _).mono (by simp; omega), hW6.setCell (by simp; omega) _⟩
      | trace_state)
  case rest =>
    obtain ⟨a2, n2, c2, b7, rfl, rfl, Y1, F2, hWc⟩ := hcut
    replace F1 := F1.below hWc
    replace A := A.stay hWc
    replace B := B.stay hWc
    replace X1 := X1.stay hWc
    have hW := next V hWc
    have hWs := hWc.size
    have ⟨x0, _⟩ := X1
    have ⟨p0, p1, p2, _, _, _⟩ := A
    have ⟨b0, b1, b2, bz0, bz1, bz2⟩ := B
    go_wp2
    have ⟨t0, t1, t2⟩ := B.set (.bool s) (.slice o1 k1 e1) (.slice a2 n2 c2)
    refine bodyPost_ret (v := .tuple #[.agg #[.bool s, .slice o1 k1 e1, .slice a2 n2 c2], .int .i64 0]) (by simp [results, Tryz.results52, go_sem, t0, t1, t2]) rfl ?_
    refine ratA_yes HR.out ⟨_, _, _, _, _, _, rfl, (((F1.setCell (by simp; omega) _).setCell (by simp; omega) _).setCell (by simp; omega) _).mono (by omega), (((F2.setCell (by simp; omega) _).setCell (by simp; omega) _).setCell (by simp; omega) _).mono (by omega), ?_, ((hW.setCell (by simp) _).setCell (by simp) _).setCell (by simp) _⟩
    intro g g1 g2
    have q1 := H1 g g1
    have q2 := (fr_lt F2 g2).1
    omega

theorem exRatio_any (s : Bool) (ao : Option Addr) (n c : Nat) (x : Int) (xs : List Nat) (w : World) (h : Sl w ao n c xs) :
    Calls Tryz.prog 52 #[.agg #[.bool s, .slice ao n c, .int .i64 x]] w (RatA s xs x w) := by
  by_cases hd : dchk s xs x = 0
  · by_cases hb : bigE (raN xs x) = 0
    · by_cases hb2 : bigE (raD x) = 0
      · exact exRatio_yes s ao n c x xs w h hd hb hb2
      · exact exRatio_no3 s ao n c x xs w h hd hb hb2
    · exact exRatio_no2 s ao n c x xs w h hd hb
  · exact exRatio_no1 s ao n c x xs w h hd

end Go.Proofs.YtfjgmpfpadfknaaGreatDoor

namespace Go.Proofs.YtfjgmpfpadfknaaGreatDoor

open Go.RowKit Go.Lb

end Go.Proofs.YtfjgmpfpadfknaaGreatDoor

/-
  Contracts of numeral/round: large, limbs.
-/
namespace Go.Proofs.YtfjgmpfpadfknaaGreatDoor

open Go.RowKit Go.Lb

attribute [local go_sem ↓] Go.wp_at_zero Go.wp_at_succ

theorem val_drop_next (xs : List Nat) (t : Nat) (h : t < xs.length) : val (xs.drop t) = val (xs.drop (t + 1)) * 4294967296 + nth xs t := by
  rw [List.drop_eq_getElem_cons h, val]
  unfold nth
  rw [List.getD_eq_getElem?_getD, List.getElem?_eq_getElem h, Option.getD_some]
  omega

set_option maxRecDepth 100000 in
set_option maxHeartbeats 3000000 in
theorem rdLarge_any (ao : Option Addr) (n c : Nat) (xs : List Nat) (w : World) (h : Sl w ao n c xs) (hn : n ≤ 8388608) :
    Calls Tryz.prog 192 #[.agg #[.slice ao n c]] w (MkZ 75 (val xs : Int) w) := by
  have hle := h.le
  have hcap := h.cap
  have hlen := h.len
  have HV : Hid (∀ t, t < n → val (xs.drop t) = val (xs.drop (t + 1)) * 4294967296 + nth xs t) := Lib.hid (fun t ht => val_drop_next xs t (by omega))
  have HL : Hid (∀ j, ln (val (xs.drop j)) ≤ 8388608) := Lib.hid (fun j => Nat.le_trans (ln_le (val_lt (ok_drop h.ok j))) (by rw [List.length_drop]; omega))
  obtain ⟨W2, hW2⟩ : ∃ W2 : World, W2 = (w.alloc (.cells #[.slice ao n c] 28)).alloc (.cells #[.bool false, .slice none 0 0] 129) := ⟨_, rfl⟩
  have hb2 : Below w.heap.size w W2 := hW2 ▸ more (more (Below.refl _ _) _) _
  have hI : Iz 75 W2 (w.heap.size + 1) (w.heap.size + 1) ((val (xs.drop n) : Nat) : Int) := by
    have := iz_new (e := 75) (t := 129) (w.alloc (.cells #[.slice ao n c] 28))
    rw [World.size_alloc] at this
    rw [hW2, List.drop_of_length_le (by omega)]
    exact this
  have hc : W2.cell? ⟨w.heap.size, 0, none⟩ = some (.slice ao n c) := by rw [hW2]; simp [World.cell?_alloc_some]
  have HD0 : Hid (val xs = val (xs.drop 0)) := Lib.hid (by rw [List.drop_zero])
  clear hlen
  go_enter Tryz.func192, Tryz.ntmps192
  go_wp2
  rw [← hW2]
  clear hW2
  go_loopw [4] (fun iv wr => ∃ j : Nat, j ≤ n ∧ iv = .int .i64 ((j : Int) - 1) ∧ Iz 75 wr (w.heap.size + 1) (w.heap.size + 1) ((val (xs.drop j) : Nat) : Int) ∧ wr.cell? ⟨w.heap.size, 0, none⟩ = some (.slice ao n c) ∧ Below w.heap.size w wr) (fun iv _ => (intOf iv + 1).toNat)
  case atStart => exact ⟨n, Nat.le_refl _, rfl, hI, hc, hb2⟩
  case round =>
    obtain ⟨j, hj, rfl, hI, hc, hW⟩ := hrel
    clear hb2
    by_cases hj0 : j = 0
    · subst hj0
      have j1 : ¬ ((0 : Nat) : Int) - 1 ≥ 0 := by decide
      go_wp2
      go_ret
      exact ⟨_, rfl, by rw [HD0.out]; exact hI.mono (Nat.le_succ _), hW⟩
    · obtain ⟨t, rfl⟩ : ∃ t, j = t + 1 := ⟨j - 1, by omega⟩
      have ej : ((t + 1 : Nat) : Int) - 1 = (t : Int) := by omega
      rw [ej]
      have htn : t < n := by omega
      obtain ⟨g, o, rfl, hg, hcc⟩ := (h.below hW).at_ (by omega)
      have hcell := hcc t htn
      have hlt := nth_lt h.ok t
      have hv := HV.out t htn
      have HVt := Lib.hid hv
      have hl1 := HL.out (t + 1)
      have HT : Hid (t + 1 ≤ n) := Lib.hid hj
      have hgw : g ≠ w.heap.size + 1 := by
        obtain ⟨g', o', e', hg', _⟩ := h.at_ (by omega)
        cases e'
        omega
      generalize val (xs.drop (t + 1)) = V at *
      generalize nth xs t = x at *
      have i1 : (0 : Int) ≤ (t : Int) := by omega
      have i2 : (t : Int) < (n : Int) := by omega
      have i3 : (t : Int) ≥ 0 := by omega
      have hzc := hI.zc
      have hsz := hW.size
      have hbl := hI.lt
      have hLs := bgLsh_any (w.heap.size + 1) (w.heap.size + 1) (w.heap.size + 1) (w.heap.size + 1) 32 (V : Int) wr.drew (hzc.stay (Below.refl _ _).drew) (Nat.le_of_lt hbl) (hI.stay (Below.refl _ _).drew) (by rw [Int.natAbs_natCast]; omega) (by decide)
      rw [show (V : Int) * 2 ^ 32 = ((V * 4294967296 : Nat) : Int) by simp, show ((32 : Nat) : Int) = 32 from rfl] at hLs
      have hwx : IntKind.i64.wrap (x : Int) = (x : Int) := IntWalk.i64_in _ (by omega)
      have hz2 := hzc.stay (Below.refl wr.heap.size wr).drew
      have hN := bgNewZ_any (x : Int)
      have hO : ∀ W B bb, Below w.heap.size w W → Iz 75 W (w.heap.size + 1) (w.heap.size + 1) ((V * 4294967296 : Nat) : Int) → Iz 75 W B bb (x : Int) → Calls Tryz.prog 220 #[.pointer (some ⟨w.heap.size + 1, 0, none⟩), .pointer (some ⟨w.heap.size + 1, 0, none⟩), .pointer (some ⟨bb, 0, none⟩)] W (StZ 75 (w.heap.size + 1) (w.heap.size + 1) ((V * 4294967296 + x : Nat) : Int) W) := fun W B bb hW hi hx =>
        bgOrLow_any (w.heap.size + 1) (w.heap.size + 1) (w.heap.size + 1) B (w.heap.size + 1) bb _ x W hi.zc (Nat.le_of_lt hi.lt) hi hx (by omega) hlt (by
          have e : V * 4294967296 = V * 2 ^ 32 := rfl
          rw [e]
          exact Nat.le_trans (ln_shl V 32) (by omega))
      have hw0 : w.heap.size ≠ w.heap.size + 1 := by omega
      clear hcc hv hl1 ej hj hj0
      go_wp2
      go_region_held3 (fun w' => w'.cell? ⟨w.heap.size, 0, none⟩ = some (.slice (some ⟨g, o, none⟩) n c) ∧ w'.cell? ⟨g, o + t, none⟩ = some (.int .u32 (x : Int)))
        ((first | exact ⟨p2, p3⟩ | exact ⟨o2, o3⟩ | exact ⟨f2, f3⟩ | (go_keep; done)))
        (first
          | (go_at_call 219; (with_reducible refine hLs.mono ?_); rintro en wA hS; have VA := hS.below hW.drew hsz (Nat.le_succ _); have hgA := hS.grown; obtain ⟨rfl, hIA, _⟩ := hS.in_ hz2 (Nat.le_refl _); have f2 := hgA.cell hc (fun e => by injection e with e; exact hw0 e); have f3 := hgA.cell hcell (fun e => by injection e with e; exact hgw e))
          | (go_at_call 100; (with_reducible refine (hN _ ?_).mono ?_); (exact ⟨by omega, by omega⟩); rintro en wB ⟨bb, rfl, hIx, hbB⟩; have o2 := cellStay f2 hbB; have o3 := cellStay f3 hbB; have VB := next VA hbB; have hIB := hIA.stay hbB)
          | (go_at_call 220; (with_reducible refine (hO _ _ _ VB hIB hIx).mono ?_); rintro en wC hS; have VC := hS.below VB VB.size (Nat.le_succ _); have hgC := hS.grown; obtain ⟨rfl, hIC, _⟩ := hS.in_ hIB.zc (Nat.le_refl _); have p2 := hgC.cell o2 (fun e => by injection e with e; exact hw0 e); have p3 := hgC.cell o3 (fun e => by injection e with e; exact hgw e)))
      all_goals
        rw [← HVt.out] at hIC
        go_wp2
        exact ⟨⟨t, by have := HT.out; omega, rfl, hIC, p2, VC⟩, by simp [intOf] <;> omega⟩

end Go.Proofs.YtfjgmpfpadfknaaGreatDoor

