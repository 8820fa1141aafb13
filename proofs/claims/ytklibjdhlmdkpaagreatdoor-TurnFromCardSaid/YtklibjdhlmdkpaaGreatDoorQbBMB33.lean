/-
  Contracts: Ratio of exact and of the reference. (Printed by wip/gen/ratio.py.) Contracts: Of of exact and of the reference. (Printed by wip/gen/of.py.)
-/
import Derived.Test.YtklibjdhlmdkpaaGreatDoorQbBMB31
import Derived.Test.YtklibjdhlmdkpaaGreatDoorQbBMB12
import Derived.Test.YtklibjdhlmdkpaaGreatDoorQbBMB2
import Derived.Test.YtklibjdhlmdkpaaGreatDoorQbBUps
import Derived.Test.YtklibjdhlmdkpaaGreatDoorQbBMB1
import Derived.Test.YtklibjdhlmdkpaaGreatDoorQbBMB32
import Derived.Test.YtklibjdhlmdkpaaGreatDoorQbBMB17
namespace Go.Proofs.YtklibjdhlmdkpaaGreatDoor

open Go.RowKit Go.Lb

/-- A dyadic as a fraction: above, below the line; may it be told; the error. -/
def raN (xs : List Nat) (x : Int) : Nat := val xs * 2 ^ (max 0 x).toNat

def raD (x : Int) : Nat := 2 ^ (max 0 (-x)).toNat

def raB (s : Bool) (xs : List Nat) (x : Int) : Bool := decide (dchk s xs x = 0 ∧ bigE (raN xs x) = 0 ∧ bigE (raD x) = 0)

def raE (s : Bool) (xs : List Nat) (x : Int) : Int := if dchk s xs x ≠ 0 then dchk s xs x else if raB s xs x = true then 0 else 4

/-- What Ratio answers. -/
def RatA (s : Bool) (xs : List Nat) (x : Int) (w : World) : Ending → World → Prop :=
  Rtn (raB s xs x && s) (if raB s xs x = true then raN xs x else 0) (if raB s xs x = true then raD x else 0) (raE s xs x) w

theorem ratA_no {s : Bool} {xs : List Nat} {x : Int} {w w' : World} {er : Int} (hb : raB s xs x = false) (he : raE s xs x = er) (h : Below w.heap.size w w') : RatA s xs x w (.returned (.tuple #[.agg #[.bool false, .slice none 0 0, .slice none 0 0], .int .i64 er])) w' := by
  unfold RatA
  rw [hb, he]
  exact rtn_no h

theorem ratA_yes {s : Bool} {xs : List Nat} {x : Int} {w w' : World} {e : Ending} (hb : raB s xs x = true) (h : Rtn s (raN xs x) (raD x) 0 w e w') : RatA s xs x w e w' := by
  have he : raE s xs x = 0 := by
    unfold raE
    rw [if_neg (by have := (of_decide_eq_true hb).1; simp [this]), if_pos hb]
  unfold RatA
  rw [hb, he]
  exact h

theorem raE_dchk {s : Bool} {xs : List Nat} {x : Int} (h : dchk s xs x ≠ 0) : raB s xs x = false ∧ raE s xs x = dchk s xs x := ⟨decide_eq_false (fun hh => h hh.1), by unfold raE; rw [if_pos h]⟩

theorem raE_big {s : Bool} {xs : List Nat} {x : Int} (h : dchk s xs x = 0) (h2 : ¬ (bigE (raN xs x) = 0 ∧ bigE (raD x) = 0)) : raB s xs x = false ∧ raE s xs x = 4 := by
  have hb : raB s xs x = false := decide_eq_false (fun hh => h2 hh.2)
  refine ⟨hb, ?_⟩
  unfold raE
  rw [if_neg (by simp [h]), if_neg (by rw [hb]; decide)]

theorem bigE_ne {N : Nat} (h : bigE N ≠ 0) : bigE N = 4 := by
  unfold bigE at h ⊢
  split at h
  · exact absurd rfl h
  · rename_i hh; rw [if_neg hh]

/-- What the statement that reckons the lower number leaves. -/
def DenQ (e : Int) (N : Nat) (wq : World) (v6 v7 : Value) (wx : World) : Prop :=
  ∃ a2 n2 c2 b7, v6 = .int .i64 e ∧ v7 = .pointer (some ⟨b7, 0, none⟩) ∧ wx.cell? ⟨b7, 0, none⟩ = some (.slice a2 n2 c2) ∧ Fr 38 wx wq.heap.size a2 n2 c2 (limbs N) ∧ Below wq.heap.size wq wx

set_option maxRecDepth 100000 in
set_option maxHeartbeats 4000000 in
theorem exRatio_no1 (s : Bool) (ao : Option Addr) (n c : Nat) (x : Int) (xs : List Nat) (w : World) (h : Sl w ao n c xs) (hd : dchk s xs x ≠ 0) :
    Calls Tryz.prog 89 #[.agg #[.bool s, .slice ao n c, .int .i64 x]] w (RatA s xs x w) := by
  have hcB : (dchk s xs x != 0) = true := by simp [hd]
  have HR := Lib.hid (raE_dchk hd)
  clear hd
  go_enter Tryz.func89, Tryz.ntmps89
  go_wp2_with fail
  refine (dyCheck_any s ao n c x xs _ ((h.alloc _).alloc _)).mono ?_
  rintro e w1 ⟨rfl, hb1⟩
  have hW := next (more (more (Below.refl _ _) _) _) hb1
  have A := ((box3_new w (.bool s) (.slice ao n c) (.int .i64 x) 113).alloc (.cells #[.bool false, .slice none 0 0, .slice none 0 0] 131)).stay hb1
  have B := (box3_new (w.alloc (.cells #[.bool s, .slice ao n c, .int .i64 x] 113)) (.bool false) (.slice none 0 0) (.slice none 0 0) 131).stay hb1
  rw [World.size_alloc] at B
  have hBl := B.lt
  have ⟨b0, b1, b2, bz0, bz1, bz2⟩ := B
  go_wp2
  have ⟨t0, t1, t2⟩ := B.set (.bool false) (.slice none 0 0) (.slice none 0 0)
  refine bodyPost_ret (v := .tuple #[.agg #[.bool false, .slice none 0 0, .slice none 0 0], .int .i64 (dchk s xs x)]) (by simp [results, Tryz.results89, go_sem, t0, t1, t2]) rfl (ratA_no HR.out.1 HR.out.2 (((hW.setCell (by simp) _).setCell (by simp) _).setCell (by simp) _))

set_option maxRecDepth 100000 in
set_option maxHeartbeats 4000000 in
theorem exRatio_no2 (s : Bool) (ao : Option Addr) (n c : Nat) (x : Int) (xs : List Nat) (w : World) (h : Sl w ao n c xs) (hd : dchk s xs x = 0) (hb : bigE (raN xs x) ≠ 0) :
    Calls Tryz.prog 89 #[.agg #[.bool s, .slice ao n c, .int .i64 x]] w (RatA s xs x w) := by
  have hc := dchk_chk hd
  obtain ⟨hx1, hx2⟩ := dchk_exp hd
  have cU : ∀ W : World, Sl W ao n c xs → Calls Tryz.prog 191 #[.agg #[.slice ao n c], .int .i64 (max 0 x)] W (Numb W (bigN (raN xs x)) (bigE (raN xs x))) := fun W hS => natUp_i ao n c (max 0 x) (by omega) xs W hS hc
  have cD : ∀ (W : World) (a k c : Nat) (ao : Option Addr), Sl W ao k c (limbs 1) → Calls Tryz.prog 191 #[.agg #[.slice ao k c], .int .i64 (max 0 (-x))] W (Numb W (bigN (raD x)) (bigE (raD x))) := fun W a k c ao hS => by
    have := natUp_i ao k c (max 0 (-x)) (by omega) (limbs 1) W hS (chk_limbs (by decide))
    rwa [val_limbs', Nat.one_mul] at this
  have cO : ∀ W : World, Calls Tryz.prog 172 #[.int .u64 1] W fun e w' => ∃ ao k c, e = .returned (.agg #[.slice ao k c]) ∧ Fr 38 w' W.heap.size ao k c (limbs 1) ∧ Below W.heap.size W w' := fun W => natOf_any 1 W (by decide)
  have hwx : IntKind.i64.wrap (-x) = -x := IntWalk.i64_in _ (by constructor <;> omega)
  have HX := Lib.hid hd
  have hcB : (bigE (raN xs x) != 0) = true := by simp [hb]
  have HR := Lib.hid (raE_big hd (fun h => hb h.1))
  have h4 := bigE_ne hb
  rw [h4] at cU hcB
  clear hb h4
  go_enter Tryz.func89, Tryz.ntmps89
  go_wp2_with fail
  refine (dyCheck_any s ao n c x xs _ ((h.alloc _).alloc _)).mono ?_
  rintro e w1 ⟨rfl, hb1⟩
  have hW := next (more (more (Below.refl _ _) _) _) hb1
  have A := ((box3_new w (.bool s) (.slice ao n c) (.int .i64 x) 113).alloc (.cells #[.bool false, .slice none 0 0, .slice none 0 0] 131)).stay hb1
  have B := (box3_new (w.alloc (.cells #[.bool s, .slice ao n c, .int .i64 x] 113)) (.bool false) (.slice none 0 0) (.slice none 0 0) 131).stay hb1
  rw [World.size_alloc] at B
  have hBl := B.lt
  rw [HX.out]
  clear hd
  have ⟨p0, p1, p2, _, _, _⟩ := A
  go_wp2_with fail
  refine (cU _ (h.below hW)).mono ?_
  rintro e w2 ⟨o1, k1, e1, rfl, F1, hb2⟩
  have hs1 := hW.size
  replace hW := next hW hb2
  replace A := A.stay hb2
  replace B := B.stay hb2
  clear p0 p1 p2
  have H1 : ∀ g, blkOf o1 = some g → g < w2.heap.size := fun g hg => (fr_lt F1 hg).2
  replace B := B.alloc (.cells #[.slice o1 k1 e1] 111)
  have ⟨b0, b1, b2, bz0, bz1, bz2⟩ := B
  go_wp2
  replace hW := more hW (.cells #[.slice o1 k1 e1] 111)
  have ⟨t0, t1, t2⟩ := B.set (.bool false) (.slice none 0 0) (.slice none 0 0)
  refine bodyPost_ret (v := .tuple #[.agg #[.bool false, .slice none 0 0, .slice none 0 0], .int .i64 (4)]) (by simp [results, Tryz.results89, go_sem, t0, t1, t2]) rfl (ratA_no HR.out.1 HR.out.2 (((hW.setCell (by simp) _).setCell (by simp) _).setCell (by simp) _))

set_option maxRecDepth 100000 in
set_option maxHeartbeats 4000000 in
theorem exRatio_no3 (s : Bool) (ao : Option Addr) (n c : Nat) (x : Int) (xs : List Nat) (w : World) (h : Sl w ao n c xs) (hd : dchk s xs x = 0) (hb : bigE (raN xs x) = 0) (hb2 : bigE (raD x) ≠ 0) :
    Calls Tryz.prog 89 #[.agg #[.bool s, .slice ao n c, .int .i64 x]] w (RatA s xs x w) := by
  have hc := dchk_chk hd
  obtain ⟨hx1, hx2⟩ := dchk_exp hd
  have cU : ∀ W : World, Sl W ao n c xs → Calls Tryz.prog 191 #[.agg #[.slice ao n c], .int .i64 (max 0 x)] W (Numb W (bigN (raN xs x)) (bigE (raN xs x))) := fun W hS => natUp_i ao n c (max 0 x) (by omega) xs W hS hc
  have cD : ∀ (W : World) (a k c : Nat) (ao : Option Addr), Sl W ao k c (limbs 1) → Calls Tryz.prog 191 #[.agg #[.slice ao k c], .int .i64 (max 0 (-x))] W (Numb W (bigN (raD x)) (bigE (raD x))) := fun W a k c ao hS => by
    have := natUp_i ao k c (max 0 (-x)) (by omega) (limbs 1) W hS (chk_limbs (by decide))
    rwa [val_limbs', Nat.one_mul] at this
  have cO : ∀ W : World, Calls Tryz.prog 172 #[.int .u64 1] W fun e w' => ∃ ao k c, e = .returned (.agg #[.slice ao k c]) ∧ Fr 38 w' W.heap.size ao k c (limbs 1) ∧ Below W.heap.size W w' := fun W => natOf_any 1 W (by decide)
  have hwx : IntKind.i64.wrap (-x) = -x := IntWalk.i64_in _ (by constructor <;> omega)
  have HX := Lib.hid hd
  have hcB : (bigE (raD x) != 0) = true := by simp [hb2]
  have HR := Lib.hid (raE_big hd (fun h => hb2 h.2))
  have h4 := bigE_ne hb2
  rw [h4] at cD hcB
  rw [hb] at cU
  have H4 := Lib.hid h4
  clear hb hb2 h4
  go_enter Tryz.func89, Tryz.ntmps89
  go_wp2_with fail
  refine (dyCheck_any s ao n c x xs _ ((h.alloc _).alloc _)).mono ?_
  rintro e w1 ⟨rfl, hb1⟩
  have hW := next (more (more (Below.refl _ _) _) _) hb1
  have A := ((box3_new w (.bool s) (.slice ao n c) (.int .i64 x) 113).alloc (.cells #[.bool false, .slice none 0 0, .slice none 0 0] 131)).stay hb1
  have B := (box3_new (w.alloc (.cells #[.bool s, .slice ao n c, .int .i64 x] 113)) (.bool false) (.slice none 0 0) (.slice none 0 0) 131).stay hb1
  rw [World.size_alloc] at B
  have hBl := B.lt
  rw [HX.out]
  clear hd
  have ⟨p0, p1, p2, _, _, _⟩ := A
  go_wp2_with fail
  refine (cU _ (h.below hW)).mono ?_
  rintro e w2 ⟨o1, k1, e1, rfl, F1, hb2⟩
  have hs1 := hW.size
  replace hW := next hW hb2
  replace A := A.stay hb2
  replace B := B.stay hb2
  clear p0 p1 p2
  have H1 : ∀ g, blkOf o1 = some g → g < w2.heap.size := fun g hg => (fr_lt F1 hg).2
  go_upto_region 7 with fail
  have X1 := box1_new w2 (.slice o1 k1 e1) 111
  have V := more hW (.cells #[.slice o1 k1 e1] 111)
  have hs2 := hb2.size
  replace A := A.alloc (.cells #[.slice o1 k1 e1] 111)
  replace B := B.alloc (.cells #[.slice o1 k1 e1] 111)
  replace F1 := F1.alloc (.cells #[.slice o1 k1 e1] 111)
  have hqs := X1.lt
  clear hW hb2
  generalize w2.alloc (.cells #[.slice o1 k1 e1] 111) = wq at X1 V A B F1 hqs ⊢
  generalize w2.heap.size = q at X1 hqs H1 hs2 ⊢
  have ⟨p0, p1, p2, _, _, _⟩ := A
  go_cut [6, 7] from 27 (fun v6 v7 wx => DenQ 4 (bigN (raD x)) wq v6 v7 wx)
  case first =>
    have kS : ∀ w' : World, Below wq.heap.size wq w' → (w'.cell? ⟨w.heap.size, 0, none⟩ = some (.bool s) ∧ w'.cell? ⟨w.heap.size, 1, none⟩ = some (.slice ao n c) ∧ w'.cell? ⟨w.heap.size, 2, none⟩ = some (.int .i64 x) ∧ Below wq.heap.size wq w') := fun w' hb => ⟨cellStay A.c0 hb, cellStay A.c1 hb, cellStay A.c2 hb, hb⟩
    go_region_held3 (fun w' => w'.cell? ⟨w.heap.size, 0, none⟩ = some (.bool s) ∧ w'.cell? ⟨w.heap.size, 1, none⟩ = some (.slice ao n c) ∧ w'.cell? ⟨w.heap.size, 2, none⟩ = some (.int .i64 x) ∧ Below wq.heap.size wq w')
      ((refine kS _ ?_; (repeat (with_reducible (first | exact hW6 | exact hW5 | exact Below.refl _ _ | refine Below.drew ?_ | refine more ?_ _ | refine Below.setCell ?_ ?_ _ | exact Nat.le_refl _ | exact hs5 | exact Nat.le_trans hs5 hs6))); done))
      (first
      | (go_at_call 172; (with_reducible refine (cO _).mono ?_); rintro en w5 ⟨a5, k5, c5, rfl, F5, hb5⟩; have hW5 : Below wq.heap.size wq w5 := (by first | exact hb5 | exact undrew hb5 | exact next (more (Below.refl _ _) _) hb5 | exact next (more (Below.refl _ _) _).drew hb5); (try have Z := (box1_new wq (.slice none 0 0) 111).stay (by first | exact hb5 | exact undrew hb5)); (try have ⟨z0, z1⟩ := Z); have hs5 := hW5.size)
      | (go_at_call 191; (with_reducible refine (cD _ 0 _ _ _ ?_).mono ?_); (first | exact F5.sl | exact F5.sl.drew | exact F5.sl.alloc _); rintro en w6 ⟨a6, k6, c6, rfl, F6, hb6⟩; have h56 : Below w5.heap.size w5 w6 := (by first | exact hb6 | exact next (more (Below.refl _ _) _) hb6); have hW6 := next hW5 h56; have hs6 := h56.size; (try have ZZ := Z.stay h56); (try have ⟨y0, y1⟩ := ZZ); (try have YY := (box1_new w5 (.slice none 0 0) 111).stay hb6); (try have ⟨y2, y3⟩ := YY)))
    all_goals go_split_ands
    all_goals go_wp2
    all_goals go_meet
    all_goals (try have hzl := ZZ.lt)
    all_goals (try have hyl := YY.lt)
    all_goals (try have hzz := Z.lt)
    all_goals (first
      | exact ⟨a6, k6, c6, _, rfl, rfl, by simp, (F6.alloc _).mono hs5, more hW6 _⟩
      | exact ⟨a6, k6, c6, _, rfl, rfl, ZZ.set _, (F6.setCell (by simp; omega) _).mono hs5, hW6.setCell (by simp) _⟩
      | exact ⟨a6, k6, c6, _, rfl, rfl, YY.set _, (F6.setCell (by simp) _).mono (by simp; omega), hW6.setCell (by simp; omega) _⟩
      | trace_state)
  case rest =>
    obtain ⟨a2, n2, c2, b7, rfl, rfl, Y1, F2, hWc⟩ := hcut
    replace F1 := F1.below hWc
    replace A := A.stay hWc
    replace B := B.stay hWc
    replace X1 := X1.stay hWc
    have hW := next V hWc
    have hWs := hWc.size
    have ⟨b0, b1, b2, bz0, bz1, bz2⟩ := B
    go_wp2
    have ⟨t0, t1, t2⟩ := B.set (.bool false) (.slice none 0 0) (.slice none 0 0)
    refine bodyPost_ret (v := .tuple #[.agg #[.bool false, .slice none 0 0, .slice none 0 0], .int .i64 (4)]) (by simp [results, Tryz.results89, go_sem, t0, t1, t2]) rfl (ratA_no HR.out.1 HR.out.2 (((hW.setCell (by simp) _).setCell (by simp) _).setCell (by simp) _))

set_option maxRecDepth 100000 in
set_option maxHeartbeats 4000000 in
theorem exRatio_yes (s : Bool) (ao : Option Addr) (n c : Nat) (x : Int) (xs : List Nat) (w : World) (h : Sl w ao n c xs) (hd : dchk s xs x = 0) (hb : bigE (raN xs x) = 0) (hb2 : bigE (raD x) = 0) :
    Calls Tryz.prog 89 #[.agg #[.bool s, .slice ao n c, .int .i64 x]] w (RatA s xs x w) := by
  have hc := dchk_chk hd
  obtain ⟨hx1, hx2⟩ := dchk_exp hd
  have cU : ∀ W : World, Sl W ao n c xs → Calls Tryz.prog 191 #[.agg #[.slice ao n c], .int .i64 (max 0 x)] W (Numb W (bigN (raN xs x)) (bigE (raN xs x))) := fun W hS => natUp_i ao n c (max 0 x) (by omega) xs W hS hc
  have cD : ∀ (W : World) (a k c : Nat) (ao : Option Addr), Sl W ao k c (limbs 1) → Calls Tryz.prog 191 #[.agg #[.slice ao k c], .int .i64 (max 0 (-x))] W (Numb W (bigN (raD x)) (bigE (raD x))) := fun W a k c ao hS => by
    have := natUp_i ao k c (max 0 (-x)) (by omega) (limbs 1) W hS (chk_limbs (by decide))
    rwa [val_limbs', Nat.one_mul] at this
  have cO : ∀ W : World, Calls Tryz.prog 172 #[.int .u64 1] W fun e w' => ∃ ao k c, e = .returned (.agg #[.slice ao k c]) ∧ Fr 38 w' W.heap.size ao k c (limbs 1) ∧ Below W.heap.size W w' := fun W => natOf_any 1 W (by decide)
  have hwx : IntKind.i64.wrap (-x) = -x := IntWalk.i64_in _ (by constructor <;> omega)
  have HX := Lib.hid hd
  have HR := Lib.hid (decide_eq_true (And.intro hd (And.intro hb hb2)) : raB s xs x = true)
  rw [hb2, bigN_of hb2] at cD
  rw [hb, bigN_of hb] at cU
  clear hb hb2
  go_enter Tryz.func89, Tryz.ntmps89
  go_wp2_with fail
  refine (dyCheck_any s ao n c x xs _ ((h.alloc _).alloc _)).mono ?_
  rintro e w1 ⟨rfl, hb1⟩
  have hW := next (more (more (Below.refl _ _) _) _) hb1
  have A := ((box3_new w (.bool s) (.slice ao n c) (.int .i64 x) 113).alloc (.cells #[.bool false, .slice none 0 0, .slice none 0 0] 131)).stay hb1
  have B := (box3_new (w.alloc (.cells #[.bool s, .slice ao n c, .int .i64 x] 113)) (.bool false) (.slice none 0 0) (.slice none 0 0) 131).stay hb1
  rw [World.size_alloc] at B
  have hBl := B.lt
  rw [HX.out]
  clear hd
  have ⟨p0, p1, p2, _, _, _⟩ := A
  go_wp2_with fail
  refine (cU _ (h.below hW)).mono ?_
  rintro e w2 ⟨o1, k1, e1, rfl, F1, hb2⟩
  have hs1 := hW.size
  replace hW := next hW hb2
  replace A := A.stay hb2
  replace B := B.stay hb2
  clear p0 p1 p2
  have H1 : ∀ g, blkOf o1 = some g → g < w2.heap.size := fun g hg => (fr_lt F1 hg).2
  go_upto_region 7 with fail
  have X1 := box1_new w2 (.slice o1 k1 e1) 111
  have V := more hW (.cells #[.slice o1 k1 e1] 111)
  have hs2 := hb2.size
  replace A := A.alloc (.cells #[.slice o1 k1 e1] 111)
  replace B := B.alloc (.cells #[.slice o1 k1 e1] 111)
  replace F1 := F1.alloc (.cells #[.slice o1 k1 e1] 111)
  have hqs := X1.lt
  clear hW hb2
  generalize w2.alloc (.cells #[.slice o1 k1 e1] 111) = wq at X1 V A B F1 hqs ⊢
  generalize w2.heap.size = q at X1 hqs H1 hs2 ⊢
  have ⟨p0, p1, p2, _, _, _⟩ := A
  go_cut [6, 7] from 27 (fun v6 v7 wx => DenQ 0 (raD x) wq v6 v7 wx)
  case first =>
    have kS : ∀ w' : World, Below wq.heap.size wq w' → (w'.cell? ⟨w.heap.size, 0, none⟩ = some (.bool s) ∧ w'.cell? ⟨w.heap.size, 1, none⟩ = some (.slice ao n c) ∧ w'.cell? ⟨w.heap.size, 2, none⟩ = some (.int .i64 x) ∧ Below wq.heap.size wq w') := fun w' hb => ⟨cellStay A.c0 hb, cellStay A.c1 hb, cellStay A.c2 hb, hb⟩
    go_region_held3 (fun w' => w'.cell? ⟨w.heap.size, 0, none⟩ = some (.bool s) ∧ w'.cell? ⟨w.heap.size, 1, none⟩ = some (.slice ao n c) ∧ w'.cell? ⟨w.heap.size, 2, none⟩ = some (.int .i64 x) ∧ Below wq.heap.size wq w')
      ((refine kS _ ?_; (repeat (with_reducible (first | exact hW6 | exact hW5 | exact Below.refl _ _ | refine Below.drew ?_ | refine more ?_ _ | refine Below.setCell ?_ ?_ _ | exact Nat.le_refl _ | exact hs5 | exact Nat.le_trans hs5 hs6))); done))
      (first
      | (go_at_call 172; (with_reducible refine (cO _).mono ?_); rintro en w5 ⟨a5, k5, c5, rfl, F5, hb5⟩; have hW5 : Below wq.heap.size wq w5 := (by first | exact hb5 | exact undrew hb5 | exact next (more (Below.refl _ _) _) hb5 | exact next (more (Below.refl _ _) _).drew hb5); (try have Z := (box1_new wq (.slice none 0 0) 111).stay (by first | exact hb5 | exact undrew hb5)); (try have ⟨z0, z1⟩ := Z); have hs5 := hW5.size)
      | (go_at_call 191; (with_reducible refine (cD _ 0 _ _ _ ?_).mono ?_); (first | exact F5.sl | exact F5.sl.drew | exact F5.sl.alloc _); rintro en w6 ⟨a6, k6, c6, rfl, F6, hb6⟩; have h56 : Below w5.heap.size w5 w6 := (by first | exact hb6 | exact next (more (Below.refl _ _) _) hb6); have hW6 := next hW5 h56; have hs6 := h56.size; (try have ZZ := Z.stay h56); (try have ⟨y0, y1⟩ := ZZ); (try have YY := (box1_new w5 (.slice none 0 0) 111).stay hb6); (try have ⟨y2, y3⟩ := YY)))
    all_goals go_split_ands
    all_goals go_wp2
    all_goals go_meet
    all_goals (try have hzl := ZZ.lt)
    all_goals (try have hyl := YY.lt)
    all_goals (try have hzz := Z.lt)
    all_goals (first
      | exact ⟨a6, k6, c6, _, rfl, rfl, by simp, (F6.alloc _).mono hs5, more hW6 _⟩
      | exact ⟨a6, k6, c6, _, rfl, rfl, ZZ.set _, (F6.setCell (by simp; omega) _).mono hs5, hW6.setCell (by simp) _⟩
      | exact ⟨a6, k6, c6, _, rfl, rfl, YY.set _, (F6.setCell (by simp) _).mono (by simp; omega), hW6.setCell (by simp; omega) _⟩
      | trace_state)
  case rest =>
    obtain ⟨a2, n2, c2, b7, rfl, rfl, Y1, F2, hWc⟩ := hcut
    replace F1 := F1.below hWc
    replace A := A.stay hWc
    replace B := B.stay hWc
    replace X1 := X1.stay hWc
    have hW := next V hWc
    have hWs := hWc.size
    have ⟨x0, _⟩ := X1
    have ⟨p0, p1, p2, _, _, _⟩ := A
    have ⟨b0, b1, b2, bz0, bz1, bz2⟩ := B
    go_wp2
    have ⟨t0, t1, t2⟩ := B.set (.bool s) (.slice o1 k1 e1) (.slice a2 n2 c2)
    refine bodyPost_ret (v := .tuple #[.agg #[.bool s, .slice o1 k1 e1, .slice a2 n2 c2], .int .i64 0]) (by simp [results, Tryz.results89, go_sem, t0, t1, t2]) rfl ?_
    refine ratA_yes HR.out ⟨_, _, _, _, _, _, rfl, (((F1.setCell (by simp; omega) _).setCell (by simp; omega) _).setCell (by simp; omega) _).mono (by omega), (((F2.setCell (by simp; omega) _).setCell (by simp; omega) _).setCell (by simp; omega) _).mono (by omega), ?_, ((hW.setCell (by simp) _).setCell (by simp) _).setCell (by simp) _⟩
    intro g g1 g2
    have q1 := H1 g g1
    have q2 := (fr_lt F2 g2).1
    omega

theorem exRatio_any (s : Bool) (ao : Option Addr) (n c : Nat) (x : Int) (xs : List Nat) (w : World) (h : Sl w ao n c xs) :
    Calls Tryz.prog 89 #[.agg #[.bool s, .slice ao n c, .int .i64 x]] w (RatA s xs x w) := by
  by_cases hd : dchk s xs x = 0
  · by_cases hb : bigE (raN xs x) = 0
    · by_cases hb2 : bigE (raD x) = 0
      · exact exRatio_yes s ao n c x xs w h hd hb hb2
      · exact exRatio_no3 s ao n c x xs w h hd hb hb2
    · exact exRatio_no2 s ao n c x xs w h hd hb
  · exact exRatio_no1 s ao n c x xs w h hd

end Go.Proofs.YtklibjdhlmdkpaaGreatDoor

namespace Go.Proofs.YtklibjdhlmdkpaaGreatDoor

open Go.RowKit Go.Lb

end Go.Proofs.YtklibjdhlmdkpaaGreatDoor

/-
  Contract of numeral/numeralref05: Dyadic. (Printed by wip/gen/dyadic5.py.)
-/
namespace Go.Proofs.YtklibjdhlmdkpaaGreatDoor

open Go.RowKit Go.Lb

attribute [local go_sem] Go.World.cell?_alloc_some

theorem form_yes {e f : Int} (hf : formE e f = 0) : formB e f = true := by
  unfold formE at hf
  cases hh : formB e f
  · rw [if_neg (by rw [hh]; decide)] at hf; exact absurd hf (by decide)
  · rfl

theorem form_not {e f : Int} (hf : formE e f = 5) : formB e f = false := by
  unfold formE at hf
  cases hh : formB e f
  · rfl
  · rw [if_pos hh] at hf; exact absurd hf (by decide)

end Go.Proofs.YtklibjdhlmdkpaaGreatDoor

/-
  Plain: a float's worth rounds to that float, by every mode, without a flag. No program in sight.
-/
namespace Go.Proofs.YtklibjdhlmdkpaaGreatDoor

open Go.RowKit Go.Lb

/-- M times 2 to the power of X, as a fraction. -/
def upN (M : Nat) (X : Int) : Nat := M * 2 ^ X.toNat

def upD (X : Int) : Nat := 2 ^ (-X).toNat

theorem upD_pos (X : Int) : upD X ≠ 0 := Nat.ne_of_gt (Nat.two_pow_pos _)

theorem upN_ne {M : Nat} (h : M ≠ 0) (X : Int) : upN M X ≠ 0 := Nat.mul_ne_zero h (Nat.ne_of_gt (Nat.two_pow_pos _))

theorem up_sc (M : Nat) (X : Int) (F j : Nat) (g : Int) (hg : g = X + F + j) : ∃ K, 0 < K ∧ scN (upN M X) (-g) = M * K ∧ scD (upD X) (-g) = 2 ^ (F + j) * K := by
  refine ⟨2 ^ (X.toNat + (-g).toNat), Nat.two_pow_pos _, ?_, ?_⟩
  · unfold scN upN
    rw [Nat.mul_assoc, ← Nat.pow_add]
  · unfold scD upD
    rw [← Nat.pow_add, ← Nat.pow_add]
    congr 1
    omega

theorem lg_up {M F : Nat} {X : Int} (h1 : 2 ^ F ≤ M) (h2 : M < 2 ^ (F + 1)) : lgE (upN M X) (upD X) = X + F := by
  have hp := Nat.two_pow_pos F
  have hM : M ≠ 0 := by omega
  refine lg_uniq (upD_pos X) (lg_spec (upN_ne hM X) (upD_pos X)) ?_
  obtain ⟨K, hK, e1, e2⟩ := up_sc M X F 0 (X + F) (by omega)
  unfold LgP
  rw [e1, e2, Nat.add_zero]
  refine ⟨Nat.mul_le_mul_right _ h1, ?_⟩
  rw [← Nat.mul_assoc]
  refine Nat.mul_lt_mul_of_pos_right ?_ hK
  rw [Nat.pow_succ] at h2
  omega

theorem lg_up_low {M F : Nat} {X : Int} (h0 : M ≠ 0) (h1 : M < 2 ^ F) : lgE (upN M X) (upD X) < X + F := by
  by_cases h : lgE (upN M X) (upD X) < X + F
  · exact h
  · exfalso
    obtain ⟨a, _⟩ := lg_spec (upN_ne h0 X) (upD_pos X)
    obtain ⟨K, hK, e1, e2⟩ := up_sc M X F (lgE (upN M X) (upD X) - (X + F)).toNat (lgE (upN M X) (upD X)) (by omega)
    rw [e1, e2] at a
    have := Nat.le_of_mul_le_mul_right a hK
    have h3 : 2 ^ F ≤ 2 ^ (F + (lgE (upN M X) (upD X) - (X + F)).toNat) := Nat.pow_le_pow_right (by decide) (by omega)
    omega

/-- A float's fields: e and r the exponent and the fraction, M and X its worth. -/
structure Flt (E F e r M : Nat) (X : Int) : Prop where
  hr : r < 2 ^ F
  he : e < 2 * bsN E + 1
  hm : M = if e = 0 then r else 2 ^ F + r
  hx : X = if e = 0 then 1 - (bsN E : Int) - F else (e : Int) - bsN E - F

theorem Flt.lw {E F e r M : Nat} {X : Int} (h : Flt E F e r M X) (h0 : M ≠ 0) : lwE E (upN M X) (upD X) = X + F := by
  have hr := h.hr
  have hm := h.hm
  have hx := h.hx
  unfold lwE
  by_cases he : e = 0
  · rw [if_pos he] at hm hx
    have := lg_up_low (X := X) h0 (by omega : M < 2 ^ F)
    omega
  · rw [if_neg he] at hm hx
    have := lg_up (F := F) (M := M) (X := X) (by omega) (by rw [Nat.pow_succ]; omega)
    omega

theorem Flt.sc {E F e r M : Nat} {X : Int} (h : Flt E F e r M X) (h0 : M ≠ 0) : ∃ K, 0 < K ∧ scN (upN M X) (F - lwE E (upN M X) (upD X)) = M * K ∧ scD (upD X) (F - lwE E (upN M X) (upD X)) = K := by
  rw [h.lw h0, show (F : Int) - (X + F) = -X by omega]
  refine ⟨2 ^ (X.toNat + (-X).toNat), Nat.two_pow_pos _, ?_, ?_⟩
  · unfold scN upN
    rw [Nat.mul_assoc, ← Nat.pow_add]
  · unfold scD upD
    rw [← Nat.pow_add]
    congr 1
    omega

theorem rd_whole (M : Nat) {K : Nat} (hK : 0 < K) (neg : Bool) (m : Nat) : rdN (M * K) K neg m = M ∧ exB (M * K) K = true := by
  constructor
  · unfold rdN
    rw [if_pos (Nat.mul_mod_left M K), Nat.mul_div_cancel _ hK]
  · unfold exB
    exact decide_eq_true (Nat.mul_mod_left M K)

theorem inf_eq {E : Nat} (hE : 2 ≤ E) (F : Nat) : infN E F = (2 * bsN E + 1) * 2 ^ F := by
  unfold infN bsN
  have h1 : 2 ^ E = 2 * 2 ^ (E - 1) := by
    rw [show 2 * 2 ^ (E - 1) = 2 ^ (E - 1) * 2 by omega, ← Nat.pow_succ]
    congr 1
    omega
  have := Nat.two_pow_pos (E - 1)
  rw [Nat.pow_add, h1, show 2 * (2 ^ (E - 1) - 1) + 1 = 2 * 2 ^ (E - 1) - 1 by omega, Nat.sub_mul, Nat.one_mul]

theorem Flt.bits {E F e r M : Nat} {X : Int} (h : Flt E F e r M X) (hE : 2 ≤ E) (h0 : M ≠ 0) (neg : Bool) (m : Nat) :
    flB E F (upN M X) (upD X) neg m = e * 2 ^ F + r ∧ flG E F (upN M X) (upD X) neg m = 0 := by
  obtain ⟨K, hK, k1, k2⟩ := h.sc h0
  obtain ⟨q1, q2⟩ := rd_whole M hK neg m
  have hlw := h.lw h0
  have hr := h.hr
  have hm := h.hm
  have hx := h.hx
  have he := h.he
  have hM : sgM E F (upN M X) (upD X) neg m = M := by unfold sgM; rw [k1, k2, q1]
  have hX : sgX E F (upN M X) (upD X) = true := by unfold sgX; rw [k1, k2, q2]
  have hB : Lb.sgB E F (upN M X) (upD X) neg m = e * 2 ^ F + r := by
    unfold Lb.sgB
    rw [hM, hlw]
    by_cases h1 : e = 0
    · rw [if_pos h1] at hm hx
      have : (X + F + bsN E - 1).toNat = 0 := by omega
      rw [this, hm, h1]
      omega
    · rw [if_neg h1] at hm hx
      obtain ⟨d, rfl⟩ : ∃ d, e = d + 1 := ⟨e - 1, by omega⟩
      have : (X + F + bsN E - 1).toNat = d := by omega
      rw [this, hm, Nat.add_mul, Nat.one_mul]
      omega
  have hI : e * 2 ^ F + r < infN E F := by
    rw [inf_eq hE]
    have h2 : (e + 1) * 2 ^ F ≤ (2 * bsN E + 1) * 2 ^ F := Nat.mul_le_mul_right _ (by omega)
    rw [Nat.add_mul, Nat.one_mul] at h2
    omega
  have hO : ovB E F (upN M X) (upD X) neg m = false := by
    unfold ovB
    rw [hlw, hB]
    refine decide_eq_false ?_
    rintro (h | h)
    · by_cases h1 : e = 0
      · rw [if_pos h1] at hx
        have : bsN E ≠ 0 := by
          unfold bsN
          have : 2 ^ 1 ≤ 2 ^ (E - 1) := Nat.pow_le_pow_right (by decide) (by omega)
          omega
        omega
      · rw [if_neg h1] at hx
        omega
    · omega
  unfold flB flG
  rw [hO, hB, hX]
  exact ⟨rfl, rfl⟩

/-- Rounded: whatever fraction is of that worth. -/
theorem Flt.round {E F e r M N D : Nat} {X : Int} (h : Flt E F e r M X) (hE : 2 ≤ E) (hD : D ≠ 0) (hx : N * upD X = upN M X * D) (s neg : Bool) (m : Nat) (hz : M = 0 → neg = s) :
    sgBits E F N D (if M = 0 then false else s) neg m = e * 2 ^ F + r + (if s = true then 2 ^ (E + F) else 0) ∧ sgFlags E F N D (if M = 0 then false else s) m = 0 := by
  have hs := sgs_same (E := E) (F := F) hD (upD_pos X) hx (if M = 0 then false else s) neg m
  rw [hs.1, hs.2]
  by_cases h0 : M = 0
  · have hN : upN M X = 0 := by unfold upN; rw [h0, Nat.zero_mul]
    have hm := h.hm
    have he : e = 0 ∧ r = 0 := by
      by_cases h1 : e = 0
      · rw [if_pos h1] at hm; omega
      · rw [if_neg h1] at hm
        have := Nat.two_pow_pos F
        omega
    unfold sgBits sgFlags
    rw [if_pos hN, if_pos hN, he.1, he.2, hz h0]
    exact ⟨by omega, rfl⟩
  · have hN := upN_ne h0 X
    rw [if_neg h0]
    obtain ⟨b1, b2⟩ := h.bits hE h0 s m
    unfold sgBits sgFlags
    rw [if_neg hN, if_neg hN, b1, b2]
    refine ⟨?_, rfl⟩
    cases s <;> simp

end Go.Proofs.YtklibjdhlmdkpaaGreatDoor

/-
  Plain: what Value answers of a float, as a fraction, rounds to that float. No program in sight.
-/
namespace Go.Proofs.YtklibjdhlmdkpaaGreatDoor

open Go.RowKit Go.Lb

theorem pw_is (k : Nat) : pw k = 2 ^ k := by unfold pw; rfl

theorem bias_is (E : Nat) : biasN E = bsN E := by unfold biasN bsN; rfl

theorem flt_of {E F b : Nat} (hE : 2 ≤ E) (hx : exN E F b ≠ maskN E) : Flt E F (exN E F b) (frN F b) (vN E F b) (vX E F b) := by
  have h1 : exN E F b < 2 ^ E := by rw [← pw_is]; exact exN_lt E F b
  have h2 : frN F b < 2 ^ F := by rw [← pw_is]; unfold frN; exact takeN_lt b 0 F
  have h3 : 2 ^ E = 2 * 2 ^ (E - 1) := by
    rw [show 2 * 2 ^ (E - 1) = 2 ^ (E - 1) * 2 by omega, ← Nat.pow_succ]
    congr 1
    omega
  have h4 := Nat.two_pow_pos (E - 1)
  refine ⟨h2, ?_, by unfold vN; rw [pw_is], by unfold vX; rw [bias_is]⟩
  unfold maskN at hx
  unfold bsN
  omega

theorem bits_parts {E F b : Nat} (hb : b < pw (1 + E + F)) : exN E F b * 2 ^ F + frN F b + (if sgB E F b = true then 2 ^ (E + F) else 0) = b ∧ sgB E F b = decide (2 ^ (E + F) ≤ b) := by
  have hP : 0 < 2 ^ F := Nat.two_pow_pos F
  have hQ : 0 < 2 ^ E := Nat.two_pow_pos E
  have e1 : frN F b = b % 2 ^ F := by unfold frN takeN; rw [pw_zero, Nat.div_one, pw_is]
  have e2 : exN E F b = b / 2 ^ F % 2 ^ E := by unfold exN takeN; rw [pw_is, pw_is]
  have e3 : takeN b (F + E) 1 = b / 2 ^ F / 2 ^ E % 2 := by
    unfold takeN
    rw [pw_add, Nat.div_div_eq_div_mul, pw_is, pw_is, pw_is, Nat.pow_one]
  have hs : sgB E F b = decide (b / 2 ^ F / 2 ^ E % 2 ≠ 0) := by unfold sgB; rw [e3]
  have hPQ : 2 ^ (E + F) = 2 ^ F * 2 ^ E := by rw [Nat.add_comm, Nat.pow_add]
  have hb2 : b < 2 ^ F * 2 ^ E * 2 := by
    rw [pw_is] at hb
    rw [show 1 + E + F = F + E + 1 by omega, Nat.pow_succ, Nat.pow_add] at hb
    exact hb
  have hq : b / 2 ^ F / 2 ^ E < 2 := by
    rw [Nat.div_div_eq_div_mul]
    exact Nat.div_lt_of_lt_mul hb2
  have hge : 2 ^ F * 2 ^ E ≤ b ↔ 1 ≤ b / 2 ^ F / 2 ^ E := by
    rw [Nat.div_div_eq_div_mul, Nat.le_div_iff_mul_le (Nat.mul_pos hP hQ), Nat.one_mul]
  have d1 := Nat.div_add_mod b (2 ^ F)
  have d2 := Nat.div_add_mod (b / 2 ^ F) (2 ^ E)
  rw [e1, e2, hs, hPQ]
  have hm : b / 2 ^ F % 2 ^ E * 2 ^ F + 2 ^ F * 2 ^ E * (b / 2 ^ F / 2 ^ E) = 2 ^ F * (b / 2 ^ F) := by
    conv => rhs; rw [← d2]
    rw [Nat.mul_add, Nat.mul_comm (b / 2 ^ F % 2 ^ E), Nat.mul_assoc, Nat.add_comm]
  generalize b / 2 ^ F / 2 ^ E = q at *
  have hq2 : q = 0 ∨ q = 1 := by omega
  rcases hq2 with rfl | rfl
  · have h5 : ¬ 2 ^ F * 2 ^ E ≤ b := fun h => by have := hge.1 h; omega
    constructor
    · simp
      omega
    · rw [decide_eq_false h5]
      rfl
  · have h5 : 2 ^ F * 2 ^ E ≤ b := hge.2 (Nat.le_refl _)
    constructor
    · simp
      omega
    · rw [decide_eq_true h5]
      rfl

theorem chk_small {N : Nat} (h : N < 4294967296 ^ 400) : chk (limbs N) = 0 := by
  have hl : (limbs N).length ≤ 400 := ln_le h
  unfold chk
  rw [if_neg (by omega), if_neg]
  rintro ⟨h1, h2⟩
  exact fine_top (fine_limbs N) (by omega) h2

theorem val_facts {E F b : Nat} (hE : 2 ≤ E) (h11 : E ≤ 11) (hF : F ≤ 52) (h : fitsE (E : Int) (F : Int) b = 0) (hx : exN E F b ≠ maskN E) :
    valE (E : Int) (F : Int) b = 0 ∧ ((vN E F b = 0 ∧ valN (E : Int) (F : Int) b = 0 ∧ valX (E : Int) (F : Int) b = 0 ∧ valS (E : Int) (F : Int) b = false) ∨
      (vN E F b ≠ 0 ∧ ∃ t n : Nat, vN E F b = 2 ^ t * n ∧ n % 2 = 1 ∧ valN (E : Int) (F : Int) b = n ∧ valX (E : Int) (F : Int) b = vX E F b + (t : Int) ∧ valS (E : Int) (F : Int) b = sgB E F b ∧ t ≤ F ∧ n < 2 ^ 53 ∧ -1074 ≤ vX E F b ∧ vX E F b + F ≤ 1023)) := by
  obtain ⟨v1, v2, v3, v4⟩ := val_yes h hx
  have hf := flt_of hE hx
  have f1 := hf.hr
  have f2 := hf.he
  have f3 := hf.hm
  have f4 := hf.hx
  have hbs : bsN E ≤ 1023 := by
    unfold bsN
    have : 2 ^ (E - 1) ≤ 2 ^ 10 := Nat.pow_le_pow_right (by decide) (by omega)
    omega
  have hM : vN E F b < 2 ^ (F + 1) := by rw [Nat.pow_succ]; split at f3 <;> omega
  have hM53 : 2 ^ (F + 1) ≤ 2 ^ 53 := Nat.pow_le_pow_right (by decide) (by omega)
  have hX1 : -1074 ≤ vX E F b := by split at f4 <;> omega
  have hX2 : vX E F b + F ≤ 1023 := by split at f4 <;> omega
  have hc : chk (limbs (vN E F b)) = 0 := chk_small (Nat.lt_of_lt_of_le hM (Nat.le_trans hM53 (by decide +kernel)))
  rw [v1, v2, v3, v4]
  by_cases h0 : vN E F b = 0
  · obtain ⟨m1, m2⟩ := mk_zero (x := vX E F b) hc (by rw [val_limbs']; exact h0)
    obtain ⟨m3, m4, m5⟩ := mk_no (sgB E F b) m1
    exact ⟨m2, .inl ⟨h0, m3, m4, m5⟩⟩
  · obtain ⟨k, hk⟩ := tz_spec h0
    have ht : tz (vN E F b) ≤ F := by
      have h5 := two_pow_tz_le h0
      have h6 : 2 ^ tz (vN E F b) < 2 ^ (F + 1) := Nat.lt_of_le_of_lt h5 hM
      have := (Nat.pow_lt_pow_iff_right (by decide : 1 < 2)).1 h6
      omega
    have hB : mkB (limbs (vN E F b)) (vX E F b) = true := by
      unfold mkB
      rw [val_limbs']
      exact decide_eq_true ⟨hc, h0, by omega, by omega, by omega, by omega⟩
    obtain ⟨m1, m2, m3, m4⟩ := mk_yes (sgB E F b) hB
    rw [val_limbs'] at m1 m2
    have hd : vN E F b / 2 ^ tz (vN E F b) = 2 * k + 1 := by
      conv => lhs; arg 1; rw [hk]
      exact Nat.mul_div_cancel_left _ (Nat.two_pow_pos _)
    have hn : 2 * k + 1 < 2 ^ 53 := by
      rw [← hd]
      exact Nat.lt_of_le_of_lt (Nat.div_le_self _ _) (Nat.lt_of_lt_of_le hM hM53)
    exact ⟨m4, .inr ⟨h0, tz (vN E F b), 2 * k + 1, hk, by omega, by rw [m1, hd], m2, m3, ht, hn, hX1, hX2⟩⟩

theorem up_shift (n t : Nat) (X : Int) : upN n (X + t) * upD X = upN (2 ^ t * n) X * upD (X + t) := by
  unfold upN upD
  rw [Nat.mul_assoc, ← Nat.pow_add, Nat.mul_comm (2 ^ t) n, Nat.mul_assoc, Nat.mul_assoc, ← Nat.pow_add, ← Nat.pow_add]
  congr 2
  omega

theorem near_in {X : Int} {b : Nat} (h1 : -1074 ≤ X) (h2 : X ≤ 1023) : nearZ X b = X := by unfold nearZ; omega

theorem odd_low {n : Nat} (h : n % 2 = 1) : nth (limbs n) 0 % 2 = 1 ∧ (limbs n).length ≠ 0 := by
  rw [limbs_pos (by omega)]
  refine ⟨?_, by simp⟩
  show n % 4294967296 % 2 = 1
  omega

theorem up_small {n : Nat} {X : Int} (hn : n < 2 ^ 53) (h1 : -1074 ≤ X) (h2 : X ≤ 1023) : ln (upN n X) ≤ 34 ∧ ln (upD X) ≤ 34 := by
  obtain ⟨k, hk⟩ : ∃ k, k = 1035 := ⟨_, rfl⟩
  obtain ⟨j, hj⟩ : ∃ j, j = 34 := ⟨_, rfl⟩
  have e : (4294967296 : Nat) ^ j = 2 ^ (53 + k) := (pow32 j).trans (congrArg (fun q => 2 ^ q) (by omega))
  rw [← hj]
  constructor
  · refine ln_le ?_
    rw [e, Nat.pow_add]
    unfold upN
    exact Nat.mul_lt_mul_of_lt_of_le hn (Nat.pow_le_pow_right (by decide) (by omega)) (Nat.two_pow_pos _)
  · refine ln_le ?_
    rw [e]
    unfold upD
    exact Nat.pow_lt_pow_right (by decide) (by omega)

/-- All that the law RoundWorth needs of a finite float. -/
theorem worth_facts {E F b m : Nat} (hE : 2 ≤ E) (h11 : E ≤ 11) (hF : F ≤ 52) (h : fitsE (E : Int) (F : Int) b = 0) (hb : b < pw (1 + E + F)) (hx : exN E F b ≠ maskN E) :
    valE (E : Int) (F : Int) b = 0 ∧ ∃ (n : Nat) (X : Int) (s : Bool), valN (E : Int) (F : Int) b = n ∧ valX (E : Int) (F : Int) b = X ∧ valS (E : Int) (F : Int) b = s ∧
      dchk s (limbs n) X = 0 ∧ n < 2 ^ 53 ∧ -1074 ≤ X ∧ X ≤ 1023 ∧ Nat.gcd (upN n X) (upD X) = 1 ∧ (s = true → upN n X ≠ 0) ∧
      ∀ N D, D ≠ 0 → N * upD X = upN n X * D → sgBits E F N D s (decide (2 ^ (E + F) ≤ b)) m = b ∧ sgFlags E F N D s m = 0 := by
  have hf := flt_of hE hx
  obtain ⟨p1, p2⟩ := bits_parts hb
  obtain ⟨v0, hv⟩ := val_facts hE h11 hF h hx
  refine ⟨v0, ?_⟩
  rcases hv with ⟨h0, v1, v2, v3⟩ | ⟨h0, t, n, ht, hn, v1, v2, v3, htF, hn53, hX1, hX2⟩
  · refine ⟨0, 0, false, v1, v2, v3, by decide, by decide, by decide, by decide, by decide, (fun h => by cases h), fun N D hD hc => ?_⟩
    have hN : N = 0 := by
      have : upN 0 0 = 0 := rfl
      rw [this, Nat.zero_mul] at hc
      rcases Nat.mul_eq_zero.1 hc with h | h
      · exact h
      · exact absurd h (upD_pos 0)
    have := hf.round hE (N := N) hD (by rw [hN]; unfold upN; rw [h0]; omega) (sgB E F b) (decide (2 ^ (E + F) ≤ b)) m (fun _ => p2.symm)
    rw [if_pos h0, p1] at this
    exact this
  · have hne : n ≠ 0 := by omega
    obtain ⟨o1, o2⟩ := odd_low hn
    refine ⟨n, vX E F b + t, sgB E F b, v1, v2, v3, ?_, hn53, by omega, by omega, ?_, fun _ => upN_ne hne _, fun N D hD hc => ?_⟩
    · unfold dchk
      rw [if_neg (by rw [chk_small (Nat.lt_of_lt_of_le hn53 (by decide +kernel))]; simp), if_neg o2, if_neg]
      rintro (h | h)
      · omega
      · have := of_decide_eq_true h
        omega
    · by_cases hp : 0 ≤ vX E F b + t
      · have : upD (vX E F b + t) = 1 := by unfold upD; rw [show (-(vX E F b + (t : Int))).toNat = 0 by omega, Nat.pow_zero]
        rw [this, Nat.gcd_one_right]
      · have e1 : upN n (vX E F b + t) = n := by unfold upN; rw [show (vX E F b + (t : Int)).toNat = 0 by omega, Nat.pow_zero, Nat.mul_one]
        have e2 : tz n = 0 := tz_unique (m := n / 2) (by rw [Nat.pow_zero]; omega)
        rw [e1]
        unfold upD
        rw [gcd_pow hne, e2, Nat.zero_min, Nat.pow_zero]
    · have hs := up_shift n t (vX E F b)
      rw [← ht] at hs
      have hcr : N * upD (vX E F b) = upN (vN E F b) (vX E F b) * D := by
        refine Nat.eq_of_mul_eq_mul_right (Nat.pos_of_ne_zero (upD_pos (vX E F b + t))) ?_
        calc N * upD (vX E F b) * upD (vX E F b + t) = N * upD (vX E F b + t) * upD (vX E F b) := Nat.mul_right_comm _ _ _
          _ = upN n (vX E F b + t) * D * upD (vX E F b) := by rw [hc]
          _ = upN n (vX E F b + t) * upD (vX E F b) * D := Nat.mul_right_comm _ _ _
          _ = upN (vN E F b) (vX E F b) * upD (vX E F b + t) * D := by rw [hs]
          _ = upN (vN E F b) (vX E F b) * D * upD (vX E F b + t) := Nat.mul_right_comm _ _ _
      have := hf.round hE hD hcr (sgB E F b) (decide (2 ^ (E + F) ≤ b)) m (fun h => absurd h h0)
      rw [if_neg h0, p1] at this
      exact this

end Go.Proofs.YtklibjdhlmdkpaaGreatDoor

/-
  Plain: the floats by Down and Up lie one on each side of a fraction, with none between; which of the two the others take. No program in sight.
-/
namespace Go.Proofs.YtklibjdhlmdkpaaGreatDoor

open Go.RowKit Go.Lb

/-- What a float is worth. -/
def wrQ (E F b : Nat) : Rat := sgQ' (valS (E : Int) (F : Int) b) (upN (valN (E : Int) (F : Int) b) (valX (E : Int) (F : Int) b)) (upD (valX (E : Int) (F : Int) b))

theorem sgQ_up (s : Bool) (n : Nat) (X : Int) : sgQ' s (upN n X) (upD X) = ((sgZ s n : Int) : Rat) * p2 X := by
  rw [mul_p2, Rat.num_intCast]
  unfold sgQ' upN upD scD
  rw [Rat.den_intCast, Nat.one_mul]
  congr 1
  unfold sgZ
  cases s
  · simp
  · simp [Int.neg_mul]

theorem worth_rat {E F M b : Nat} {l : Int} {s : Bool} (hE : 2 ≤ E) (h11 : E ≤ 11) (hF : F ≤ 52) (hfit : fitsE (E : Int) (F : Int) b = 0) (hx : exN E F b ≠ maskN E) (hsg : sgB E F b = s) (hv : vN E F b = M ∧ vX E F b = l - F ∨ M = 2 * vN E F b ∧ vX E F b = l - F + 1) :
    wrQ E F b = ((sgZ s M : Int) : Rat) * p2 (l - F) := by
  have two : p2 1 = ((2 : Int) : Rat) := p2_cast 1
  have key : ((sgZ s (vN E F b) : Int) : Rat) * p2 (vX E F b) = ((sgZ s M : Int) : Rat) * p2 (l - F) := by
    rcases hv with ⟨h1, h2⟩ | ⟨h1, h2⟩
    · rw [h1, h2]
    · rw [h2, p2_add, two, h1, Rat.mul_comm (p2 _), ← Rat.mul_assoc, ← Rat.intCast_mul]
      congr 2
      unfold sgZ
      split <;> omega
  rw [← key]
  obtain ⟨_, hv⟩ := val_facts hE h11 hF hfit hx
  unfold wrQ
  rw [sgQ_up]
  rcases hv with ⟨h0, v1, v2, v3⟩ | ⟨h0, t, n, ht, hn, v1, v2, v3, _⟩
  · rw [v1, h0]
    have e0 : ∀ s, sgZ s 0 = 0 := fun s => by cases s <;> rfl
    rw [e0, e0, Rat.intCast_zero, Rat.zero_mul, Rat.zero_mul]
  · rw [v1, v2, v3, hsg, p2_add, p2_cast, ht, Rat.mul_comm (p2 _), ← Rat.mul_assoc, ← Rat.intCast_mul]
    congr 2
    unfold sgZ
    split
    · rw [Nat.mul_comm, Int.neg_mul]; push_cast; rfl
    · rw [Nat.mul_comm]; push_cast; rfl

theorem fits_bits {E F b : Nat} (hf : formE (E : Int) (F : Int) = 0) (hb : b < pw (1 + E + F)) : fitsE (E : Int) (F : Int) b = 0 := by
  unfold fitsE
  rw [if_neg (by simp [hf]), if_pos (by simpa using hb)]

end Go.Proofs.YtklibjdhlmdkpaaGreatDoor

