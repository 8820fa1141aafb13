/-
  Plain: what sums, products, orders and signs of dyadics are. The walks of nat.Up (every way) and exact.level.
-/
import Derived.Test.YtpmncmglmobjoaaGreatDoorQbTUps
set_option maxHeartbeats 1600000
set_option maxRecDepth 100000
namespace Go.Proofs.YtpmncmglmobjoaaGreatDoor
open Go.RowKit Go.Lb
theorem szN_max {xs : List Nat} (hok : Ok xs) (h : chk xs = 0) : szN xs ≤ 524288 := by
 have := chk_zero_len h
 by_cases hn : xs.length = 0
 · rw [szN_zero hn]; omega
 · rw [szN_pos hn]
   have := bitLen_le32 _ (nth_lt hok (xs.length - 1))
   omega
theorem sz_bounds {xs : List Nat} (hok : Ok xs) (hc : chk xs = 0) (h0 : val xs ≠ 0) : 1 ≤ szN xs ∧ 2 ^ (szN xs - 1) ≤ val xs ∧ val xs < 2 ^ szN xs := by
 have hn : xs.length ≠ 0 := fun hh => h0 ((val_zero_iff hok hc).2 hh)
 rw [szN_pos hn]
 have h2 : nth xs (xs.length - 1) ≠ 0 := fun hh => by
  unfold chk at hc
  rw [if_neg (by split at hc <;> omega), if_pos ⟨by omega, hh⟩] at hc
  cases hc
 obtain ⟨b1, b2, b3⟩ := Lib.bitLenAux_bounds 64 (nth xs (xs.length - 1)) (by have := nth_lt hok (xs.length - 1); omega) h2
 have hb : Lib.bitLen (nth xs (xs.length - 1)) = Lib.bitLenAux 64 (nth xs (xs.length - 1)) := rfl
 rw [← hb] at b1 b2 b3
 generalize hB : Lib.bitLen (nth xs (xs.length - 1)) = B at b1 b2 b3
 have hv := val_take_succ (xs := xs) (k := xs.length - 1) (by omega)
 rw [show xs.length - 1 + 1 = xs.length by omega, List.take_of_length_le (Nat.le_refl _), pow32] at hv
 have ht := val_lt (ok_take hok (xs.length - 1))
 rw [List.length_take, Nat.min_eq_left (by omega), pow32] at ht
 generalize hm : 32 * (xs.length - 1) = m at hv ht ⊢
 change val xs = val (xs.take (xs.length - 1)) + 2 ^ m * nth xs (xs.length - 1) at hv
 generalize nth xs (xs.length - 1) = t at hv b2 b3
 generalize val (xs.take (xs.length - 1)) = u at hv ht
 refine ⟨by omega, ?_, ?_⟩
 · rw [show m + B - 1 = m + (B - 1) by omega, Nat.pow_add]
   have := Nat.mul_le_mul_left (2 ^ m) b2
   omega
 · rw [Nat.pow_add]
   have := Nat.mul_le_mul_left (2 ^ m) (show t + 1 ≤ 2 ^ B by omega)
   rw [Nat.mul_add] at this
   omega
theorem up_fits {xs : List Nat} (hok : Ok xs) (hc : chk xs = 0) (h0 : val xs ≠ 0) (k : Nat) : (limbs (val xs * 2 ^ k)).length ≤ 16384 ↔ k + szN xs ≤ 524288 := by
 obtain ⟨b1, b2, b3⟩ := sz_bounds hok hc h0
 rw [len_big]
 obtain ⟨M, hM⟩ : ∃ M : Nat, M = 524288 := ⟨_, rfl⟩
 rw [show 32 * 16384 = M by omega, ← hM]
 constructor
 · intro h
   by_cases hh : k + szN xs ≤ M
   · exact hh
   · exfalso
     have h3 := Nat.mul_le_mul_right (2 ^ k) b2
     rw [← Nat.pow_add] at h3
     have h4 : 2 ^ M ≤ 2 ^ (szN xs - 1 + k) := Nat.pow_le_pow_right (by decide) (by omega)
     omega
 · intro h
   have h3 := Nat.mul_lt_mul_of_pos_right b3 (Nat.two_pow_pos k)
   rw [← Nat.pow_add] at h3
   have h4 : 2 ^ (szN xs + k) ≤ 2 ^ M := Nat.pow_le_pow_right (by decide) (by omega)
   omega
theorem chk_limbs {N : Nat} (h : (limbs N).length ≤ 16384) : chk (limbs N) = 0 := by
 unfold chk
 rw [if_neg (by omega), if_neg]
 intro ⟨h1, h2⟩
 have hf := (fine_limbs N).2
 rw [List.getLast?_eq_getElem?] at hf
 unfold nth at h2
 rw [List.getD_eq_getElem?_getD] at h2
 have : (limbs N)[(limbs N).length - 1]? = some (limbs N)[(limbs N).length - 1] := List.getElem?_eq_getElem (by omega)
 rw [this] at hf h2
 exact hf (congrArg some h2)
structure Ds where
 s : Bool
 N : Nat
 x : Int
 e : Int
def Dyn (d : Ds) (w : World) (e : Ending) (w' : World) : Prop :=
 ∃ ao n c, e = .returned (.tuple #[.agg #[.bool d.s, .slice ao n c, .int .i64 d.x], .int .i64 d.e]) ∧ Fr 40 w' w.heap.size ao n c (limbs d.N) ∧ Below w.heap.size w w'
def noA (e : Int) : Ds := ⟨false, 0, 0, e⟩
def mkA (s : Bool) (N : Nat) (x : Int) : Ds := ⟨mkS s (limbs N) x, mkN (limbs N) x, mkX (limbs N) x, mkE (limbs N) x⟩
theorem dyn_no {er : Int} {w w' : World} (h : Below w.heap.size w w') : Dyn (noA er) w (.returned (.tuple #[.agg #[.bool false, .slice none 0 0, .int .i64 0], .int .i64 er])) w' :=
 ⟨none, 0, 0, rfl, fr_nil _ _ _, h⟩
def lvN (N : Nat) (x y : Int) : Nat := N * 2 ^ (x - min x y).toNat
def addA (s : Bool) (xs : List Nat) (x : Int) (t : Bool) (ys : List Nat) (y : Int) : Ds :=
 if dchk s xs x ≠ 0 then noA (dchk s xs x) else if dchk t ys y ≠ 0 then noA (dchk t ys y) else
 if val xs = 0 then ⟨t, val ys, y, 0⟩ else if val ys = 0 then ⟨s, val xs, x, 0⟩ else
 if bigE (lvN (val xs) x y) ≠ 0 ∨ bigE (lvN (val ys) y x) ≠ 0 then noA 4 else
 if s = t then (if bigE (lvN (val xs) x y + lvN (val ys) y x) ≠ 0 then noA 4 else mkA s (lvN (val xs) x y + lvN (val ys) y x) (min x y))
 else if lvN (val ys) y x ≤ lvN (val xs) x y then mkA s (lvN (val xs) x y - lvN (val ys) y x) (min x y) else mkA t (lvN (val ys) y x - lvN (val xs) x y) (min x y)
def mulA (s : Bool) (xs : List Nat) (x : Int) (t : Bool) (ys : List Nat) (y : Int) : Ds :=
 if dchk s xs x ≠ 0 then noA (dchk s xs x) else if dchk t ys y ≠ 0 then noA (dchk t ys y) else
 if val xs = 0 ∨ val ys = 0 then noA 0 else if bigE (val xs * val ys) ≠ 0 then noA 4 else mkA (s != t) (val xs * val ys) (x + y)
def cmpF (s : Bool) (xs : List Nat) (x : Int) (t : Bool) (ys : List Nat) (y : Int) : Int := if dchk s xs x ≠ 0 then dchk s xs x else dchk t ys y
theorem dchk_chk {s : Bool} {xs : List Nat} {x : Int} (h : dchk s xs x = 0) : chk xs = 0 := by
 unfold dchk at h
 by_cases hc : chk xs = 0
 · exact hc
 · rw [if_pos hc] at h
   exact h
theorem dchk_exp {s : Bool} {xs : List Nat} {x : Int} (h : dchk s xs x = 0) : -1073741824 ≤ x ∧ x ≤ 1073741824 := by
 have hc := dchk_chk h
 unfold dchk farB at h
 rw [if_neg (by simp [hc])] at h
 split at h
 · split at h
   · cases h
   · omega
 · split at h
   · cases h
   · simp at *
     omega
theorem natUp_zero (ao : Option Addr) (n c k : Nat) (ys : List Nat) (w : World) (h : Sl w ao n c ys) (hc : chk ys = 0) (h0 : val ys = 0) :
 Calls Tryz.prog 41 #[.agg #[.slice ao n c], .int .i64 k] w (Numb w 0 0) := by
 have hn0 := (val_zero_iff h.ok hc).1 h0
 have hb0 : bitsN ys = 0 := by unfold bitsN; rw [if_pos hc, szN_zero hn0]; rfl
 go_enter Tryz.func41, Tryz.ntmps41
 go_wp2_with (go_at_call 79; refine (natBits_any ao n c ys _ ((h.alloc _).alloc _)).mono ?_; rintro e w1 ⟨rfl, hb1⟩; rw [hb0, hc]; have A := ((box1_new w _ _).alloc _).stay hb1; have B := (box1_new _ _ _).stay hb1; rw [World.size_alloc] at B; have ⟨a0, az⟩ := A; have ⟨b0, bz⟩ := B; have hW := next (more (more (Below.refl _ _) _) _) hb1)
 refine bodyPost_ret (v := .tuple #[.agg #[.slice none 0 0], .int .i64 0]) (by simp [results, Tryz.results41, go_sem, B.set]) rfl ⟨none, 0, 0, rfl, ?_, hW.setCell (by simp) _⟩
 rw [limbs_zero]
 exact fr_nil _ _ _
theorem natUp_many (ao : Option Addr) (n c k : Nat) (ys : List Nat) (w : World) (h : Sl w ao n c ys) (hc : chk ys = 0) (h0 : val ys ≠ 0) (hk : ¬ k + szN ys ≤ 524288) :
 Calls Tryz.prog 41 #[.agg #[.slice ao n c], .int .i64 k] w (Numb w 0 4) := by
 have hb0 : bitsN ys = (szN ys : Int) := by unfold bitsN; rw [if_pos hc]
 have hs := (sz_bounds h.ok hc h0).1
 have hm := szN_max h.ok hc
 generalize szN ys = z at hb0 hk hs hm
 have hzB : ((z : Int) == 0) = false := by simp; omega
 have hgt : (524288 : Int) - (z : Int) < (k : Int) := by omega
 go_enter Tryz.func41, Tryz.ntmps41
 go_wp2_with (go_at_call 79; refine (natBits_any ao n c ys _ ((h.alloc _).alloc _)).mono ?_; rintro e w1 ⟨rfl, hb1⟩; rw [hb0, hc]; have A := ((box1_new w _ _).alloc _).stay hb1; have B := (box1_new _ _ _).stay hb1; rw [World.size_alloc] at B; have ⟨a0, az⟩ := A; have ⟨b0, bz⟩ := B; have hW := next (more (more (Below.refl _ _) _) _) hb1)
 refine bodyPost_ret (v := .tuple #[.agg #[.slice none 0 0], .int .i64 4]) (by simp [results, Tryz.results41, go_sem, B.set]) rfl ⟨none, 0, 0, rfl, ?_, hW.setCell (by simp) _⟩
 rw [limbs_zero]
 exact fr_nil _ _ _
theorem natUp_any (ao : Option Addr) (n c k : Nat) (ys : List Nat) (w : World) (h : Sl w ao n c ys) (hc : chk ys = 0) :
 Calls Tryz.prog 41 #[.agg #[.slice ao n c], .int .i64 k] w (Numb w (bigN (val ys * 2 ^ k)) (bigE (val ys * 2 ^ k))) := by
 by_cases h0 : val ys = 0
 · rw [h0, Nat.zero_mul]
   exact natUp_zero ao n c k ys w h hc h0
 · by_cases hk : k + szN ys ≤ 524288
   · have hB := bigE_ok ((up_fits h.ok hc h0 k).2 hk)
     rw [hB.1, hB.2]
     exact natUp_ok ao n c k ys w h hc h0 hk
   · have hB := bigE_many (fun hh => hk ((up_fits h.ok hc h0 k).1 hh))
     rw [hB.1, hB.2]
     exact natUp_many ao n c k ys w h hc h0 hk
theorem natUp_i (ao : Option Addr) (n c : Nat) (k : Int) (hk : 0 ≤ k) (ys : List Nat) (w : World) (h : Sl w ao n c ys) (hc : chk ys = 0) :
 Calls Tryz.prog 41 #[.agg #[.slice ao n c], .int .i64 k] w (Numb w (bigN (val ys * 2 ^ k.toNat)) (bigE (val ys * 2 ^ k.toNat))) := by
 obtain ⟨k, rfl⟩ := Int.eq_ofNat_of_zero_le hk
 exact natUp_any ao n c k ys w h hc
def Lvl (P Q : Nat) (m er : Int) (w : World) (e : Ending) (w' : World) : Prop :=
 ∃ a1 n1 c1 a2 n2 c2, e = .returned (.tuple #[.agg #[.slice a1 n1 c1], .agg #[.slice a2 n2 c2], .int .i64 m, .int .i64 er]) ∧ Fr 40 w' w.heap.size a1 n1 c1 (limbs P) ∧ Fr 40 w' w.heap.size a2 n2 c2 (limbs Q) ∧ Below w.heap.size w w'
theorem level_ok (s t : Bool) (a1 a2 : Option Addr) (n1 n2 c1 c2 : Nat) (x y : Int) (xs ys : List Nat) (w : World) (h1 : Sl w a1 n1 c1 xs) (h2 : Sl w a2 n2 c2 ys) (hx : chk xs = 0) (hy : chk ys = 0)
 (x1 : -1073741824 ≤ x) (x2 : x ≤ 1073741824) (y1 : -1073741824 ≤ y) (y2 : y ≤ 1073741824) (g1 : bigE (lvN (val xs) x y) = 0) :
 Calls Tryz.prog 76 #[.agg #[.bool s, .slice a1 n1 c1, .int .i64 x], .agg #[.bool t, .slice a2 n2 c2, .int .i64 y]] w (Lvl (bigN (lvN (val xs) x y)) (bigN (lvN (val ys) y x)) (min x y) (bigE (lvN (val ys) y x)) w) := by
 have hm : min x y ≤ x := Int.min_le_left _ _
 have hm2 : min x y ≤ y := Int.min_le_right _ _
 have hm3 : -1073741824 ≤ min x y := by omega
 have hl1 : lvN (val xs) x y = val xs * 2 ^ (x - min x y).toNat := rfl
 have hl2 : lvN (val ys) y x = val ys * 2 ^ (y - min x y).toNat := by unfold lvN; rw [Int.min_comm]
 rw [hl2]
 rw [hl1] at g1 ⊢
 clear hl1 hl2
 go_enter Tryz.func76, Tryz.ntmps76
 go_wp2_with (first
  | (go_at_call 41; (with_reducible refine (natUp_i a1 n1 c1 _ (by omega) xs _ ((((h1.alloc _).alloc _).alloc _).alloc _) hx).mono ?_); rintro e w3 ⟨ao, k, c, rfl, hF, hb1⟩; rw [g1]; have A := ((((box3_new w _ _ _ _).alloc _).alloc _).alloc _).stay hb1; have B := (((box3_new _ _ _ _ _).alloc _).alloc _).stay hb1; have X := ((box1_new _ _ _).alloc _).stay hb1; have Y := (box1_new _ _ _).stay hb1; rw [World.size_alloc] at B; rw [World.size_alloc, World.size_alloc] at X; rw [World.size_alloc, World.size_alloc, World.size_alloc] at Y; have ⟨q0, q1, q2, qz0, qz1, qz2⟩ := A; have ⟨p0, p1, p2, pz0, pz1, pz2⟩ := B; have ⟨r0, rz⟩ := X; have ⟨v0, vz⟩ := Y; have hW := next (more (more (more (more (Below.refl _ _) _) _) _) _) hb1; have lX := X.lt; have lY := Y.lt; have hWx := hW.setCell (p := ⟨w.heap.size + 1 + 1, 0, none⟩) (by simp <;> omega) (.slice ao k c); have X' := X.set (.slice ao k c); have Y' := (World.cell?_setCell_other w3 ⟨w.heap.size + 1 + 1, 0, none⟩ ⟨w.heap.size + 1 + 1 + 1, 0, none⟩ (.slice ao k c) (by simp)).trans v0)
  | (go_at_call 41; (with_reducible refine (natUp_i a2 n2 c2 _ (by omega) ys _ (h2.below hWx) hy).mono ?_); rintro e w4 ⟨bo, kk, cc, rfl, hG, hb2⟩; have ⟨X4, Xz4⟩ := cfStay ⟨X', (World.frozen?_setCell ..).trans rz⟩ hb2; have ⟨Y4, Yz4⟩ := cfStay ⟨Y', (World.frozen?_setCell ..).trans vz⟩ hb2; have hW4 := next hWx hb2; have hF4 := (hF.setCell (p := ⟨w.heap.size + 1 + 1, 0, none⟩) (by simp <;> omega) (.slice ao k c)).below hb2; have X5 := (World.cell?_setCell_other w4 ⟨w.heap.size + 1 + 1 + 1, 0, none⟩ ⟨w.heap.size + 1 + 1, 0, none⟩ (.slice bo kk cc) (by simp)).trans X4; have Y5 := World.cell?_setCell_same w4 ⟨w.heap.size + 1 + 1 + 1, 0, none⟩ (.slice bo kk cc) Y4))
 go_region
 all_goals go_wp2
 have X6 := World.cell?_setCell_same _ ⟨w.heap.size + 1 + 1, 0, none⟩ (.slice ao k c) X5
 have Y6 := World.cell?_setCell_same _ ⟨w.heap.size + 1 + 1 + 1, 0, none⟩ (.slice bo kk cc) ((World.cell?_setCell_other _ ⟨w.heap.size + 1 + 1, 0, none⟩ ⟨w.heap.size + 1 + 1 + 1, 0, none⟩ (.slice ao k c) (by simp)).trans Y5)
 refine bodyPost_ret (v := .tuple #[.agg #[.slice ao k c], .agg #[.slice bo kk cc], .int .i64 (min x y), .int .i64 (bigE (val ys * 2 ^ (y - min x y).toNat))]) (by simp [results, Tryz.results76, go_sem, X6, Y6]) rfl ⟨ao, k, c, bo, kk, cc, rfl, ?_, ?_, ?_⟩
 · refine Fr.mono (Fr.drew (Fr.setCell (Fr.setCell (Fr.setCell hF4 ?_ _) ?_ _) ?_ _)) (by simp <;> omega : w.heap.size ≤ _) <;> (simp <;> omega)
 · have l3 := hWx.size
   refine Fr.mono (Fr.drew (Fr.setCell (Fr.setCell (Fr.setCell hG ?_ _) ?_ _) ?_ _)) l3 <;> simpa using (by omega)
 · exact (((hW4.setCell (by simp <;> omega) _).setCell (by simp <;> omega) _).setCell (by simp <;> omega) _).drew
theorem level_many (s t : Bool) (a1 a2 : Option Addr) (n1 n2 c1 c2 : Nat) (x y : Int) (xs : List Nat) (w : World) (h1 : Sl w a1 n1 c1 xs) (hx : chk xs = 0)
 (x1 : -1073741824 ≤ x) (x2 : x ≤ 1073741824) (y1 : -1073741824 ≤ y) (y2 : y ≤ 1073741824) (g1 : bigE (lvN (val xs) x y) = 4) :
 Calls Tryz.prog 76 #[.agg #[.bool s, .slice a1 n1 c1, .int .i64 x], .agg #[.bool t, .slice a2 n2 c2, .int .i64 y]] w (Lvl (bigN (lvN (val xs) x y)) 0 (min x y) 4 w) := by
 have hm : min x y ≤ x := Int.min_le_left _ _
 have hm2 : min x y ≤ y := Int.min_le_right _ _
 have hm3 : -1073741824 ≤ min x y := by omega
 have hl1 : lvN (val xs) x y = val xs * 2 ^ (x - min x y).toNat := rfl
 rw [hl1] at g1 ⊢
 clear hl1
 go_enter Tryz.func76, Tryz.ntmps76
 go_wp2_with (first
  | (go_at_call 41; (with_reducible refine (natUp_i a1 n1 c1 _ (by omega) xs _ ((((h1.alloc _).alloc _).alloc _).alloc _) hx).mono ?_); rintro e w3 ⟨ao, k, c, rfl, hF, hb1⟩; rw [g1]; have X := ((box1_new _ _ _).alloc _).stay hb1; have Y := (box1_new _ _ _).stay hb1; rw [World.size_alloc, World.size_alloc] at X; rw [World.size_alloc, World.size_alloc, World.size_alloc] at Y; have ⟨r0, rz⟩ := X; have ⟨v0, vz⟩ := Y; have hW := next (more (more (more (more (Below.refl _ _) _) _) _) _) hb1; have lX := X.lt; have lY := Y.lt; have hWx := hW.setCell (p := ⟨w.heap.size + 1 + 1, 0, none⟩) (by simp <;> omega) (.slice ao k c); have X' := X.set (.slice ao k c); have Y' := (World.cell?_setCell_other w3 ⟨w.heap.size + 1 + 1, 0, none⟩ ⟨w.heap.size + 1 + 1 + 1, 0, none⟩ (.slice ao k c) (by simp)).trans v0))
 go_region
 all_goals go_wp2
 have X6 := World.cell?_setCell_same _ ⟨w.heap.size + 1 + 1, 0, none⟩ (.slice ao k c) X'
 have Y6 := World.cell?_setCell_same _ ⟨w.heap.size + 1 + 1 + 1, 0, none⟩ (.slice none 0 0) ((World.cell?_setCell_other _ ⟨w.heap.size + 1 + 1, 0, none⟩ ⟨w.heap.size + 1 + 1 + 1, 0, none⟩ (.slice ao k c) (by simp)).trans Y')
 refine bodyPost_ret (v := .tuple #[.agg #[.slice ao k c], .agg #[.slice none 0 0], .int .i64 (min x y), .int .i64 4]) (by simp [results, Tryz.results76, go_sem, X6, Y6]) rfl ⟨ao, k, c, none, 0, 0, rfl, ?_, fr_nil _ _ _, ?_⟩
 · refine Fr.mono (Fr.drew (Fr.setCell (Fr.setCell (Fr.setCell hF ?_ _) ?_ _) ?_ _)) (by simp <;> omega : w.heap.size ≤ _) <;> (simp <;> omega)
 · exact (((hW.setCell (by simp <;> omega) _).setCell (by simp <;> omega) _).setCell (by simp <;> omega) _).drew
def sgI (s : Bool) (n : Nat) : Int := if s = true then -(n : Int) else (n : Int)
def upW (N : Nat) (x b : Int) : Nat := N * 2 ^ (x - b).toNat
def wI (s : Bool) (N : Nat) (x b : Int) : Int := sgI s (upW N x b)
structure Dy (s : Bool) (N : Nat) (x : Int) : Prop where
 zero : N = 0 → s = false ∧ x = 0
 odd : N ≠ 0 → N % 2 = 1
 lo : -1073741824 ≤ x
 hi : x ≤ 1073741824
 len : (limbs N).length ≤ 16384
theorem sgI_zero {s : Bool} {n : Nat} : sgI s n = 0 ↔ n = 0 := by
 unfold sgI
 split <;> omega
theorem sgI_abs (s : Bool) (n : Nat) : (sgI s n).natAbs = n := by
 unfold sgI
 split <;> omega
theorem sgI_mul (s t : Bool) (m n : Nat) : sgI (s != t) (m * n) = sgI s m * sgI t n := by
 unfold sgI
 cases s <;> cases t <;> simp [Int.neg_mul, Int.mul_neg]
theorem len_mono {S T k : Nat} (h : (limbs T).length ≤ k) (hs : S ≤ T) : (limbs S).length ≤ k := by
 rw [limbs_length_le_iff] at h ⊢
 exact Nat.lt_of_le_of_lt hs h
theorem len_pow {S k K : Nat} (h : S < 2 ^ K) (hk : K ≤ 32 * k) : (limbs S).length ≤ k := by
 rw [len_big]
 exact Nat.lt_of_lt_of_le h (Nat.pow_le_pow_right (by decide) hk)
theorem upW_zero (x b : Int) : upW 0 x b = 0 := by
 unfold upW
 omega
theorem wI_zero (s : Bool) (x b : Int) : wI s 0 x b = 0 := by
 unfold wI
 rw [upW_zero]
 unfold sgI
 split <;> omega
theorem upW_pos {N : Nat} {x b : Int} (h : N ≠ 0) : 0 < upW N x b := Nat.mul_pos (by omega) (Nat.two_pow_pos _)
theorem upW_down {N : Nat} {x m b : Int} (h : m ≤ x) (hb : b ≤ m) : upW N x b = upW N x m * 2 ^ (m - b).toNat := by
 unfold upW
 rw [Nat.mul_assoc, ← Nat.pow_add]
 congr 2
 omega
theorem nth0_limbs {N : Nat} : nth (limbs N) 0 % 2 = N % 2 := by
 have hb := bitL_eq (ok_limbs N) 0
 unfold bitL at hb
 simp only [Nat.zero_div, Nat.zero_mod, Nat.pow_zero, Nat.div_one] at hb
 rw [hb, val_limbs']
theorem Dy.chk {s : Bool} {N : Nat} {x : Int} (h : Dy s N x) : dchk s (limbs N) x = 0 := by
 have hc := chk_limbs h.len
 unfold dchk
 rw [if_neg (by simp [hc])]
 by_cases h0 : N = 0
 · obtain ⟨rfl, rfl⟩ := h.zero h0
   rw [if_pos (by rw [h0]; rfl), if_neg (by simp)]
 · rw [if_neg (fun hl => h0 (limbs_eq_nil.1 (List.length_eq_zero_iff.1 hl))), if_neg]
   rw [nth0_limbs, h.odd h0]
   unfold farB
   have h1 := h.lo
   have h2 := h.hi
   have : ¬ (x < -1073741824 ∨ 1073741824 < x) := by omega
   simp [this]
theorem dy_zero : Dy false 0 0 := ⟨fun _ => ⟨rfl, rfl⟩, fun h => absurd rfl h, by decide, by decide, by decide⟩
theorem dy_one {s t : Bool} {N M : Nat} {x y b : Int} (h1 : Dy s N x) (h2 : Dy t M y) (hx : N ≠ 0 → b ≤ x) (hy : M ≠ 0 → b ≤ y) (h : wI s N x b = wI t M y b) : s = t ∧ N = M ∧ x = y := by
 have hu : upW N x b = upW M y b := by
  have := congrArg Int.natAbs h
  unfold wI at this
  rwa [sgI_abs, sgI_abs] at this
 by_cases h0 : N = 0
 · have hM : M = 0 := Classical.byContradiction fun hM => by
    have := upW_pos (x := y) (b := b) hM
    rw [h0, upW_zero] at hu
    omega
   obtain ⟨rfl, rfl⟩ := h1.zero h0
   obtain ⟨rfl, rfl⟩ := h2.zero hM
   exact ⟨rfl, by omega, rfl⟩
 · have hM : M ≠ 0 := fun hM => by
    have := upW_pos (x := x) (b := b) h0
    rw [hM, upW_zero] at hu
    omega
   have o1 := h1.odd h0
   have o2 := h2.odd hM
   have hp := upW_pos (x := x) (b := b) h0
   have hs : s = t := by
    unfold wI sgI at h
    cases s <;> cases t <;> simp at h ⊢ <;> omega
   have g1 := hx h0
   have g2 := hy hM
   obtain ⟨i, hi⟩ := Int.eq_ofNat_of_zero_le (show 0 ≤ x - b by omega)
   obtain ⟨j, hj⟩ := Int.eq_ofNat_of_zero_le (show 0 ≤ y - b by omega)
   unfold upW at hu
   rw [hi, hj, Int.toNat_natCast, Int.toNat_natCast] at hu
   have e1 : tz (N * 2 ^ i) = i := tz_unique (m := N / 2) (by rw [Nat.mul_comm]; congr 1; omega)
   have e2 : tz (M * 2 ^ j) = j := tz_unique (m := M / 2) (by rw [Nat.mul_comm]; congr 1; omega)
   have hij : i = j := by rw [← e1, ← e2, hu]
   subst hij
   exact ⟨hs, Nat.eq_of_mul_eq_mul_right (Nat.two_pow_pos i) hu, by omega⟩
structure Wo (d : Ds) (b : Int) (W : Int) : Prop where
 dy : Dy d.s d.N d.x
 low : d.N ≠ 0 → b ≤ d.x
 wo : wI d.s d.N d.x b = W
theorem Wo.one {d f : Ds} {b W : Int} (h : Wo d b W) (g : Wo f b W) : d.s = f.s ∧ d.N = f.N ∧ d.x = f.x :=
 dy_one h.dy g.dy h.low g.low (h.wo.trans g.wo.symm)
theorem wo_zero {b W : Int} {e : Int} (h : W = 0) : Wo ⟨false, 0, 0, e⟩ b W := ⟨dy_zero, fun hh => absurd rfl hh, by rw [h]; exact wI_zero _ _ _⟩
theorem tz_part {S : Nat} (h : S ≠ 0) : S / 2 ^ tz S * 2 ^ tz S = S := by
 obtain ⟨m, hm⟩ := tz_spec h
 exact Nat.div_mul_cancel ⟨2 * m + 1, hm⟩
theorem mkA_zero (s : Bool) (x : Int) : mkA s 0 x = noA 0 := by
 have hc : chk (limbs 0) = 0 := rfl
 obtain ⟨h1, h2⟩ := mk_zero (x := x) hc rfl
 obtain ⟨g1, g2, g3⟩ := mk_no s h1
 unfold mkA noA
 rw [g1, g2, g3, h2]
theorem mkA_worth {s : Bool} {S : Nat} {x b : Int} (h : (limbs S).length ≤ 16384) (hb : S ≠ 0 → b ≤ x) (he : (mkA s S x).e = 0) : Wo (mkA s S x) b (wI s S x b) := by
 by_cases h0 : S = 0
 · subst h0
   rw [mkA_zero]
   exact wo_zero (wI_zero _ _ _)
 · have hB : mkB (limbs S) x = true := by
    cases hh : mkB (limbs S) x
    · have := mk_many (chk_limbs h) (by rw [val_limbs']; exact h0) hh
      change mkE (limbs S) x = 0 at he
      rw [this] at he
      cases he
    · rfl
   obtain ⟨g1, g2, g3, g4⟩ := mk_yes s hB
   have hB' := of_decide_eq_true hB
   rw [val_limbs'] at hB' g1 g2
   unfold mkA
   rw [g1, g2, g3, g4]
   have hp := tz_part h0
   have ho := tz_odd h0
   refine ⟨⟨fun hz => ?_, fun _ => ho, hB'.2.2.2.2.1, hB'.2.2.2.2.2, ?_⟩, fun _ => ?_, ?_⟩
   · simp only at hz
     rw [hz] at ho
     cases ho
   · exact len_mono h (Nat.div_le_self _ _)
   · have := hb h0
     simp only
     omega
   · have := hb h0
     unfold wI upW
     simp only
     rw [show (x + (tz S : Int) - b).toNat = tz S + (x - b).toNat by omega, Nat.pow_add, ← Nat.mul_assoc, hp]
theorem lvN_up {N : Nat} {x y b : Int} (hx : b ≤ x) (hy : b ≤ y) : upW N x b = lvN N x y * 2 ^ (min x y - b).toNat := by
 have := upW_down (N := N) (x := x) (m := min x y) (b := b) (by omega) (by omega)
 rw [this]
 rfl
theorem addA_dy {s t : Bool} {N M : Nat} {x y : Int} (h1 : Dy s N x) (h2 : Dy t M y) : addA s (limbs N) x t (limbs M) y =
 if N = 0 then ⟨t, M, y, 0⟩ else if M = 0 then ⟨s, N, x, 0⟩ else
 if bigE (lvN N x y) ≠ 0 ∨ bigE (lvN M y x) ≠ 0 then noA 4 else
 if s = t then (if bigE (lvN N x y + lvN M y x) ≠ 0 then noA 4 else mkA s (lvN N x y + lvN M y x) (min x y))
 else if lvN M y x ≤ lvN N x y then mkA s (lvN N x y - lvN M y x) (min x y) else mkA t (lvN M y x - lvN N x y) (min x y) := by
 unfold addA
 rw [if_neg (by simp [h1.chk]), if_neg (by simp [h2.chk]), val_limbs', val_limbs']
theorem big_ok {S : Nat} (h : bigE S = 0) : (limbs S).length ≤ 16384 := by
 unfold bigE at h
 split at h
 · assumption
 · cases h
theorem sum_same (s : Bool) (L M k : Nat) : sgI s ((L + M) * k) = sgI s (L * k) + sgI s (M * k) := by
 rw [Nat.add_mul]
 unfold sgI
 split <;> omega
theorem sum_less {s t : Bool} (h : s ≠ t) {L M k : Nat} (hl : M ≤ L) : sgI s ((L - M) * k) = sgI s (L * k) + sgI t (M * k) := by
 rw [Nat.sub_mul]
 have := Nat.mul_le_mul_right k hl
 generalize L * k = a at *
 generalize M * k = c at *
 unfold sgI
 cases s <;> cases t <;> simp at h ⊢ <;> omega
theorem addA_worth {s t : Bool} {N M : Nat} {x y b : Int} (h1 : Dy s N x) (h2 : Dy t M y) (hx : N ≠ 0 → b ≤ x) (hy : M ≠ 0 → b ≤ y) (he : (addA s (limbs N) x t (limbs M) y).e = 0) :
 Wo (addA s (limbs N) x t (limbs M) y) b (wI s N x b + wI t M y b) := by
 rw [addA_dy h1 h2] at he ⊢
 by_cases hN : N = 0
 · rw [if_pos hN, hN, wI_zero, Int.zero_add]
   exact ⟨h2, hy, rfl⟩
 · rw [if_neg hN] at he ⊢
   by_cases hM : M = 0
   · rw [if_pos hM, hM, wI_zero, Int.add_zero]
     exact ⟨h1, hx, rfl⟩
   · rw [if_neg hM] at he ⊢
     have gx := hx hN
     have gy := hy hM
     by_cases hb : bigE (lvN N x y) ≠ 0 ∨ bigE (lvN M y x) ≠ 0
     · rw [if_pos hb] at he
       cases he
     · rw [if_neg hb] at he ⊢
       have hb1 : bigE (lvN N x y) = 0 := Classical.byContradiction fun hh => hb (.inl hh)
       have hb2 : bigE (lvN M y x) = 0 := Classical.byContradiction fun hh => hb (.inr hh)
       have hm : b ≤ min x y := by omega
       have e1 : wI s N x b = sgI s (lvN N x y * 2 ^ (min x y - b).toNat) := by unfold wI; rw [lvN_up gx gy]
       have e2 : wI t M y b = sgI t (lvN M y x * 2 ^ (min x y - b).toNat) := by unfold wI; rw [lvN_up gy gx, Int.min_comm]
       rw [e1, e2]
       by_cases hst : s = t
       · rw [if_pos hst] at he ⊢
         by_cases hb3 : bigE (lvN N x y + lvN M y x) ≠ 0
         · rw [if_pos hb3] at he
           cases he
         · rw [if_neg hb3] at he ⊢
           rw [← hst, ← sum_same]
           exact mkA_worth (big_ok (Classical.byContradiction hb3)) (fun _ => hm) he
       · rw [if_neg hst] at he ⊢
         by_cases hl : lvN M y x ≤ lvN N x y
         · rw [if_pos hl] at he ⊢
           rw [← sum_less hst hl]
           exact mkA_worth (len_mono (big_ok hb1) (Nat.sub_le _ _)) (fun _ => hm) he
         · rw [if_neg hl] at he ⊢
           rw [Int.add_comm, ← sum_less (fun h => hst h.symm) (by omega : lvN N x y ≤ lvN M y x)]
           exact mkA_worth (len_mono (big_ok hb2) (Nat.sub_le _ _)) (fun _ => hm) he
theorem mulA_dy {s t : Bool} {N M : Nat} {x y : Int} (h1 : Dy s N x) (h2 : Dy t M y) : mulA s (limbs N) x t (limbs M) y =
 if N = 0 ∨ M = 0 then noA 0 else if bigE (N * M) ≠ 0 then noA 4 else mkA (s != t) (N * M) (x + y) := by
 unfold mulA
 rw [if_neg (by simp [h1.chk]), if_neg (by simp [h2.chk]), val_limbs', val_limbs']
theorem mulA_worth {s t : Bool} {N M : Nat} {x y b c : Int} (h1 : Dy s N x) (h2 : Dy t M y) (hx : N ≠ 0 → b ≤ x) (hy : M ≠ 0 → c ≤ y) (he : (mulA s (limbs N) x t (limbs M) y).e = 0) :
 Wo (mulA s (limbs N) x t (limbs M) y) (b + c) (wI s N x b * wI t M y c) := by
 rw [mulA_dy h1 h2] at he ⊢
 by_cases h0 : N = 0 ∨ M = 0
 · rw [if_pos h0]
   refine wo_zero ?_
   rcases h0 with rfl | rfl
   · rw [wI_zero, Int.zero_mul]
   · rw [wI_zero, Int.mul_zero]
 · rw [if_neg h0] at he ⊢
   by_cases hb : bigE (N * M) ≠ 0
   · rw [if_pos hb] at he
     cases he
   · rw [if_neg hb] at he ⊢
     have gx := hx (fun h => h0 (.inl h))
     have gy := hy (fun h => h0 (.inr h))
     have hw : wI s N x b * wI t M y c = wI (s != t) (N * M) (x + y) (b + c) := by
      unfold wI
      rw [← sgI_mul]
      congr 1
      unfold upW
      rw [show (x + y - (b + c)).toNat = (x - b).toNat + (y - c).toNat by omega, Nat.pow_add]
      exact Nat.mul_mul_mul_comm _ _ _ _
     rw [hw]
     exact mkA_worth (big_ok (Classical.byContradiction hb)) (fun _ => by omega) he
structure Bd (N : Nat) (x b : Int) (K : Nat) : Prop where
 low : N ≠ 0 → b ≤ x
 top : upW N x b < 2 ^ K
theorem Bd.up {N : Nat} {x b : Int} {K L : Nat} (h : Bd N x b K) (hl : K ≤ L) : Bd N x b L :=
 ⟨h.low, Nat.lt_of_lt_of_le h.top (Nat.pow_le_pow_right (by decide) hl)⟩
theorem mkA_ok {s : Bool} {S : Nat} {x b : Int} {K : Nat} (hb : b ≤ x) (h : upW S x b < 2 ^ K) (hK : K ≤ 524288) (h1 : -1073741824 ≤ b) (h2 : b + K ≤ 1073741824) : (limbs S).length ≤ 16384 ∧ (mkA s S x).e = 0 := by
 have hS : S ≤ upW S x b := Nat.le_mul_of_pos_right _ (Nat.two_pow_pos _)
 have hl : (limbs S).length ≤ 16384 := len_pow (Nat.lt_of_le_of_lt hS h) (by omega)
 refine ⟨hl, ?_⟩
 by_cases h0 : S = 0
 · rw [h0, mkA_zero]
   rfl
 · have ht := two_pow_tz_le h0
   have : tz S + (x - b).toNat < K := by
    have h3 : 2 ^ (tz S + (x - b).toNat) < 2 ^ K := by
     refine Nat.lt_of_le_of_lt ?_ h
     rw [Nat.pow_add]
     exact Nat.mul_le_mul_right _ ht
    exact (Nat.pow_lt_pow_iff_right (by decide)).1 h3
   have hB : mkB (limbs S) x = true := by
    unfold mkB
    rw [val_limbs']
    exact decide_eq_true ⟨chk_limbs hl, h0, by omega, by omega, by omega, by omega⟩
   exact (mk_yes s hB).2.2.2
theorem Wo.bd {d : Ds} {b W : Int} {K : Nat} (h : Wo d b W) (hW : W.natAbs < 2 ^ K) : Bd d.N d.x b K :=
 ⟨h.low, by have := h.wo; unfold wI at this; rw [← sgI_abs d.s (upW d.N d.x b), this]; exact hW⟩
theorem wI_abs (s : Bool) (N : Nat) (x b : Int) : (wI s N x b).natAbs = upW N x b := sgI_abs _ _
theorem addA_ok {s t : Bool} {N M : Nat} {x y b : Int} {K : Nat} (h1 : Dy s N x) (h2 : Dy t M y) (g1 : Bd N x b K) (g2 : Bd M y b K) (hK : K + 1 ≤ 524288) (hb1 : -1073741824 ≤ b) (hb2 : b + K + 1 ≤ 1073741824) :
 (addA s (limbs N) x t (limbs M) y).e = 0 := by
 rw [addA_dy h1 h2]
 by_cases hN : N = 0
 · rw [if_pos hN]
 · rw [if_neg hN]
   by_cases hM : M = 0
   · rw [if_pos hM]
   · rw [if_neg hM]
     have gx := g1.low hN
     have gy := g2.low hM
     have t1 := g1.top
     have t2 := g2.top
     rw [lvN_up gx gy] at t1
     rw [lvN_up gy gx, Int.min_comm] at t2
     have hm : b ≤ min x y := by omega
     have hp := Nat.two_pow_pos (min x y - b).toNat
     have k1 : (limbs (lvN N x y)).length ≤ 16384 := (mkA_ok (s := true) hm t1 (by omega) hb1 (by omega)).1
     have k2 : (limbs (lvN M y x)).length ≤ 16384 := (mkA_ok (s := true) hm t2 (by omega) hb1 (by omega)).1
     rw [if_neg (by simp [(bigE_ok k1).1, (bigE_ok k2).1])]
     have t3 : upW (lvN N x y + lvN M y x) (min x y) b < 2 ^ (K + 1) := by
      unfold upW
      rw [Nat.add_mul, Nat.pow_succ]
      omega
     by_cases hst : s = t
     · rw [if_pos hst]
       obtain ⟨k3, k4⟩ := mkA_ok (s := s) hm t3 (by omega) hb1 (by omega)
       rw [if_neg (by simp [(bigE_ok k3).1])]
       exact k4
     · rw [if_neg hst]
       split
       · exact (mkA_ok hm (Nat.lt_of_le_of_lt (Nat.mul_le_mul_right _ (by omega)) t3) (by omega) hb1 (by omega)).2
       · exact (mkA_ok hm (Nat.lt_of_le_of_lt (Nat.mul_le_mul_right _ (by omega)) t3) (by omega) hb1 (by omega)).2
theorem mulA_ok {s t : Bool} {N M : Nat} {x y b c : Int} {K L : Nat} (h1 : Dy s N x) (h2 : Dy t M y) (g1 : Bd N x b K) (g2 : Bd M y c L) (hK : K + L ≤ 524288) (hb1 : -1073741824 ≤ b + c) (hb2 : b + c + K + L ≤ 1073741824) :
 (mulA s (limbs N) x t (limbs M) y).e = 0 := by
 rw [mulA_dy h1 h2]
 by_cases h0 : N = 0 ∨ M = 0
 · rw [if_pos h0]
   rfl
 · rw [if_neg h0]
   have gx := g1.low (fun h => h0 (.inl h))
   have gy := g2.low (fun h => h0 (.inr h))
   have tw : upW (N * M) (x + y) (b + c) < 2 ^ (K + L) := by
    have : upW (N * M) (x + y) (b + c) = upW N x b * upW M y c := by
     unfold upW
     rw [show (x + y - (b + c)).toNat = (x - b).toNat + (y - c).toNat by omega, Nat.pow_add]
     exact (Nat.mul_mul_mul_comm _ _ _ _).symm
    rw [this, Nat.pow_add]
    exact Nat.mul_lt_mul_of_lt_of_lt g1.top g2.top
   obtain ⟨k3, k4⟩ := mkA_ok (s := (s != t)) (by omega : b + c ≤ x + y) tw hK hb1 (by omega)
   rw [if_neg (by simp [(bigE_ok k3).1])]
   exact k4
end Go.Proofs.YtpmncmglmobjoaaGreatDoor
