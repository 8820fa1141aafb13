/-
  The walks of the reference's up and Up. The walks of the reference's Neg and Mul of dyadics. (Printed by wip/gen/rf.py out of XExMul.) The walk of the reference's Add of dyadics, its first ways. (Printed by wip/gen/radd.py.) The walk of the reference's Add of dyadics, its last ways, and all of it. (Printed by wip/gen/radd.py.) The walks of the reference's top, bigger and Cmp of dyadics. (Printed by wip/gen/rcmp.py.)
-/
import Derived.Test.YtfjgmpfpadfknaaGreatDoorQbNExs
set_option maxHeartbeats 4000000
set_option maxRecDepth 100000
namespace Go.Proofs.YtfjgmpfpadfknaaGreatDoor
open Go.RowKit Go.Lb
theorem u64_or_low (x c s : Nat) (hc : c < 2 ^ s) (hb : x * 2 ^ s + c < 18446744073709551616) : bits .or .u64 ((x : Int) * 2 ^ s) (c : Int) = ((x * 2 ^ s + c : Nat) : Int) := by
 have e : (x : Int) * 2 ^ s = ((x * 2 ^ s : Nat) : Int) := by rw [Int.natCast_mul, Int.natCast_pow]; rfl
 have h1 : (BitVec.ofInt 64 (c : Int)).toNat = c := by
  rw [BitVec.ofInt_natCast, BitVec.toNat_ofNat]; exact Nat.mod_eq_of_lt (by omega)
 have h2 : (BitVec.ofInt 64 ((x : Int) * 2 ^ s)).toNat = 2 ^ s * x := by
  rw [e, BitVec.ofInt_natCast, BitVec.toNat_ofNat, Nat.mod_eq_of_lt (by omega), Nat.mul_comm]
 show IntKind.u64.wrap ((BitVec.ofInt 64 ((x : Int) * 2 ^ s) ||| BitVec.ofInt 64 (c : Int)).toNat : Int) = _
 rw [BitVec.toNat_or, h1, h2, ← Nat.two_pow_add_eq_or_of_lt hc, Nat.mul_comm, IntKind.wrap_u64]
 omega
theorem refUpL_any (ao : Option Addr) (n c k : Nat) (ys : List Nat) (w : World) (h : Sl w ao n c ys) (hn : n ≤ 16384) (hn0 : n ≠ 0) (hk : k ≤ 524288) :
 Calls Tryz.prog 210 #[.slice ao n c, .int .i64 k] w fun e w' => ∃ ao' n' c', e = .returned (.slice ao' n' c') ∧ Fr 75 w' w.heap.size ao' n' c' (limbs (val ys * 2 ^ k)) ∧ Below w.heap.size w w' := by
 obtain ⟨i0, hi0, hz0, hz1, hz2⟩ := info_parts u32_infoL
 have hlen := h.len
 have hnB : ((n : Int) == 0) = false := by simp; omega
 have hs : k % 32 < 32 := by omega
 go_enter Tryz.func210, Tryz.ntmps210
 go_wp2_with (first
  | (at_make; refine wpList_make_full _ rfl _ _ 26 rfl w.heap.size 75 i0 _ 1 Tryz.underlying26 hi0 hz0 hz1 _ _ _ _ (k / 32) rfl rfl rfl rfl (by rw [hz2]; omega) (by unfold maxLen; omega) (Nat.le_refl _) ?_; intro w2 hown hg1; rw [made_lvs] at hown; have hb1 := (Below.refl w.heap.size w).grown hg1 (Nat.le_refl _) (by simp)))
 go_loopw [5, 6, 7] (fun v cv i wr => ∃ (j : Nat), j ≤ n ∧ i = .int .i64 j ∧ cv = .int .u64 (upC (k % 32) 0 (ys.take j)) ∧ wr.ownsRow w.heap.size 75 1 v (k / 32 + j) (lvs (List.replicate (k / 32) 0 ++ upD (k % 32) 0 (ys.take j))) ∧ Below w.heap.size w wr) (fun _ _ i _ => n - (intOf i).toNat)
 case atStart => exact ⟨0, by omega, rfl, rfl, by simpa [upD] using hown, hb1⟩
 case round =>
  obtain ⟨j, hj, rfl, rfl, hown, hW⟩ := hrel
  have hCl : upC (k % 32) 0 (ys.take j) < 2 ^ (k % 32) := upC_lt (ok_take h.ok j) (Nat.two_pow_pos _)
  have hp32 : (2 : Nat) ^ (k % 32) ≤ 2 ^ 31 := Nat.pow_le_pow_right (by decide) (by omega)
  have hsz := hW.size
  by_cases hjn : j < n
  · obtain ⟨b, o, rfl, hb, hc⟩ := (h.below hW).at_ (by omega)
    have hcell := hc j hjn
    clear hc
    have hx := nth_lt h.ok j
    have htk := take_snoc (xs := ys) (i := j) (by omega)
    have hprod : nth ys j * 2 ^ (k % 32) ≤ 4294967295 * 2 ^ 31 := Nat.mul_le_mul (by omega) hp32
    have hb' : nth ys j * 2 ^ (k % 32) + upC (k % 32) 0 (ys.take j) < 18446744073709551616 := by omega
    have qo := u64_or_low (nth ys j) _ (k % 32) hCl hb'
    have hD := upD_snoc (k % 32) 0 (ys.take j) (nth ys j)
    have hC := upC_snoc (k % 32) 0 (ys.take j) (nth ys j)
    rw [← htk] at hD hC
    have qw : IntKind.u64.wrap ((nth ys j : Int) * 2 ^ (k % 32)) = (nth ys j : Int) * 2 ^ (k % 32) := by
     rw [show (nth ys j : Int) * 2 ^ (k % 32) = ((nth ys j * 2 ^ (k % 32) : Nat) : Int) by rw [Int.natCast_mul, Int.natCast_pow]; rfl]
     exact IntWalk.u64_in _ (by omega)
    have HD := Lib.hid hD
    have HC := Lib.hid hC
    generalize hS : nth ys j * 2 ^ (k % 32) + upC (k % 32) 0 (ys.take j) = S at qo hb' HD HC
    generalize hCg : upC (k % 32) 0 (ys.take j) = C at qo
    have hlow : (S : Int) % 4294967296 = ((S % 4294967296 : Nat) : Int) := by omega
    have Hlow := Lib.hid hlow
    have hz : S % 4294967296 < 4294967296 := by omega
    clear hlow hD hC hS hprod hp32 hCl hCg htk
    go_wp2_with (first
     | (at_builtin; refine wpList_append_sl _ rfl (.tmp 32) (.tmp 35) _ rfl w.heap.size 75 i0 _ Tryz.underlying26 hi0 hz0 hz1 hz2 rfl _ (k / 32 + j) _ rfl (hown.alloc _) (some ⟨wr.heap.size, 0, none⟩) 1 1 _ rfl (sl_one wr _ Hlow.out hz) (by omega) (by simp; omega) ?_; intro v1 w1 hown1 hg1 hat1; replace hW := grownOwn (more hW _) (hown.alloc _) (Nat.le_refl _) hg1))
    rw [List.append_assoc, ← HD.out] at hown1
    exact ⟨⟨j + 1, by omega, by go_num, congrArg (Value.int .u64) (by rw [HC.out]; omega), hown1, hW⟩, by simp [intOf]; omega⟩
  · obtain rfl : j = n := by omega
    have htk : ys.take j = ys := List.take_of_length_le (by omega)
    rw [htk] at hown hCl
    have hv := val_up ys k
    have hok : Ok (List.replicate (k / 32) 0 ++ upL (k % 32) ys) := ok_append (ok_replicate _) (ok_upL hs h.ok)
    have hC32 : upC (k % 32) 0 ys < 4294967296 := by omega
    unfold upL at hv hok
    rw [← List.append_assoc] at hv hok
    rw [htk]
    clear htk hp32 hCl h hnB
    go_wp2_with (first
     | (at_builtin; refine wpList_append_sl _ rfl (.tmp 39) (.tmp 42) _ rfl w.heap.size 75 i0 _ Tryz.underlying26 hi0 hz0 hz1 hz2 rfl _ (k / 32 + j) _ rfl (hown.alloc _) (some ⟨wr.heap.size, 0, none⟩) 1 1 _ rfl (sl_one wr _ rfl hC32) (by omega) (by simp; omega) ?_; intro v1 w1 hown1 hg1 hat1; replace hW := grownOwn (more hW _) (hown.alloc _) (Nat.le_refl _) hg1; obtain ⟨a3, c3, rfl, hF⟩ := fr_own_any hown1 hok)
     | (go_at_call 183; refine (refTrim_any a3 _ c3 _ _ hF).mono ?_; rintro e w2 ⟨k2, rfl, hF2, rfl⟩; rw [hv] at hF2))
    go_ret
    exact ⟨a3, k2, c3, rfl, hF2, hW⟩
theorem refUp_any (ao : Option Addr) (n c k : Nat) (ys : List Nat) (w : World) (h : Sl w ao n c ys) (hc : chk ys = 0) :
 Calls Tryz.prog 168 #[.agg #[.slice ao n c], .int .i64 k] w (Numb w (bigN (val ys * 2 ^ k)) (bigE (val ys * 2 ^ k))) := by
 have hlen := chk_zero_len hc
 rw [h.len] at hlen
 have hcB : (chk ys != 0) = false := by simp [hc]
 by_cases h0 : val ys = 0
 · obtain rfl : n = 0 := by rw [← h.len]; exact (val_zero_iff h.ok hc).1 h0
   rw [h0, Nat.zero_mul]
   go_enter Tryz.func168, Tryz.ntmps168
   go_wp2_with (first
    | (go_at_call 178; refine (refCheck_any _ 0 c ys _ ((h.alloc _).alloc _)).mono ?_; rintro e w1 ⟨rfl, hb1⟩; have hW := next (more (more (Below.refl _ _) _) _) hb1; have A := ((box1_new w _ _).alloc _).stay hb1; have B := (box1_new _ _ _).stay hb1; rw [World.size_alloc] at B; have ⟨a0, az⟩ := A; have ⟨b0, bz⟩ := B))
   refine bodyPost_ret (v := .tuple #[.agg #[.slice none 0 0], .int .i64 0]) (by simp [results, Tryz.results168, go_sem, B.set]) rfl ⟨none, 0, 0, rfl, ?_, hW.setCell (by simp) _⟩
   exact fr_nil _ _ _
 · have hn0 : n ≠ 0 := fun hh => h0 ((val_zero_iff h.ok hc).2 (h.len.trans hh))
   have hnB : ((n : Int) == 0) = false := by simp; omega
   have hs1 := (sz_bounds h.ok hc h0).1
   have hs2 := szN_max h.ok hc
   by_cases hk : k + szN ys ≤ 524288
   · have hB := bigE_ok ((up_fits h.ok hc h0 k).2 hk)
     rw [hB.1, hB.2]
     clear hB
     generalize hz : szN ys = z at hk hs1 hs2
     have hgt : ¬ ((524288 : Int) - (z : Int) < (k : Int)) := by omega
     go_enter Tryz.func168, Tryz.ntmps168
     go_wp2_with (first
      | (go_at_call 178; refine (refCheck_any _ n c ys _ ((h.alloc _).alloc _)).mono ?_; rintro e w1 ⟨rfl, hb1⟩; have hW := next (more (more (Below.refl _ _) _) _) hb1; have S := ((h.alloc _).alloc _).below hb1; have A := ((box1_new w _ _).alloc _).stay hb1; have B := (box1_new _ _ _).stay hb1; rw [World.size_alloc] at B; have ⟨a0, az⟩ := A; have ⟨b0, bz⟩ := B)
      | (go_at_call 209; refine (refSize_any _ n c ys _ S hlen).mono ?_; rintro e w2 ⟨rfl, hb2⟩; rw [hz]; replace hW := next hW hb2; replace S := S.below hb2; replace A := A.stay hb2; replace B := B.stay hb2; have ⟨a1, az1⟩ := A; have ⟨b1, bz1⟩ := B)
      | (go_at_call 210; refine (refUpL_any _ n c k ys _ S hlen hn0 (by omega)).mono ?_; rintro e w3 ⟨a3, n3, c3, rfl, hF, hb3⟩; have hl := B.lt; have hsz := hW.size; replace hW := next hW hb3; replace B := B.stay hb3)
      | (go_at_call 182; refine (refNat_any _ a3 n3 c3 rfl _).mono ?_; rintro e w4 ⟨rfl, hb4⟩; replace hW := next hW hb4; replace B := B.stay hb4; replace hF := hF.below hb4; have ⟨b4, bz4⟩ := B))
     refine bodyPost_ret (v := .tuple #[.agg #[.slice a3 n3 c3], .int .i64 0]) (by simp [results, Tryz.results168, go_sem, B.set]) rfl ⟨a3, n3, c3, rfl, (hF.setCell (by simpa using hl) _).mono hsz, hW.setCell (by simp) _⟩
   · have hB := bigE_many (fun hh => hk ((up_fits h.ok hc h0 k).1 hh))
     rw [hB.1, hB.2]
     clear hB
     generalize hz : szN ys = z at hk hs1 hs2
     have hgt : (524288 : Int) - (z : Int) < (k : Int) := by omega
     go_enter Tryz.func168, Tryz.ntmps168
     go_wp2_with (first
      | (go_at_call 178; refine (refCheck_any _ n c ys _ ((h.alloc _).alloc _)).mono ?_; rintro e w1 ⟨rfl, hb1⟩; have hW := next (more (more (Below.refl _ _) _) _) hb1; have S := ((h.alloc _).alloc _).below hb1; have A := ((box1_new w _ _).alloc _).stay hb1; have B := (box1_new _ _ _).stay hb1; rw [World.size_alloc] at B; have ⟨a0, az⟩ := A; have ⟨b0, bz⟩ := B)
      | (go_at_call 209; refine (refSize_any _ n c ys _ S hlen).mono ?_; rintro e w2 ⟨rfl, hb2⟩; rw [hz]; replace hW := next hW hb2; replace A := A.stay hb2; replace B := B.stay hb2; have ⟨a1, az1⟩ := A; have ⟨b1, bz1⟩ := B))
     refine bodyPost_ret (v := .tuple #[.agg #[.slice none 0 0], .int .i64 4]) (by simp [results, Tryz.results168, go_sem, B.set]) rfl ⟨none, 0, 0, rfl, ?_, hW.setCell (by simp) _⟩
     rw [limbs_zero]
     exact fr_nil _ _ _
theorem refUp_i (ao : Option Addr) (n c : Nat) (k : Int) (hk : 0 ≤ k) (ys : List Nat) (w : World) (h : Sl w ao n c ys) (hc : chk ys = 0) :
 Calls Tryz.prog 168 #[.agg #[.slice ao n c], .int .i64 k] w (Numb w (bigN (val ys * 2 ^ k.toNat)) (bigE (val ys * 2 ^ k.toNat))) := by
 obtain ⟨k, rfl⟩ := Int.eq_ofNat_of_zero_le hk
 exact refUp_any ao n c k ys w h hc
theorem two_new (s t : Bool) (a1 a2 : Option Addr) (n1 n2 c1 c2 : Nat) (x y : Int) (xs ys : List Nat) (w : World) (r0 r1 r2 : Value) (ty : TypeId) (h1 : Sl w a1 n1 c1 xs) (h2 : Sl w a2 n2 c2 ys) :
 Calls Tryz.prog 165 #[.agg #[.bool s, .slice a1 n1 c1, .int .i64 x], .agg #[.bool t, .slice a2 n2 c2, .int .i64 y]] (((w.alloc (.cells #[.bool s, .slice a1 n1 c1, .int .i64 x] 41)).alloc (.cells #[.bool t, .slice a2 n2 c2, .int .i64 y] 41)).alloc (.cells #[r0, r1, r2] ty)) fun e w' =>
  e = .returned (.int .i64 (cmpF s xs x t ys y)) ∧ Below w.heap.size w w' ∧ Box3 w' w.heap.size (.bool s) (.slice a1 n1 c1) (.int .i64 x) ∧ Box3 w' (w.heap.size + 1) (.bool t) (.slice a2 n2 c2) (.int .i64 y) ∧ Box3 w' (w.heap.size + 1 + 1) r0 r1 r2 := by
 refine (rfTwo_any s t a1 a2 n1 n2 c1 c2 x y xs ys _ (((h1.alloc _).alloc _).alloc _) (((h2.alloc _).alloc _).alloc _)).mono ?_
 rintro e w' ⟨rfl, hb⟩
 refine ⟨rfl, next (more (more (more (Below.refl _ _) _) _) _) hb, (((box3_new w _ _ _ _).alloc _).alloc _).stay hb, ?_, ?_⟩
 · have := ((box3_new (w.alloc (.cells #[.bool s, .slice a1 n1 c1, .int .i64 x] 41)) (.bool t) (.slice a2 n2 c2) (.int .i64 y) 41).alloc (.cells #[r0, r1, r2] ty)).stay hb
   rw [World.size_alloc] at this
   exact this
 · have := (box3_new ((w.alloc (.cells #[.bool s, .slice a1 n1 c1, .int .i64 x] 41)).alloc (.cells #[.bool t, .slice a2 n2 c2, .int .i64 y] 41)) r0 r1 r2 ty).stay hb
   rw [World.size_alloc, World.size_alloc] at this
   exact this
theorem rfMul_bad (s t : Bool) (a1 a2 : Option Addr) (n1 n2 c1 c2 : Nat) (x y : Int) (xs ys : List Nat) (w : World) (h1 : Sl w a1 n1 c1 xs) (h2 : Sl w a2 n2 c2 ys) (h0 : cmpF s xs x t ys y ≠ 0) :
 Calls Tryz.prog 112 #[.agg #[.bool s, .slice a1 n1 c1, .int .i64 x], .agg #[.bool t, .slice a2 n2 c2, .int .i64 y]] w (Dyn (noA (cmpF s xs x t ys y)) w) := by
 have h0B : (cmpF s xs x t ys y != 0) = true := by simp [h0]
 have h1B : (cmpF s xs x t ys y == 0) = false := by simp [h0]
 generalize hE : cmpF s xs x t ys y = E at h0 h0B h1B
 go_enter Tryz.func112, Tryz.ntmps112
 go_wp2_with (first
  | (go_at_call 165; refine (two_new s t a1 a2 n1 n2 c1 c2 x y xs ys w _ _ _ _ h1 h2).mono ?_; rintro e w1 ⟨rfl, hW, -, -, R⟩; rw [hE]; have ⟨r0, r1, r2, rz0, rz1, rz2⟩ := R))
 have ⟨t0, t1, t2⟩ := R.set (.bool false) (.slice none 0 0) (.int .i64 0)
 refine bodyPost_ret (v := .tuple #[.agg #[.bool false, .slice none 0 0, .int .i64 0], .int .i64 E]) (by simp [results, Tryz.results112, go_sem, t0, t1, t2]) rfl (dyn_no (((hW.setCell (by simp; omega) _).setCell (by simp; omega) _).setCell (by simp; omega) _))
theorem rfMul_none (s t : Bool) (a1 a2 : Option Addr) (n1 n2 c1 c2 : Nat) (x y : Int) (xs ys : List Nat) (w : World) (h1 : Sl w a1 n1 c1 xs) (h2 : Sl w a2 n2 c2 ys) (h0 : cmpF s xs x t ys y = 0) (b1 b2 : Bool) (hn1 : noneB n1 = b1) (hn2 : noneB n2 = b2) (hb : b1 = true ∨ b1 = false ∧ b2 = true) :
 Calls Tryz.prog 112 #[.agg #[.bool s, .slice a1 n1 c1, .int .i64 x], .agg #[.bool t, .slice a2 n2 c2, .int .i64 y]] w (Dyn (noA 0) w) := by
 rcases hb with rfl | ⟨rfl, rfl⟩
 all_goals
  go_enter Tryz.func112, Tryz.ntmps112
  go_wp2_with (first
   | (go_at_call 165; refine (two_new s t a1 a2 n1 n2 c1 c2 x y xs ys w _ _ _ _ h1 h2).mono ?_; rintro e w1 ⟨rfl, hW, A, B, R⟩; rw [h0]; have ⟨q0, q1, q2, qz0, qz1, qz2⟩ := A; have ⟨p0, p1, p2, pz0, pz1, pz2⟩ := B; have ⟨r0, r1, r2, rz0, rz1, rz2⟩ := R)
   | (go_at_call 166; (with_reducible refine (refNone_any a1 n1 c1 _).mono ?_); rintro e w2 ⟨rfl, hb2⟩; rw [hn1]; replace hW := next hW hb2; replace B := B.stay hb2; replace R := R.stay hb2; have ⟨p3, p4, p5, pz3, pz4, pz5⟩ := B; have ⟨r3, r4, r5, rz3, rz4, rz5⟩ := R)
   | (go_at_call 166; (with_reducible refine (refNone_any a2 n2 c2 _).mono ?_); rintro e w3 ⟨rfl, hb3⟩; rw [hn2]; replace hW := next hW hb3; replace R := R.stay hb3; have ⟨r6, r7, r8, rz6, rz7, rz8⟩ := R))
  have ⟨t0, t1, t2⟩ := R.set (.bool false) (.slice none 0 0) (.int .i64 0)
  refine bodyPost_ret (v := .tuple #[.agg #[.bool false, .slice none 0 0, .int .i64 0], .int .i64 0]) (by simp [results, Tryz.results112, go_sem, t0, t1, t2]) rfl (dyn_no (((hW.setCell (by simp; omega) _).setCell (by simp; omega) _).setCell (by simp; omega) _))
theorem rfMul_ok (s t : Bool) (a1 a2 : Option Addr) (n1 n2 c1 c2 : Nat) (x y : Int) (xs ys : List Nat) (w : World) (h1 : Sl w a1 n1 c1 xs) (h2 : Sl w a2 n2 c2 ys) (h0 : cmpF s xs x t ys y = 0) (hn1 : noneB n1 = false) (hn2 : noneB n2 = false) (g : bigE (val xs * val ys) = 0) :
 Calls Tryz.prog 112 #[.agg #[.bool s, .slice a1 n1 c1, .int .i64 x], .agg #[.bool t, .slice a2 n2 c2, .int .i64 y]] w (Dyn (mkA (!(s == t)) (val xs * val ys) (x + y)) w) := by
 obtain ⟨d1, d2⟩ := cmpF_ok h0
 have k1 := dchk_chk d1
 have k2 := dchk_chk d2
 have ⟨x1, x2⟩ := dchk_exp d1
 have ⟨y1, y2⟩ := dchk_exp d2
 have gN := bigN_of g
 go_enter Tryz.func112, Tryz.ntmps112
 go_wp2_with (first
  | (go_at_call 165; refine (two_new s t a1 a2 n1 n2 c1 c2 x y xs ys w _ _ _ _ h1 h2).mono ?_; rintro e w1 ⟨rfl, hW, A, B, R⟩; rw [h0]; have ⟨q0, q1, q2, qz0, qz1, qz2⟩ := A; have ⟨p0, p1, p2, pz0, pz1, pz2⟩ := B)
  | (go_at_call 166; (with_reducible refine (refNone_any a1 n1 c1 _).mono ?_); rintro e w2 ⟨rfl, hb2⟩; rw [hn1]; replace hW := next hW hb2; replace A := A.stay hb2; replace B := B.stay hb2; replace R := R.stay hb2; have ⟨q3, q4, q5, qz3, qz4, qz5⟩ := A; have ⟨p3, p4, p5, pz3, pz4, pz5⟩ := B)
  | (go_at_call 166; (with_reducible refine (refNone_any a2 n2 c2 _).mono ?_); rintro e w3 ⟨rfl, hb3⟩; rw [hn2]; replace hW := next hW hb3; replace A := A.stay hb3; replace B := B.stay hb3; replace R := R.stay hb3; have ⟨q6, q7, q8, qz6, qz7, qz8⟩ := A; have ⟨p6, p7, p8, pz6, pz7, pz8⟩ := B)
  | (go_at_call 172; refine (refMul_any a1 a2 n1 n2 c1 c2 xs ys _ (h1.below hW) (h2.below hW) k1 k2).mono ?_; rintro e w4 ⟨ao, n, c, rfl, hF, hb4⟩; rw [g]; rw [gN] at hF; replace hW := more (next hW hb4) (.cells #[.slice ao n c] 28); replace A := (A.stay hb4).alloc (.cells #[.slice ao n c] 28); replace B := (B.stay hb4).alloc (.cells #[.slice ao n c] 28); replace R := (R.stay hb4).alloc (.cells #[.slice ao n c] 28); have ⟨q9, q10, q11, qz9, qz10, qz11⟩ := A; have ⟨p9, p10, p11, pz9, pz10, pz11⟩ := B)
  | (go_at_call 123; refine (rfMake_any _ ao n c (limbs (val xs * val ys)) (x + y) _ (hF.sl.alloc _)).mono ?_; rintro e w5 ⟨bo, m, d, rfl, hG, hb5⟩; have lR := R.lt; have hsz := hW.size; replace hW := next hW hb5; replace R := R.stay hb5; have ⟨r3, r4, r5, rz3, rz4, rz5⟩ := R))
 have ⟨t0, t1, t2⟩ := R.set (.bool (mkS (!(s == t)) (limbs (val xs * val ys)) (x + y))) (.slice bo m d) (.int .i64 (mkX (limbs (val xs * val ys)) (x + y)))
 refine bodyPost_ret (v := .tuple #[.agg #[.bool (mkS (!(s == t)) (limbs (val xs * val ys)) (x + y)), .slice bo m d, .int .i64 (mkX (limbs (val xs * val ys)) (x + y))], .int .i64 (mkE (limbs (val xs * val ys)) (x + y))]) (by simp [results, Tryz.results112, go_sem, t0, t1, t2]) rfl ⟨bo, m, d, rfl, ?_, ((hW.setCell (by simp; omega) _).setCell (by simp; omega) _).setCell (by simp; omega) _⟩
 refine Fr.mono (Fr.setCell (Fr.setCell (Fr.setCell hG ?_ _) ?_ _) ?_ _) hsz <;> exact lR
theorem rfMul_many (s t : Bool) (a1 a2 : Option Addr) (n1 n2 c1 c2 : Nat) (x y : Int) (xs ys : List Nat) (w : World) (h1 : Sl w a1 n1 c1 xs) (h2 : Sl w a2 n2 c2 ys) (h0 : cmpF s xs x t ys y = 0) (hn1 : noneB n1 = false) (hn2 : noneB n2 = false) (g : bigE (val xs * val ys) = 4) :
 Calls Tryz.prog 112 #[.agg #[.bool s, .slice a1 n1 c1, .int .i64 x], .agg #[.bool t, .slice a2 n2 c2, .int .i64 y]] w (Dyn (noA 4) w) := by
 obtain ⟨d1, d2⟩ := cmpF_ok h0
 have k1 := dchk_chk d1
 have k2 := dchk_chk d2
 go_enter Tryz.func112, Tryz.ntmps112
 go_wp2_with (first
  | (go_at_call 165; refine (two_new s t a1 a2 n1 n2 c1 c2 x y xs ys w _ _ _ _ h1 h2).mono ?_; rintro e w1 ⟨rfl, hW, A, B, R⟩; rw [h0]; have ⟨q0, q1, q2, qz0, qz1, qz2⟩ := A; have ⟨p0, p1, p2, pz0, pz1, pz2⟩ := B)
  | (go_at_call 166; (with_reducible refine (refNone_any a1 n1 c1 _).mono ?_); rintro e w2 ⟨rfl, hb2⟩; rw [hn1]; replace hW := next hW hb2; replace A := A.stay hb2; replace B := B.stay hb2; replace R := R.stay hb2; have ⟨q3, q4, q5, qz3, qz4, qz5⟩ := A; have ⟨p3, p4, p5, pz3, pz4, pz5⟩ := B)
  | (go_at_call 166; (with_reducible refine (refNone_any a2 n2 c2 _).mono ?_); rintro e w3 ⟨rfl, hb3⟩; rw [hn2]; replace hW := next hW hb3; replace A := A.stay hb3; replace B := B.stay hb3; replace R := R.stay hb3; have ⟨q6, q7, q8, qz6, qz7, qz8⟩ := A; have ⟨p6, p7, p8, pz6, pz7, pz8⟩ := B)
  | (go_at_call 172; refine (refMul_any a1 a2 n1 n2 c1 c2 xs ys _ (h1.below hW) (h2.below hW) k1 k2).mono ?_; rintro e w4 ⟨ao, n, c, rfl, hF, hb4⟩; rw [g]; replace hW := more (next hW hb4) (.cells #[.slice ao n c] 28); replace R := (R.stay hb4).alloc (.cells #[.slice ao n c] 28); have ⟨r3, r4, r5, rz3, rz4, rz5⟩ := R))
 have ⟨t0, t1, t2⟩ := R.set (.bool false) (.slice none 0 0) (.int .i64 0)
 refine bodyPost_ret (v := .tuple #[.agg #[.bool false, .slice none 0 0, .int .i64 0], .int .i64 4]) (by simp [results, Tryz.results112, go_sem, t0, t1, t2]) rfl (dyn_no (((hW.setCell (by simp; omega) _).setCell (by simp; omega) _).setCell (by simp; omega) _))
theorem rfMul_any (s t : Bool) (a1 a2 : Option Addr) (n1 n2 c1 c2 : Nat) (x y : Int) (xs ys : List Nat) (w : World) (h1 : Sl w a1 n1 c1 xs) (h2 : Sl w a2 n2 c2 ys) :
 Calls Tryz.prog 112 #[.agg #[.bool s, .slice a1 n1 c1, .int .i64 x], .agg #[.bool t, .slice a2 n2 c2, .int .i64 y]] w (Dyn (mulA s xs x t ys y) w) := by
 by_cases h0 : cmpF s xs x t ys y = 0
 · obtain ⟨d1, d2⟩ := cmpF_ok h0
   have z1 := val_zero_n h1 (dchk_chk d1)
   have z2 := val_zero_n h2 (dchk_chk d2)
   by_cases hz : val xs = 0 ∨ val ys = 0
   · have hA : mulA s xs x t ys y = noA 0 := by unfold mulA; rw [if_neg (by simp [d1]), if_neg (by simp [d2]), if_pos hz]
     rw [hA]
     refine rfMul_none s t a1 a2 n1 n2 c1 c2 x y xs ys w h1 h2 h0 _ _ rfl rfl ?_
     unfold noneB
     by_cases hh : n1 = 0
     · exact .inl (decide_eq_true hh)
     · exact .inr ⟨decide_eq_false hh, decide_eq_true (by rcases hz with h | h; exact absurd (z1.1 h) hh; exact z2.1 h)⟩
   · have f1 : noneB n1 = false := decide_eq_false fun hh => hz (.inl (z1.2 hh))
     have f2 : noneB n2 = false := decide_eq_false fun hh => hz (.inr (z2.2 hh))
     by_cases hg : bigE (val xs * val ys) = 0
     · have hA : mulA s xs x t ys y = mkA (s != t) (val xs * val ys) (x + y) := by unfold mulA; rw [if_neg (by simp [d1]), if_neg (by simp [d2]), if_neg hz, if_neg (by simp [hg])]
       rw [hA]
       exact rfMul_ok s t a1 a2 n1 n2 c1 c2 x y xs ys w h1 h2 h0 f1 f2 hg
     · have hA : mulA s xs x t ys y = noA 4 := by unfold mulA; rw [if_neg (by simp [d1]), if_neg (by simp [d2]), if_neg hz, if_pos hg]
       rw [hA]
       exact rfMul_many s t a1 a2 n1 n2 c1 c2 x y xs ys w h1 h2 h0 f1 f2 (bigE_four hg)
 · rw [mulA_bad h0]
   exact rfMul_bad s t a1 a2 n1 n2 c1 c2 x y xs ys w h1 h2 h0
theorem rfAdd_bad (s t : Bool) (a1 a2 : Option Addr) (n1 n2 c1 c2 : Nat) (x y : Int) (xs ys : List Nat) (w : World) (h1 : Sl w a1 n1 c1 xs) (h2 : Sl w a2 n2 c2 ys) (h0 : cmpF s xs x t ys y ≠ 0) :
 Calls Tryz.prog 111 #[.agg #[.bool s, .slice a1 n1 c1, .int .i64 x], .agg #[.bool t, .slice a2 n2 c2, .int .i64 y]] w (Dyn (noA (cmpF s xs x t ys y)) w) := by
 have h0B : (cmpF s xs x t ys y != 0) = true := by simp [h0]
 have h1B : (cmpF s xs x t ys y == 0) = false := by simp [h0]
 generalize hE : cmpF s xs x t ys y = E at h0 h0B h1B
 go_enter Tryz.func111, Tryz.ntmps111
 go_wp2_with (first
  | (go_at_call 165; refine (two_new s t a1 a2 n1 n2 c1 c2 x y xs ys w _ _ _ _ h1 h2).mono ?_; rintro e w1 ⟨rfl, hW, -, -, R⟩; rw [hE]; have ⟨v4_0, v4_1, v4_2, v4z0, v4z1, v4z2⟩ := R))
 have ⟨t0, t1, t2⟩ := R.set (.bool false) (.slice none 0 0) (.int .i64 0)
 refine bodyPost_ret (v := .tuple #[.agg #[.bool false, .slice none 0 0, .int .i64 0], .int .i64 E]) (by simp [results, Tryz.results111, go_sem, t0, t1, t2]) rfl (dyn_no (((hW.setCell (by simp; omega) _).setCell (by simp; omega) _).setCell (by simp; omega) _))
theorem rfAdd_anone (s t : Bool) (a1 a2 : Option Addr) (n1 n2 c1 c2 : Nat) (x y : Int) (xs ys : List Nat) (w : World) (h1 : Sl w a1 n1 c1 xs) (h2 : Sl w a2 n2 c2 ys) (h0 : cmpF s xs x t ys y = 0) (hn1 : noneB n1 = true) :
 Calls Tryz.prog 111 #[.agg #[.bool s, .slice a1 n1 c1, .int .i64 x], .agg #[.bool t, .slice a2 n2 c2, .int .i64 y]] w (Dyn ⟨t, val ys, y, 0⟩ w) := by
 obtain ⟨d1, d2⟩ := cmpF_ok h0
 have k1 := dchk_chk d1
 have k2 := dchk_chk d2
 have l1 := chk_zero_len k1
 have l2 := chk_zero_len k2
 rw [h1.len] at l1
 rw [h2.len] at l2
 go_enter Tryz.func111, Tryz.ntmps111
 go_wp2_with (first
  | (go_at_call 165; refine (two_new s t a1 a2 n1 n2 c1 c2 x y xs ys w _ _ _ _ h1 h2).mono ?_; rintro e w1 ⟨rfl, hW, A, B, R⟩; rw [h0]; have ⟨v5_0, v5_1, v5_2, v5z0, v5z1, v5z2⟩ := A; have ⟨v6_0, v6_1, v6_2, v6z0, v6z1, v6z2⟩ := B; have ⟨v7_0, v7_1, v7_2, v7z0, v7z1, v7z2⟩ := R)
  | (go_at_call 166; (with_reducible refine (refNone_any a1 n1 c1 _).mono ?_); rintro e w2 ⟨rfl, hb2⟩; rw [hn1]; replace hW := next hW hb2; replace A := A.stay hb2; replace B := B.stay hb2; replace R := R.stay hb2; have ⟨v8_0, v8_1, v8_2, v8z0, v8z1, v8z2⟩ := A; have ⟨v9_0, v9_1, v9_2, v9z0, v9z1, v9z2⟩ := B; have ⟨v10_0, v10_1, v10_2, v10z0, v10z1, v10z2⟩ := R)
  | (go_at_call 167; refine (rfTwin_any t a2 n2 c2 y ys _ (h2.below hW) (by omega)).mono ?_; rintro e w9 ⟨bo, d, rfl, hM, hb9⟩; have lR := R.lt; have hsz := hW.size; replace hW := next hW hb9; replace R := R.stay hb9; have ⟨v11_0, v11_1, v11_2, v11z0, v11z1, v11z2⟩ := R))
 have ⟨t0, t1, t2⟩ := R.set (.bool t) (.slice bo n2 d) (.int .i64 y)
 refine bodyPost_ret (v := .tuple #[.agg #[.bool t, .slice bo n2 d, .int .i64 y], .int .i64 0]) (by simp [results, Tryz.results111, go_sem, t0, t1, t2]) rfl ⟨bo, n2, d, rfl, ?_, ((hW.setCell (by simp; omega) _).setCell (by simp; omega) _).setCell (by simp; omega) _⟩
 rw [limbs_of_chk h2.ok k2]
 refine Fr.mono (Fr.setCell (Fr.setCell (Fr.setCell hM ?_ _) ?_ _) ?_ _) hsz <;> exact lR
theorem rfAdd_bnone (s t : Bool) (a1 a2 : Option Addr) (n1 n2 c1 c2 : Nat) (x y : Int) (xs ys : List Nat) (w : World) (h1 : Sl w a1 n1 c1 xs) (h2 : Sl w a2 n2 c2 ys) (h0 : cmpF s xs x t ys y = 0) (hn1 : noneB n1 = false) (hn2 : noneB n2 = true) :
 Calls Tryz.prog 111 #[.agg #[.bool s, .slice a1 n1 c1, .int .i64 x], .agg #[.bool t, .slice a2 n2 c2, .int .i64 y]] w (Dyn ⟨s, val xs, x, 0⟩ w) := by
 obtain ⟨d1, d2⟩ := cmpF_ok h0
 have k1 := dchk_chk d1
 have k2 := dchk_chk d2
 have l1 := chk_zero_len k1
 have l2 := chk_zero_len k2
 rw [h1.len] at l1
 rw [h2.len] at l2
 go_enter Tryz.func111, Tryz.ntmps111
 go_wp2_with (first
  | (go_at_call 165; refine (two_new s t a1 a2 n1 n2 c1 c2 x y xs ys w _ _ _ _ h1 h2).mono ?_; rintro e w1 ⟨rfl, hW, A, B, R⟩; rw [h0]; have ⟨v12_0, v12_1, v12_2, v12z0, v12z1, v12z2⟩ := A; have ⟨v13_0, v13_1, v13_2, v13z0, v13z1, v13z2⟩ := B; have ⟨v14_0, v14_1, v14_2, v14z0, v14z1, v14z2⟩ := R)
  | (go_at_call 166; (with_reducible refine (refNone_any a1 n1 c1 _).mono ?_); rintro e w2 ⟨rfl, hb2⟩; rw [hn1]; replace hW := next hW hb2; replace A := A.stay hb2; replace B := B.stay hb2; replace R := R.stay hb2; have ⟨v15_0, v15_1, v15_2, v15z0, v15z1, v15z2⟩ := A; have ⟨v16_0, v16_1, v16_2, v16z0, v16z1, v16z2⟩ := B; have ⟨v17_0, v17_1, v17_2, v17z0, v17z1, v17z2⟩ := R)
  | (go_at_call 166; (with_reducible refine (refNone_any a2 n2 c2 _).mono ?_); rintro e w3 ⟨rfl, hb3⟩; rw [hn2]; replace hW := next hW hb3; replace A := A.stay hb3; replace B := B.stay hb3; replace R := R.stay hb3; have ⟨v18_0, v18_1, v18_2, v18z0, v18z1, v18z2⟩ := A; have ⟨v19_0, v19_1, v19_2, v19z0, v19z1, v19z2⟩ := B; have ⟨v20_0, v20_1, v20_2, v20z0, v20z1, v20z2⟩ := R)
  | (go_at_call 167; refine (rfTwin_any s a1 n1 c1 x xs _ (h1.below hW) (by omega)).mono ?_; rintro e w9 ⟨bo, d, rfl, hM, hb9⟩; have lR := R.lt; have hsz := hW.size; replace hW := next hW hb9; replace R := R.stay hb9; have ⟨v21_0, v21_1, v21_2, v21z0, v21z1, v21z2⟩ := R))
 have ⟨t0, t1, t2⟩ := R.set (.bool s) (.slice bo n1 d) (.int .i64 x)
 refine bodyPost_ret (v := .tuple #[.agg #[.bool s, .slice bo n1 d, .int .i64 x], .int .i64 0]) (by simp [results, Tryz.results111, go_sem, t0, t1, t2]) rfl ⟨bo, n1, d, rfl, ?_, ((hW.setCell (by simp; omega) _).setCell (by simp; omega) _).setCell (by simp; omega) _⟩
 rw [limbs_of_chk h1.ok k1]
 refine Fr.mono (Fr.setCell (Fr.setCell (Fr.setCell hM ?_ _) ?_ _) ?_ _) hsz <;> exact lR
theorem rfAdd_level1 (s t : Bool) (a1 a2 : Option Addr) (n1 n2 c1 c2 : Nat) (x y : Int) (xs ys : List Nat) (w : World) (h1 : Sl w a1 n1 c1 xs) (h2 : Sl w a2 n2 c2 ys) (h0 : cmpF s xs x t ys y = 0) (hn1 : noneB n1 = false) (hn2 : noneB n2 = false) (g1 : bigE (lvN (val xs) x y) = 4) :
 Calls Tryz.prog 111 #[.agg #[.bool s, .slice a1 n1 c1, .int .i64 x], .agg #[.bool t, .slice a2 n2 c2, .int .i64 y]] w (Dyn (noA 4) w) := by
 obtain ⟨d1, d2⟩ := cmpF_ok h0
 have k1 := dchk_chk d1
 have k2 := dchk_chk d2
 have ⟨x1, x2⟩ := dchk_exp d1
 have ⟨y1, y2⟩ := dchk_exp d2
 have hm1 : min x y ≤ x := Int.min_le_left _ _
 have hm2 : min x y ≤ y := Int.min_le_right _ _
 have hm3 : -1073741824 ≤ min x y := by omega
 have hl1 : val xs * 2 ^ (x - min x y).toNat = lvN (val xs) x y := rfl
 have hl2 : val ys * 2 ^ (y - min x y).toNat = lvN (val ys) y x := by unfold lvN; rw [Int.min_comm]
 have u1 : 0 ≤ x - min x y := by omega
 have u2 : 0 ≤ y - min x y := by omega
 go_enter Tryz.func111, Tryz.ntmps111
 go_wp2_with (first
  | (go_at_call 165; refine (two_new s t a1 a2 n1 n2 c1 c2 x y xs ys w _ _ _ _ h1 h2).mono ?_; rintro e w1 ⟨rfl, hW, A, B, R⟩; rw [h0]; have ⟨v22_0, v22_1, v22_2, v22z0, v22z1, v22z2⟩ := A; have ⟨v23_0, v23_1, v23_2, v23z0, v23z1, v23z2⟩ := B; have ⟨v24_0, v24_1, v24_2, v24z0, v24z1, v24z2⟩ := R)
  | (go_at_call 166; (with_reducible refine (refNone_any a1 n1 c1 _).mono ?_); rintro e w2 ⟨rfl, hb2⟩; rw [hn1]; replace hW := next hW hb2; replace A := A.stay hb2; replace B := B.stay hb2; replace R := R.stay hb2; have ⟨v25_0, v25_1, v25_2, v25z0, v25z1, v25z2⟩ := A; have ⟨v26_0, v26_1, v26_2, v26z0, v26z1, v26z2⟩ := B; have ⟨v27_0, v27_1, v27_2, v27z0, v27z1, v27z2⟩ := R)
  | (go_at_call 166; (with_reducible refine (refNone_any a2 n2 c2 _).mono ?_); rintro e w3 ⟨rfl, hb3⟩; rw [hn2]; replace hW := next hW hb3; replace A := A.stay hb3; replace B := B.stay hb3; replace R := R.stay hb3; have ⟨v28_0, v28_1, v28_2, v28z0, v28z1, v28z2⟩ := A; have ⟨v29_0, v29_1, v29_2, v29z0, v29z1, v29z2⟩ := B; have ⟨v30_0, v30_1, v30_2, v30z0, v30z1, v30z2⟩ := R)
  | (go_at_call 168; (with_reducible refine (refUp_i a1 n1 c1 (x - min x y) u1 xs _ (h1.below hW) k1).mono ?_); rintro e w4 ⟨a5, n5, c5, rfl, hF, hb4⟩; rw [hl1] at hF ⊢; rw [g1]; replace hW := more (next hW hb4) (.cells #[.slice a5 n5 c5] 28); replace A := (A.stay hb4).alloc (.cells #[.slice a5 n5 c5] 28); replace B := (B.stay hb4).alloc (.cells #[.slice a5 n5 c5] 28); replace R := (R.stay hb4).alloc (.cells #[.slice a5 n5 c5] 28); have X := box1_new w4 (.slice a5 n5 c5) 28; replace hF := hF.alloc (.cells #[.slice a5 n5 c5] 28); have ⟨v31_0, v31_1, v31_2, v31z0, v31z1, v31z2⟩ := A; have ⟨v32_0, v32_1, v32_2, v32z0, v32z1, v32z2⟩ := B; have ⟨v33_0, v33_1, v33_2, v33z0, v33z1, v33z2⟩ := R; have ⟨v34_0, v34z0⟩ := X)
  | (go_at_call 168; (with_reducible refine (refUp_i a2 n2 c2 (y - min x y) u2 ys _ (h2.below hW) k2).mono ?_); rintro e w5 ⟨a6, n6, c6, rfl, hG, hb5⟩; rw [hl2] at hG ⊢; replace hW := more (next hW hb5) (.cells #[.slice a6 n6 c6] 28); replace A := (A.stay hb5).alloc (.cells #[.slice a6 n6 c6] 28); replace B := (B.stay hb5).alloc (.cells #[.slice a6 n6 c6] 28); replace R := (R.stay hb5).alloc (.cells #[.slice a6 n6 c6] 28); replace X := (X.stay hb5).alloc (.cells #[.slice a6 n6 c6] 28); have Y := box1_new w5 (.slice a6 n6 c6) 28; replace hF := (hF.below hb5).alloc (.cells #[.slice a6 n6 c6] 28); replace hG := hG.alloc (.cells #[.slice a6 n6 c6] 28); have ⟨v35_0, v35_1, v35_2, v35z0, v35z1, v35z2⟩ := A; have ⟨v36_0, v36_1, v36_2, v36z0, v36z1, v36z2⟩ := B; have ⟨v37_0, v37_1, v37_2, v37z0, v37z1, v37z2⟩ := R; have ⟨v38_0, v38z0⟩ := X; have ⟨v39_0, v39z0⟩ := Y))
 have ⟨t0, t1, t2⟩ := R.set (.bool false) (.slice none 0 0) (.int .i64 0)
 refine bodyPost_ret (v := .tuple #[.agg #[.bool false, .slice none 0 0, .int .i64 0], .int .i64 4]) (by simp [results, Tryz.results111, go_sem, t0, t1, t2]) rfl (dyn_no (((hW.setCell (by simp; omega) _).setCell (by simp; omega) _).setCell (by simp; omega) _))
theorem rfAdd_level2 (s t : Bool) (a1 a2 : Option Addr) (n1 n2 c1 c2 : Nat) (x y : Int) (xs ys : List Nat) (w : World) (h1 : Sl w a1 n1 c1 xs) (h2 : Sl w a2 n2 c2 ys) (h0 : cmpF s xs x t ys y = 0) (hn1 : noneB n1 = false) (hn2 : noneB n2 = false) (g1 : bigE (lvN (val xs) x y) = 0) (g2 : bigE (lvN (val ys) y x) = 4) :
 Calls Tryz.prog 111 #[.agg #[.bool s, .slice a1 n1 c1, .int .i64 x], .agg #[.bool t, .slice a2 n2 c2, .int .i64 y]] w (Dyn (noA 4) w) := by
 obtain ⟨d1, d2⟩ := cmpF_ok h0
 have k1 := dchk_chk d1
 have k2 := dchk_chk d2
 have ⟨x1, x2⟩ := dchk_exp d1
 have ⟨y1, y2⟩ := dchk_exp d2
 have hm1 : min x y ≤ x := Int.min_le_left _ _
 have hm2 : min x y ≤ y := Int.min_le_right _ _
 have hm3 : -1073741824 ≤ min x y := by omega
 have hl1 : val xs * 2 ^ (x - min x y).toNat = lvN (val xs) x y := rfl
 have hl2 : val ys * 2 ^ (y - min x y).toNat = lvN (val ys) y x := by unfold lvN; rw [Int.min_comm]
 have u1 : 0 ≤ x - min x y := by omega
 have u2 : 0 ≤ y - min x y := by omega
 go_enter Tryz.func111, Tryz.ntmps111
 go_wp2_with (first
  | (go_at_call 165; refine (two_new s t a1 a2 n1 n2 c1 c2 x y xs ys w _ _ _ _ h1 h2).mono ?_; rintro e w1 ⟨rfl, hW, A, B, R⟩; rw [h0]; have ⟨v40_0, v40_1, v40_2, v40z0, v40z1, v40z2⟩ := A; have ⟨v41_0, v41_1, v41_2, v41z0, v41z1, v41z2⟩ := B; have ⟨v42_0, v42_1, v42_2, v42z0, v42z1, v42z2⟩ := R)
  | (go_at_call 166; (with_reducible refine (refNone_any a1 n1 c1 _).mono ?_); rintro e w2 ⟨rfl, hb2⟩; rw [hn1]; replace hW := next hW hb2; replace A := A.stay hb2; replace B := B.stay hb2; replace R := R.stay hb2; have ⟨v43_0, v43_1, v43_2, v43z0, v43z1, v43z2⟩ := A; have ⟨v44_0, v44_1, v44_2, v44z0, v44z1, v44z2⟩ := B; have ⟨v45_0, v45_1, v45_2, v45z0, v45z1, v45z2⟩ := R)
  | (go_at_call 166; (with_reducible refine (refNone_any a2 n2 c2 _).mono ?_); rintro e w3 ⟨rfl, hb3⟩; rw [hn2]; replace hW := next hW hb3; replace A := A.stay hb3; replace B := B.stay hb3; replace R := R.stay hb3; have ⟨v46_0, v46_1, v46_2, v46z0, v46z1, v46z2⟩ := A; have ⟨v47_0, v47_1, v47_2, v47z0, v47z1, v47z2⟩ := B; have ⟨v48_0, v48_1, v48_2, v48z0, v48z1, v48z2⟩ := R)
  | (go_at_call 168; (with_reducible refine (refUp_i a1 n1 c1 (x - min x y) u1 xs _ (h1.below hW) k1).mono ?_); rintro e w4 ⟨a5, n5, c5, rfl, hF, hb4⟩; rw [hl1] at hF ⊢; rw [g1]; replace hW := more (next hW hb4) (.cells #[.slice a5 n5 c5] 28); replace A := (A.stay hb4).alloc (.cells #[.slice a5 n5 c5] 28); replace B := (B.stay hb4).alloc (.cells #[.slice a5 n5 c5] 28); replace R := (R.stay hb4).alloc (.cells #[.slice a5 n5 c5] 28); have X := box1_new w4 (.slice a5 n5 c5) 28; replace hF := hF.alloc (.cells #[.slice a5 n5 c5] 28); have ⟨v49_0, v49_1, v49_2, v49z0, v49z1, v49z2⟩ := A; have ⟨v50_0, v50_1, v50_2, v50z0, v50z1, v50z2⟩ := B; have ⟨v51_0, v51_1, v51_2, v51z0, v51z1, v51z2⟩ := R; have ⟨v52_0, v52z0⟩ := X)
  | (go_at_call 168; (with_reducible refine (refUp_i a2 n2 c2 (y - min x y) u2 ys _ (h2.below hW) k2).mono ?_); rintro e w5 ⟨a6, n6, c6, rfl, hG, hb5⟩; rw [hl2] at hG ⊢; rw [g2]; replace hW := more (next hW hb5) (.cells #[.slice a6 n6 c6] 28); replace A := (A.stay hb5).alloc (.cells #[.slice a6 n6 c6] 28); replace B := (B.stay hb5).alloc (.cells #[.slice a6 n6 c6] 28); replace R := (R.stay hb5).alloc (.cells #[.slice a6 n6 c6] 28); replace X := (X.stay hb5).alloc (.cells #[.slice a6 n6 c6] 28); have Y := box1_new w5 (.slice a6 n6 c6) 28; replace hF := (hF.below hb5).alloc (.cells #[.slice a6 n6 c6] 28); replace hG := hG.alloc (.cells #[.slice a6 n6 c6] 28); have ⟨v53_0, v53_1, v53_2, v53z0, v53z1, v53z2⟩ := A; have ⟨v54_0, v54_1, v54_2, v54z0, v54z1, v54z2⟩ := B; have ⟨v55_0, v55_1, v55_2, v55z0, v55z1, v55z2⟩ := R; have ⟨v56_0, v56z0⟩ := X; have ⟨v57_0, v57z0⟩ := Y))
 have ⟨t0, t1, t2⟩ := R.set (.bool false) (.slice none 0 0) (.int .i64 0)
 refine bodyPost_ret (v := .tuple #[.agg #[.bool false, .slice none 0 0, .int .i64 0], .int .i64 4]) (by simp [results, Tryz.results111, go_sem, t0, t1, t2]) rfl (dyn_no (((hW.setCell (by simp; omega) _).setCell (by simp; omega) _).setCell (by simp; omega) _))
theorem rfAdd_many (s t : Bool) (a1 a2 : Option Addr) (n1 n2 c1 c2 : Nat) (x y : Int) (xs ys : List Nat) (w : World) (h1 : Sl w a1 n1 c1 xs) (h2 : Sl w a2 n2 c2 ys) (h0 : cmpF s xs x t ys y = 0) (hn1 : noneB n1 = false) (hn2 : noneB n2 = false) (g1 : bigE (lvN (val xs) x y) = 0) (g2 : bigE (lvN (val ys) y x) = 0) (hst : (s == t) = true) (g3 : bigE (lvN (val xs) x y + lvN (val ys) y x) = 4) :
 Calls Tryz.prog 111 #[.agg #[.bool s, .slice a1 n1 c1, .int .i64 x], .agg #[.bool t, .slice a2 n2 c2, .int .i64 y]] w (Dyn (noA 4) w) := by
 obtain ⟨d1, d2⟩ := cmpF_ok h0
 have k1 := dchk_chk d1
 have k2 := dchk_chk d2
 have ⟨x1, x2⟩ := dchk_exp d1
 have ⟨y1, y2⟩ := dchk_exp d2
 have hm1 : min x y ≤ x := Int.min_le_left _ _
 have hm2 : min x y ≤ y := Int.min_le_right _ _
 have hm3 : -1073741824 ≤ min x y := by omega
 have hl1 : val xs * 2 ^ (x - min x y).toNat = lvN (val xs) x y := rfl
 have hl2 : val ys * 2 ^ (y - min x y).toNat = lvN (val ys) y x := by unfold lvN; rw [Int.min_comm]
 have u1 : 0 ≤ x - min x y := by omega
 have u2 : 0 ≤ y - min x y := by omega
 go_enter Tryz.func111, Tryz.ntmps111
 go_wp2_with (first
  | (go_at_call 165; refine (two_new s t a1 a2 n1 n2 c1 c2 x y xs ys w _ _ _ _ h1 h2).mono ?_; rintro e w1 ⟨rfl, hW, A, B, R⟩; rw [h0]; have ⟨v58_0, v58_1, v58_2, v58z0, v58z1, v58z2⟩ := A; have ⟨v59_0, v59_1, v59_2, v59z0, v59z1, v59z2⟩ := B; have ⟨v60_0, v60_1, v60_2, v60z0, v60z1, v60z2⟩ := R)
  | (go_at_call 166; (with_reducible refine (refNone_any a1 n1 c1 _).mono ?_); rintro e w2 ⟨rfl, hb2⟩; rw [hn1]; replace hW := next hW hb2; replace A := A.stay hb2; replace B := B.stay hb2; replace R := R.stay hb2; have ⟨v61_0, v61_1, v61_2, v61z0, v61z1, v61z2⟩ := A; have ⟨v62_0, v62_1, v62_2, v62z0, v62z1, v62z2⟩ := B; have ⟨v63_0, v63_1, v63_2, v63z0, v63z1, v63z2⟩ := R)
  | (go_at_call 166; (with_reducible refine (refNone_any a2 n2 c2 _).mono ?_); rintro e w3 ⟨rfl, hb3⟩; rw [hn2]; replace hW := next hW hb3; replace A := A.stay hb3; replace B := B.stay hb3; replace R := R.stay hb3; have ⟨v64_0, v64_1, v64_2, v64z0, v64z1, v64z2⟩ := A; have ⟨v65_0, v65_1, v65_2, v65z0, v65z1, v65z2⟩ := B; have ⟨v66_0, v66_1, v66_2, v66z0, v66z1, v66z2⟩ := R)
  | (go_at_call 168; (with_reducible refine (refUp_i a1 n1 c1 (x - min x y) u1 xs _ (h1.below hW) k1).mono ?_); rintro e w4 ⟨a5, n5, c5, rfl, hF, hb4⟩; rw [hl1] at hF ⊢; rw [g1]; rw [bigN_of g1] at hF; replace hW := more (next hW hb4) (.cells #[.slice a5 n5 c5] 28); replace A := (A.stay hb4).alloc (.cells #[.slice a5 n5 c5] 28); replace B := (B.stay hb4).alloc (.cells #[.slice a5 n5 c5] 28); replace R := (R.stay hb4).alloc (.cells #[.slice a5 n5 c5] 28); have X := box1_new w4 (.slice a5 n5 c5) 28; replace hF := hF.alloc (.cells #[.slice a5 n5 c5] 28); have ⟨v67_0, v67_1, v67_2, v67z0, v67z1, v67z2⟩ := A; have ⟨v68_0, v68_1, v68_2, v68z0, v68z1, v68z2⟩ := B; have ⟨v69_0, v69_1, v69_2, v69z0, v69z1, v69z2⟩ := R; have ⟨v70_0, v70z0⟩ := X)
  | (go_at_call 168; (with_reducible refine (refUp_i a2 n2 c2 (y - min x y) u2 ys _ (h2.below hW) k2).mono ?_); rintro e w5 ⟨a6, n6, c6, rfl, hG, hb5⟩; rw [hl2] at hG ⊢; rw [g2]; rw [bigN_of g2] at hG; replace hW := more (next hW hb5) (.cells #[.slice a6 n6 c6] 28); replace A := (A.stay hb5).alloc (.cells #[.slice a6 n6 c6] 28); replace B := (B.stay hb5).alloc (.cells #[.slice a6 n6 c6] 28); replace R := (R.stay hb5).alloc (.cells #[.slice a6 n6 c6] 28); replace X := (X.stay hb5).alloc (.cells #[.slice a6 n6 c6] 28); have Y := box1_new w5 (.slice a6 n6 c6) 28; replace hF := (hF.below hb5).alloc (.cells #[.slice a6 n6 c6] 28); replace hG := hG.alloc (.cells #[.slice a6 n6 c6] 28); have ⟨v71_0, v71_1, v71_2, v71z0, v71z1, v71z2⟩ := A; have ⟨v72_0, v72_1, v72_2, v72z0, v72z1, v72z2⟩ := B; have ⟨v73_0, v73_1, v73_2, v73z0, v73z1, v73z2⟩ := R; have ⟨v74_0, v74z0⟩ := X; have ⟨v75_0, v75z0⟩ := Y)
  | (go_at_call 169; refine (refAdd_any a5 a6 n5 n6 c5 c6 (limbs (lvN (val xs) x y)) (limbs (lvN (val ys) y x)) _ hF.sl hG.sl (chk_big g1) (chk_big g2)).mono ?_; rintro e w6 ⟨a7, n7, c7, rfl, hH, hb6⟩; rw [val_limbs', val_limbs'] at hH; rw [val_limbs', val_limbs', g3]; replace hW := more (next hW hb6) (.cells #[.slice a7 n7 c7] 28); replace A := (A.stay hb6).alloc (.cells #[.slice a7 n7 c7] 28); replace B := (B.stay hb6).alloc (.cells #[.slice a7 n7 c7] 28); replace R := (R.stay hb6).alloc (.cells #[.slice a7 n7 c7] 28); replace hH := hH.alloc (.cells #[.slice a7 n7 c7] 28); have ⟨v76_0, v76_1, v76_2, v76z0, v76z1, v76z2⟩ := A; have ⟨v77_0, v77_1, v77_2, v77z0, v77z1, v77z2⟩ := B; have ⟨v78_0, v78_1, v78_2, v78z0, v78z1, v78z2⟩ := R))
 have ⟨t0, t1, t2⟩ := R.set (.bool false) (.slice none 0 0) (.int .i64 0)
 refine bodyPost_ret (v := .tuple #[.agg #[.bool false, .slice none 0 0, .int .i64 0], .int .i64 4]) (by simp [results, Tryz.results111, go_sem, t0, t1, t2]) rfl (dyn_no (((hW.setCell (by simp; omega) _).setCell (by simp; omega) _).setCell (by simp; omega) _))
theorem rfAdd_plus (s t : Bool) (a1 a2 : Option Addr) (n1 n2 c1 c2 : Nat) (x y : Int) (xs ys : List Nat) (w : World) (h1 : Sl w a1 n1 c1 xs) (h2 : Sl w a2 n2 c2 ys) (h0 : cmpF s xs x t ys y = 0) (hn1 : noneB n1 = false) (hn2 : noneB n2 = false) (g1 : bigE (lvN (val xs) x y) = 0) (g2 : bigE (lvN (val ys) y x) = 0) (hst : (s == t) = true) (g3 : bigE (lvN (val xs) x y + lvN (val ys) y x) = 0) :
 Calls Tryz.prog 111 #[.agg #[.bool s, .slice a1 n1 c1, .int .i64 x], .agg #[.bool t, .slice a2 n2 c2, .int .i64 y]] w (Dyn (mkA s (lvN (val xs) x y + lvN (val ys) y x) (min x y)) w) := by
 obtain ⟨d1, d2⟩ := cmpF_ok h0
 have k1 := dchk_chk d1
 have k2 := dchk_chk d2
 have ⟨x1, x2⟩ := dchk_exp d1
 have ⟨y1, y2⟩ := dchk_exp d2
 have hm1 : min x y ≤ x := Int.min_le_left _ _
 have hm2 : min x y ≤ y := Int.min_le_right _ _
 have hm3 : -1073741824 ≤ min x y := by omega
 have hl1 : val xs * 2 ^ (x - min x y).toNat = lvN (val xs) x y := rfl
 have hl2 : val ys * 2 ^ (y - min x y).toNat = lvN (val ys) y x := by unfold lvN; rw [Int.min_comm]
 have u1 : 0 ≤ x - min x y := by omega
 have u2 : 0 ≤ y - min x y := by omega
 go_enter Tryz.func111, Tryz.ntmps111
 go_wp2_with (first
  | (go_at_call 165; refine (two_new s t a1 a2 n1 n2 c1 c2 x y xs ys w _ _ _ _ h1 h2).mono ?_; rintro e w1 ⟨rfl, hW, A, B, R⟩; rw [h0]; have ⟨v79_0, v79_1, v79_2, v79z0, v79z1, v79z2⟩ := A; have ⟨v80_0, v80_1, v80_2, v80z0, v80z1, v80z2⟩ := B; have ⟨v81_0, v81_1, v81_2, v81z0, v81z1, v81z2⟩ := R)
  | (go_at_call 166; (with_reducible refine (refNone_any a1 n1 c1 _).mono ?_); rintro e w2 ⟨rfl, hb2⟩; rw [hn1]; replace hW := next hW hb2; replace A := A.stay hb2; replace B := B.stay hb2; replace R := R.stay hb2; have ⟨v82_0, v82_1, v82_2, v82z0, v82z1, v82z2⟩ := A; have ⟨v83_0, v83_1, v83_2, v83z0, v83z1, v83z2⟩ := B; have ⟨v84_0, v84_1, v84_2, v84z0, v84z1, v84z2⟩ := R)
  | (go_at_call 166; (with_reducible refine (refNone_any a2 n2 c2 _).mono ?_); rintro e w3 ⟨rfl, hb3⟩; rw [hn2]; replace hW := next hW hb3; replace A := A.stay hb3; replace B := B.stay hb3; replace R := R.stay hb3; have ⟨v85_0, v85_1, v85_2, v85z0, v85z1, v85z2⟩ := A; have ⟨v86_0, v86_1, v86_2, v86z0, v86z1, v86z2⟩ := B; have ⟨v87_0, v87_1, v87_2, v87z0, v87z1, v87z2⟩ := R)
  | (go_at_call 168; (with_reducible refine (refUp_i a1 n1 c1 (x - min x y) u1 xs _ (h1.below hW) k1).mono ?_); rintro e w4 ⟨a5, n5, c5, rfl, hF, hb4⟩; rw [hl1] at hF ⊢; rw [g1]; rw [bigN_of g1] at hF; replace hW := more (next hW hb4) (.cells #[.slice a5 n5 c5] 28); replace A := (A.stay hb4).alloc (.cells #[.slice a5 n5 c5] 28); replace B := (B.stay hb4).alloc (.cells #[.slice a5 n5 c5] 28); replace R := (R.stay hb4).alloc (.cells #[.slice a5 n5 c5] 28); have X := box1_new w4 (.slice a5 n5 c5) 28; replace hF := hF.alloc (.cells #[.slice a5 n5 c5] 28); have ⟨v88_0, v88_1, v88_2, v88z0, v88z1, v88z2⟩ := A; have ⟨v89_0, v89_1, v89_2, v89z0, v89z1, v89z2⟩ := B; have ⟨v90_0, v90_1, v90_2, v90z0, v90z1, v90z2⟩ := R; have ⟨v91_0, v91z0⟩ := X)
  | (go_at_call 168; (with_reducible refine (refUp_i a2 n2 c2 (y - min x y) u2 ys _ (h2.below hW) k2).mono ?_); rintro e w5 ⟨a6, n6, c6, rfl, hG, hb5⟩; rw [hl2] at hG ⊢; rw [g2]; rw [bigN_of g2] at hG; replace hW := more (next hW hb5) (.cells #[.slice a6 n6 c6] 28); replace A := (A.stay hb5).alloc (.cells #[.slice a6 n6 c6] 28); replace B := (B.stay hb5).alloc (.cells #[.slice a6 n6 c6] 28); replace R := (R.stay hb5).alloc (.cells #[.slice a6 n6 c6] 28); replace X := (X.stay hb5).alloc (.cells #[.slice a6 n6 c6] 28); have Y := box1_new w5 (.slice a6 n6 c6) 28; replace hF := (hF.below hb5).alloc (.cells #[.slice a6 n6 c6] 28); replace hG := hG.alloc (.cells #[.slice a6 n6 c6] 28); have ⟨v92_0, v92_1, v92_2, v92z0, v92z1, v92z2⟩ := A; have ⟨v93_0, v93_1, v93_2, v93z0, v93z1, v93z2⟩ := B; have ⟨v94_0, v94_1, v94_2, v94z0, v94z1, v94z2⟩ := R; have ⟨v95_0, v95z0⟩ := X; have ⟨v96_0, v96z0⟩ := Y)
  | (go_at_call 169; refine (refAdd_any a5 a6 n5 n6 c5 c6 (limbs (lvN (val xs) x y)) (limbs (lvN (val ys) y x)) _ hF.sl hG.sl (chk_big g1) (chk_big g2)).mono ?_; rintro e w6 ⟨a7, n7, c7, rfl, hH, hb6⟩; rw [val_limbs', val_limbs', bigN_of g3] at hH; rw [val_limbs', val_limbs', g3]; replace hW := more (next hW hb6) (.cells #[.slice a7 n7 c7] 28); replace A := (A.stay hb6).alloc (.cells #[.slice a7 n7 c7] 28); replace B := (B.stay hb6).alloc (.cells #[.slice a7 n7 c7] 28); replace R := (R.stay hb6).alloc (.cells #[.slice a7 n7 c7] 28); replace hH := hH.alloc (.cells #[.slice a7 n7 c7] 28); have ⟨v97_0, v97_1, v97_2, v97z0, v97z1, v97z2⟩ := A; have ⟨v98_0, v98_1, v98_2, v98z0, v98z1, v98z2⟩ := B; have ⟨v99_0, v99_1, v99_2, v99z0, v99z1, v99z2⟩ := R)
  | (go_at_call 123; refine (rfMake_any s a7 n7 c7 (limbs (lvN (val xs) x y + lvN (val ys) y x)) (min x y) _ hH.sl).mono ?_; rintro e w9 ⟨bo, m, d, rfl, hM, hb9⟩; have lR := R.lt; have hsz := hW.size; replace hW := next hW hb9; replace R := R.stay hb9; have ⟨v100_0, v100_1, v100_2, v100z0, v100z1, v100z2⟩ := R))
 have ⟨t0, t1, t2⟩ := R.set (.bool (mkS s (limbs (lvN (val xs) x y + lvN (val ys) y x)) (min x y))) (.slice bo m d) (.int .i64 (mkX (limbs (lvN (val xs) x y + lvN (val ys) y x)) (min x y)))
 refine bodyPost_ret (v := .tuple #[.agg #[.bool (mkS s (limbs (lvN (val xs) x y + lvN (val ys) y x)) (min x y)), .slice bo m d, .int .i64 (mkX (limbs (lvN (val xs) x y + lvN (val ys) y x)) (min x y))], .int .i64 (mkE (limbs (lvN (val xs) x y + lvN (val ys) y x)) (min x y))]) (by simp [results, Tryz.results111, go_sem, t0, t1, t2]) rfl ⟨bo, m, d, rfl, ?_, ((hW.setCell (by simp; omega) _).setCell (by simp; omega) _).setCell (by simp; omega) _⟩
 refine Fr.mono (Fr.setCell (Fr.setCell (Fr.setCell hM ?_ _) ?_ _) ?_ _) hsz <;> exact lR
theorem rfAdd_less (s t : Bool) (a1 a2 : Option Addr) (n1 n2 c1 c2 : Nat) (x y : Int) (xs ys : List Nat) (w : World) (h1 : Sl w a1 n1 c1 xs) (h2 : Sl w a2 n2 c2 ys) (h0 : cmpF s xs x t ys y = 0) (hn1 : noneB n1 = false) (hn2 : noneB n2 = false) (g1 : bigE (lvN (val xs) x y) = 0) (g2 : bigE (lvN (val ys) y x) = 0) (hst : (s == t) = false) (hPQ : lvN (val ys) y x ≤ lvN (val xs) x y) :
 Calls Tryz.prog 111 #[.agg #[.bool s, .slice a1 n1 c1, .int .i64 x], .agg #[.bool t, .slice a2 n2 c2, .int .i64 y]] w (Dyn (mkA s (lvN (val xs) x y - lvN (val ys) y x) (min x y)) w) := by
 obtain ⟨d1, d2⟩ := cmpF_ok h0
 have k1 := dchk_chk d1
 have k2 := dchk_chk d2
 have ⟨x1, x2⟩ := dchk_exp d1
 have ⟨y1, y2⟩ := dchk_exp d2
 have hm1 : min x y ≤ x := Int.min_le_left _ _
 have hm2 : min x y ≤ y := Int.min_le_right _ _
 have hm3 : -1073741824 ≤ min x y := by omega
 have hl1 : val xs * 2 ^ (x - min x y).toNat = lvN (val xs) x y := rfl
 have hl2 : val ys * 2 ^ (y - min x y).toNat = lvN (val ys) y x := by unfold lvN; rw [Int.min_comm]
 have u1 : 0 ≤ x - min x y := by omega
 have u2 : 0 ≤ y - min x y := by omega
 have hcm : ¬ cmpN (lvN (val xs) x y) (lvN (val ys) y x) < 0 := by
  rcases Nat.lt_or_ge (lvN (val ys) y x) (lvN (val xs) x y) with hh | hh
  · rw [cmpN_gt hh]; decide
  · rw [cmpN_eq (Nat.le_antisymm hh hPQ)]; decide
 generalize hcg : cmpN (lvN (val xs) x y) (lvN (val ys) y x) = cm at hcm
 go_enter Tryz.func111, Tryz.ntmps111
 go_wp2_with (first
  | (go_at_call 165; refine (two_new s t a1 a2 n1 n2 c1 c2 x y xs ys w _ _ _ _ h1 h2).mono ?_; rintro e w1 ⟨rfl, hW, A, B, R⟩; rw [h0]; have ⟨v101_0, v101_1, v101_2, v101z0, v101z1, v101z2⟩ := A; have ⟨v102_0, v102_1, v102_2, v102z0, v102z1, v102z2⟩ := B; have ⟨v103_0, v103_1, v103_2, v103z0, v103z1, v103z2⟩ := R)
  | (go_at_call 166; (with_reducible refine (refNone_any a1 n1 c1 _).mono ?_); rintro e w2 ⟨rfl, hb2⟩; rw [hn1]; replace hW := next hW hb2; replace A := A.stay hb2; replace B := B.stay hb2; replace R := R.stay hb2; have ⟨v104_0, v104_1, v104_2, v104z0, v104z1, v104z2⟩ := A; have ⟨v105_0, v105_1, v105_2, v105z0, v105z1, v105z2⟩ := B; have ⟨v106_0, v106_1, v106_2, v106z0, v106z1, v106z2⟩ := R)
  | (go_at_call 166; (with_reducible refine (refNone_any a2 n2 c2 _).mono ?_); rintro e w3 ⟨rfl, hb3⟩; rw [hn2]; replace hW := next hW hb3; replace A := A.stay hb3; replace B := B.stay hb3; replace R := R.stay hb3; have ⟨v107_0, v107_1, v107_2, v107z0, v107z1, v107z2⟩ := A; have ⟨v108_0, v108_1, v108_2, v108z0, v108z1, v108z2⟩ := B; have ⟨v109_0, v109_1, v109_2, v109z0, v109z1, v109z2⟩ := R)
  | (go_at_call 168; (with_reducible refine (refUp_i a1 n1 c1 (x - min x y) u1 xs _ (h1.below hW) k1).mono ?_); rintro e w4 ⟨a5, n5, c5, rfl, hF, hb4⟩; rw [hl1] at hF ⊢; rw [g1]; rw [bigN_of g1] at hF; replace hW := more (next hW hb4) (.cells #[.slice a5 n5 c5] 28); replace A := (A.stay hb4).alloc (.cells #[.slice a5 n5 c5] 28); replace B := (B.stay hb4).alloc (.cells #[.slice a5 n5 c5] 28); replace R := (R.stay hb4).alloc (.cells #[.slice a5 n5 c5] 28); have X := box1_new w4 (.slice a5 n5 c5) 28; replace hF := hF.alloc (.cells #[.slice a5 n5 c5] 28); have ⟨v110_0, v110_1, v110_2, v110z0, v110z1, v110z2⟩ := A; have ⟨v111_0, v111_1, v111_2, v111z0, v111z1, v111z2⟩ := B; have ⟨v112_0, v112_1, v112_2, v112z0, v112z1, v112z2⟩ := R; have ⟨v113_0, v113z0⟩ := X)
  | (go_at_call 168; (with_reducible refine (refUp_i a2 n2 c2 (y - min x y) u2 ys _ (h2.below hW) k2).mono ?_); rintro e w5 ⟨a6, n6, c6, rfl, hG, hb5⟩; rw [hl2] at hG ⊢; rw [g2]; rw [bigN_of g2] at hG; replace hW := more (next hW hb5) (.cells #[.slice a6 n6 c6] 28); replace A := (A.stay hb5).alloc (.cells #[.slice a6 n6 c6] 28); replace B := (B.stay hb5).alloc (.cells #[.slice a6 n6 c6] 28); replace R := (R.stay hb5).alloc (.cells #[.slice a6 n6 c6] 28); replace X := (X.stay hb5).alloc (.cells #[.slice a6 n6 c6] 28); have Y := box1_new w5 (.slice a6 n6 c6) 28; replace hF := (hF.below hb5).alloc (.cells #[.slice a6 n6 c6] 28); replace hG := hG.alloc (.cells #[.slice a6 n6 c6] 28); have ⟨v114_0, v114_1, v114_2, v114z0, v114z1, v114z2⟩ := A; have ⟨v115_0, v115_1, v115_2, v115z0, v115z1, v115z2⟩ := B; have ⟨v116_0, v116_1, v116_2, v116z0, v116z1, v116z2⟩ := R; have ⟨v117_0, v117z0⟩ := X; have ⟨v118_0, v118z0⟩ := Y)
  | (go_at_call 170; refine (refCmp_any a5 a6 n5 n6 c5 c6 (limbs (lvN (val xs) x y)) (limbs (lvN (val ys) y x)) _ hF.sl hG.sl (chk_big g1) (chk_big g2)).mono ?_; rintro e w7 ⟨rfl, hb7⟩; rw [val_limbs', val_limbs', hcg]; replace hW := next hW hb7; replace A := A.stay hb7; replace B := B.stay hb7; replace R := R.stay hb7; replace X := X.stay hb7; replace Y := Y.stay hb7; replace hF := hF.below hb7; replace hG := hG.below hb7; have ⟨v119_0, v119_1, v119_2, v119z0, v119z1, v119z2⟩ := A; have ⟨v120_0, v120_1, v120_2, v120z0, v120z1, v120z2⟩ := B; have ⟨v121_0, v121_1, v121_2, v121z0, v121z1, v121z2⟩ := R; have ⟨v122_0, v122z0⟩ := X; have ⟨v123_0, v123z0⟩ := Y)
  | (go_at_call 171; refine (refSub_any a5 a6 n5 n6 c5 c6 (limbs (lvN (val xs) x y)) (limbs (lvN (val ys) y x)) _ hF.sl hG.sl (chk_big g1) (chk_big g2) (by rw [val_limbs', val_limbs']; exact hPQ)).mono ?_; rintro e w6 ⟨a7, n7, c7, rfl, hH, hb6⟩; rw [val_limbs', val_limbs'] at hH; replace hW := more (next hW hb6) (.cells #[.slice a7 n7 c7] 28); replace A := (A.stay hb6).alloc (.cells #[.slice a7 n7 c7] 28); replace B := (B.stay hb6).alloc (.cells #[.slice a7 n7 c7] 28); replace R := (R.stay hb6).alloc (.cells #[.slice a7 n7 c7] 28); replace hH := hH.alloc (.cells #[.slice a7 n7 c7] 28); have ⟨v124_0, v124_1, v124_2, v124z0, v124z1, v124z2⟩ := A; have ⟨v125_0, v125_1, v125_2, v125z0, v125z1, v125z2⟩ := B; have ⟨v126_0, v126_1, v126_2, v126z0, v126z1, v126z2⟩ := R)
  | (go_at_call 123; refine (rfMake_any s a7 n7 c7 (limbs (lvN (val xs) x y - lvN (val ys) y x)) (min x y) _ hH.sl).mono ?_; rintro e w9 ⟨bo, m, d, rfl, hM, hb9⟩; have lR := R.lt; have hsz := hW.size; replace hW := next hW hb9; replace R := R.stay hb9; have ⟨v127_0, v127_1, v127_2, v127z0, v127z1, v127z2⟩ := R))
 have ⟨t0, t1, t2⟩ := R.set (.bool (mkS s (limbs (lvN (val xs) x y - lvN (val ys) y x)) (min x y))) (.slice bo m d) (.int .i64 (mkX (limbs (lvN (val xs) x y - lvN (val ys) y x)) (min x y)))
 refine bodyPost_ret (v := .tuple #[.agg #[.bool (mkS s (limbs (lvN (val xs) x y - lvN (val ys) y x)) (min x y)), .slice bo m d, .int .i64 (mkX (limbs (lvN (val xs) x y - lvN (val ys) y x)) (min x y))], .int .i64 (mkE (limbs (lvN (val xs) x y - lvN (val ys) y x)) (min x y))]) (by simp [results, Tryz.results111, go_sem, t0, t1, t2]) rfl ⟨bo, m, d, rfl, ?_, ((hW.setCell (by simp; omega) _).setCell (by simp; omega) _).setCell (by simp; omega) _⟩
 refine Fr.mono (Fr.setCell (Fr.setCell (Fr.setCell hM ?_ _) ?_ _) ?_ _) hsz <;> exact lR
theorem rfAdd_more (s t : Bool) (a1 a2 : Option Addr) (n1 n2 c1 c2 : Nat) (x y : Int) (xs ys : List Nat) (w : World) (h1 : Sl w a1 n1 c1 xs) (h2 : Sl w a2 n2 c2 ys) (h0 : cmpF s xs x t ys y = 0) (hn1 : noneB n1 = false) (hn2 : noneB n2 = false) (g1 : bigE (lvN (val xs) x y) = 0) (g2 : bigE (lvN (val ys) y x) = 0) (hst : (s == t) = false) (hPQ : lvN (val xs) x y < lvN (val ys) y x) :
 Calls Tryz.prog 111 #[.agg #[.bool s, .slice a1 n1 c1, .int .i64 x], .agg #[.bool t, .slice a2 n2 c2, .int .i64 y]] w (Dyn (mkA t (lvN (val ys) y x - lvN (val xs) x y) (min x y)) w) := by
 obtain ⟨d1, d2⟩ := cmpF_ok h0
 have k1 := dchk_chk d1
 have k2 := dchk_chk d2
 have ⟨x1, x2⟩ := dchk_exp d1
 have ⟨y1, y2⟩ := dchk_exp d2
 have hm1 : min x y ≤ x := Int.min_le_left _ _
 have hm2 : min x y ≤ y := Int.min_le_right _ _
 have hm3 : -1073741824 ≤ min x y := by omega
 have hl1 : val xs * 2 ^ (x - min x y).toNat = lvN (val xs) x y := rfl
 have hl2 : val ys * 2 ^ (y - min x y).toNat = lvN (val ys) y x := by unfold lvN; rw [Int.min_comm]
 have u1 : 0 ≤ x - min x y := by omega
 have u2 : 0 ≤ y - min x y := by omega
 have hcm : cmpN (lvN (val xs) x y) (lvN (val ys) y x) < 0 := by
  rw [cmpN_lt hPQ]; decide
 generalize hcg : cmpN (lvN (val xs) x y) (lvN (val ys) y x) = cm at hcm
 go_enter Tryz.func111, Tryz.ntmps111
 go_wp2_with (first
  | (go_at_call 165; refine (two_new s t a1 a2 n1 n2 c1 c2 x y xs ys w _ _ _ _ h1 h2).mono ?_; rintro e w1 ⟨rfl, hW, A, B, R⟩; rw [h0]; have ⟨v128_0, v128_1, v128_2, v128z0, v128z1, v128z2⟩ := A; have ⟨v129_0, v129_1, v129_2, v129z0, v129z1, v129z2⟩ := B; have ⟨v130_0, v130_1, v130_2, v130z0, v130z1, v130z2⟩ := R)
  | (go_at_call 166; (with_reducible refine (refNone_any a1 n1 c1 _).mono ?_); rintro e w2 ⟨rfl, hb2⟩; rw [hn1]; replace hW := next hW hb2; replace A := A.stay hb2; replace B := B.stay hb2; replace R := R.stay hb2; have ⟨v131_0, v131_1, v131_2, v131z0, v131z1, v131z2⟩ := A; have ⟨v132_0, v132_1, v132_2, v132z0, v132z1, v132z2⟩ := B; have ⟨v133_0, v133_1, v133_2, v133z0, v133z1, v133z2⟩ := R)
  | (go_at_call 166; (with_reducible refine (refNone_any a2 n2 c2 _).mono ?_); rintro e w3 ⟨rfl, hb3⟩; rw [hn2]; replace hW := next hW hb3; replace A := A.stay hb3; replace B := B.stay hb3; replace R := R.stay hb3; have ⟨v134_0, v134_1, v134_2, v134z0, v134z1, v134z2⟩ := A; have ⟨v135_0, v135_1, v135_2, v135z0, v135z1, v135z2⟩ := B; have ⟨v136_0, v136_1, v136_2, v136z0, v136z1, v136z2⟩ := R)
  | (go_at_call 168; (with_reducible refine (refUp_i a1 n1 c1 (x - min x y) u1 xs _ (h1.below hW) k1).mono ?_); rintro e w4 ⟨a5, n5, c5, rfl, hF, hb4⟩; rw [hl1] at hF ⊢; rw [g1]; rw [bigN_of g1] at hF; replace hW := more (next hW hb4) (.cells #[.slice a5 n5 c5] 28); replace A := (A.stay hb4).alloc (.cells #[.slice a5 n5 c5] 28); replace B := (B.stay hb4).alloc (.cells #[.slice a5 n5 c5] 28); replace R := (R.stay hb4).alloc (.cells #[.slice a5 n5 c5] 28); have X := box1_new w4 (.slice a5 n5 c5) 28; replace hF := hF.alloc (.cells #[.slice a5 n5 c5] 28); have ⟨v137_0, v137_1, v137_2, v137z0, v137z1, v137z2⟩ := A; have ⟨v138_0, v138_1, v138_2, v138z0, v138z1, v138z2⟩ := B; have ⟨v139_0, v139_1, v139_2, v139z0, v139z1, v139z2⟩ := R; have ⟨v140_0, v140z0⟩ := X)
  | (go_at_call 168; (with_reducible refine (refUp_i a2 n2 c2 (y - min x y) u2 ys _ (h2.below hW) k2).mono ?_); rintro e w5 ⟨a6, n6, c6, rfl, hG, hb5⟩; rw [hl2] at hG ⊢; rw [g2]; rw [bigN_of g2] at hG; replace hW := more (next hW hb5) (.cells #[.slice a6 n6 c6] 28); replace A := (A.stay hb5).alloc (.cells #[.slice a6 n6 c6] 28); replace B := (B.stay hb5).alloc (.cells #[.slice a6 n6 c6] 28); replace R := (R.stay hb5).alloc (.cells #[.slice a6 n6 c6] 28); replace X := (X.stay hb5).alloc (.cells #[.slice a6 n6 c6] 28); have Y := box1_new w5 (.slice a6 n6 c6) 28; replace hF := (hF.below hb5).alloc (.cells #[.slice a6 n6 c6] 28); replace hG := hG.alloc (.cells #[.slice a6 n6 c6] 28); have ⟨v141_0, v141_1, v141_2, v141z0, v141z1, v141z2⟩ := A; have ⟨v142_0, v142_1, v142_2, v142z0, v142z1, v142z2⟩ := B; have ⟨v143_0, v143_1, v143_2, v143z0, v143z1, v143z2⟩ := R; have ⟨v144_0, v144z0⟩ := X; have ⟨v145_0, v145z0⟩ := Y)
  | (go_at_call 170; refine (refCmp_any a5 a6 n5 n6 c5 c6 (limbs (lvN (val xs) x y)) (limbs (lvN (val ys) y x)) _ hF.sl hG.sl (chk_big g1) (chk_big g2)).mono ?_; rintro e w7 ⟨rfl, hb7⟩; rw [val_limbs', val_limbs', hcg]; replace hW := next hW hb7; replace A := A.stay hb7; replace B := B.stay hb7; replace R := R.stay hb7; replace X := X.stay hb7; replace Y := Y.stay hb7; replace hF := hF.below hb7; replace hG := hG.below hb7; have ⟨v146_0, v146_1, v146_2, v146z0, v146z1, v146z2⟩ := A; have ⟨v147_0, v147_1, v147_2, v147z0, v147z1, v147z2⟩ := B; have ⟨v148_0, v148_1, v148_2, v148z0, v148z1, v148z2⟩ := R; have ⟨v149_0, v149z0⟩ := X; have ⟨v150_0, v150z0⟩ := Y)
  | (go_at_call 171; refine (refSub_any a6 a5 n6 n5 c6 c5 (limbs (lvN (val ys) y x)) (limbs (lvN (val xs) x y)) _ hG.sl hF.sl (chk_big g2) (chk_big g1) (by rw [val_limbs', val_limbs']; exact Nat.le_of_lt hPQ)).mono ?_; rintro e w6 ⟨a7, n7, c7, rfl, hH, hb6⟩; rw [val_limbs', val_limbs'] at hH; replace hW := more (next hW hb6) (.cells #[.slice a7 n7 c7] 28); replace A := (A.stay hb6).alloc (.cells #[.slice a7 n7 c7] 28); replace B := (B.stay hb6).alloc (.cells #[.slice a7 n7 c7] 28); replace R := (R.stay hb6).alloc (.cells #[.slice a7 n7 c7] 28); replace hH := hH.alloc (.cells #[.slice a7 n7 c7] 28); have ⟨v151_0, v151_1, v151_2, v151z0, v151z1, v151z2⟩ := A; have ⟨v152_0, v152_1, v152_2, v152z0, v152z1, v152z2⟩ := B; have ⟨v153_0, v153_1, v153_2, v153z0, v153z1, v153z2⟩ := R)
  | (go_at_call 123; refine (rfMake_any t a7 n7 c7 (limbs (lvN (val ys) y x - lvN (val xs) x y)) (min x y) _ hH.sl).mono ?_; rintro e w9 ⟨bo, m, d, rfl, hM, hb9⟩; have lR := R.lt; have hsz := hW.size; replace hW := next hW hb9; replace R := R.stay hb9; have ⟨v154_0, v154_1, v154_2, v154z0, v154z1, v154z2⟩ := R))
 have ⟨t0, t1, t2⟩ := R.set (.bool (mkS t (limbs (lvN (val ys) y x - lvN (val xs) x y)) (min x y))) (.slice bo m d) (.int .i64 (mkX (limbs (lvN (val ys) y x - lvN (val xs) x y)) (min x y)))
 refine bodyPost_ret (v := .tuple #[.agg #[.bool (mkS t (limbs (lvN (val ys) y x - lvN (val xs) x y)) (min x y)), .slice bo m d, .int .i64 (mkX (limbs (lvN (val ys) y x - lvN (val xs) x y)) (min x y))], .int .i64 (mkE (limbs (lvN (val ys) y x - lvN (val xs) x y)) (min x y))]) (by simp [results, Tryz.results111, go_sem, t0, t1, t2]) rfl ⟨bo, m, d, rfl, ?_, ((hW.setCell (by simp; omega) _).setCell (by simp; omega) _).setCell (by simp; omega) _⟩
 refine Fr.mono (Fr.setCell (Fr.setCell (Fr.setCell hM ?_ _) ?_ _) ?_ _) hsz <;> exact lR
theorem rfAdd_any (s t : Bool) (a1 a2 : Option Addr) (n1 n2 c1 c2 : Nat) (x y : Int) (xs ys : List Nat) (w : World) (h1 : Sl w a1 n1 c1 xs) (h2 : Sl w a2 n2 c2 ys) :
 Calls Tryz.prog 111 #[.agg #[.bool s, .slice a1 n1 c1, .int .i64 x], .agg #[.bool t, .slice a2 n2 c2, .int .i64 y]] w (Dyn (addA s xs x t ys y) w) := by
 by_cases h0 : cmpF s xs x t ys y = 0
 · obtain ⟨d1, d2⟩ := cmpF_ok h0
   have z1 := val_zero_n h1 (dchk_chk d1)
   have z2 := val_zero_n h2 (dchk_chk d2)
   unfold addA
   rw [if_neg (by simp [d1]), if_neg (by simp [d2])]
   by_cases e1 : val xs = 0
   · rw [if_pos e1]
     exact rfAdd_anone s t a1 a2 n1 n2 c1 c2 x y xs ys w h1 h2 h0 (decide_eq_true (z1.1 e1))
   · have f1 : noneB n1 = false := decide_eq_false fun hh => e1 (z1.2 hh)
     rw [if_neg e1]
     by_cases e2 : val ys = 0
     · rw [if_pos e2]
       exact rfAdd_bnone s t a1 a2 n1 n2 c1 c2 x y xs ys w h1 h2 h0 f1 (decide_eq_true (z2.1 e2))
     · have f2 : noneB n2 = false := decide_eq_false fun hh => e2 (z2.2 hh)
       rw [if_neg e2]
       by_cases g : bigE (lvN (val xs) x y) ≠ 0 ∨ bigE (lvN (val ys) y x) ≠ 0
       · rw [if_pos g]
         by_cases g1 : bigE (lvN (val xs) x y) = 0
         · exact rfAdd_level2 s t a1 a2 n1 n2 c1 c2 x y xs ys w h1 h2 h0 f1 f2 g1 (bigE_four (g.resolve_left (by simp [g1])))
         · exact rfAdd_level1 s t a1 a2 n1 n2 c1 c2 x y xs ys w h1 h2 h0 f1 f2 (bigE_four g1)
       · rw [if_neg g]
         have g1 : bigE (lvN (val xs) x y) = 0 := Decidable.byContradiction fun hh => g (.inl hh)
         have g2 : bigE (lvN (val ys) y x) = 0 := Decidable.byContradiction fun hh => g (.inr hh)
         by_cases hst : s = t
         · rw [if_pos hst]
           have hB : (s == t) = true := beq_iff_eq.2 hst
           by_cases g3 : bigE (lvN (val xs) x y + lvN (val ys) y x) = 0
           · rw [if_neg (by simp [g3])]
             exact rfAdd_plus s t a1 a2 n1 n2 c1 c2 x y xs ys w h1 h2 h0 f1 f2 g1 g2 hB g3
           · rw [if_pos g3]
             exact rfAdd_many s t a1 a2 n1 n2 c1 c2 x y xs ys w h1 h2 h0 f1 f2 g1 g2 hB (bigE_four g3)
         · rw [if_neg hst]
           have hB : (s == t) = false := beq_eq_false_iff_ne.2 hst
           by_cases hPQ : lvN (val ys) y x ≤ lvN (val xs) x y
           · rw [if_pos hPQ]
             exact rfAdd_less s t a1 a2 n1 n2 c1 c2 x y xs ys w h1 h2 h0 f1 f2 g1 g2 hB hPQ
           · rw [if_neg hPQ]
             exact rfAdd_more s t a1 a2 n1 n2 c1 c2 x y xs ys w h1 h2 h0 f1 f2 g1 g2 hB (Nat.lt_of_not_le hPQ)
 · rw [addA_bad h0]
   exact rfAdd_bad s t a1 a2 n1 n2 c1 c2 x y xs ys w h1 h2 h0
end Go.Proofs.YtfjgmpfpadfknaaGreatDoor
