/-
  The walk of nat.Add: a sum in a block of its own. The walks of nat.Sub and nat.Cmp. The walks of the reference's plus, less, fits, two, Add, Sub, Cmp. The walks of nat.Mul and of the reference's times and Mul: a product in a block of its own. The walks of the reference's less, times, fits, two, Add, Sub, Mul, Cmp. The walks of the reference's Add, Sub, Mul, Cmp of numbers.
-/
import Derived.Test.YtpmncmglmobjoaaGreatDoorQbTUps
set_option maxHeartbeats 2000000
set_option maxRecDepth 100000
namespace Go.Proofs.YtpmncmglmobjoaaGreatDoor
open Go.RowKit Go.Lb
theorem checks_new (a1 a2 : Option Addr) (n1 n2 c1 c2 : Nat) (xs ys : List Nat) (w : World) (r : Value) (t : TypeId) (h1 : Sl w a1 n1 c1 xs) (h2 : Sl w a2 n2 c2 ys) (hx : chk xs = 0) (hy : chk ys = 0) :
 Calls Tryz.prog 115 #[.slice (some ⟨w.heap.size + 1 + 1 + 1, 0, none⟩) 2 2] ((((w.alloc (.cells #[.slice a1 n1 c1] 27)).alloc (.cells #[.slice a2 n2 c2] 27)).alloc (.cells #[r] t)).alloc (.cells #[.slice a1 n1 c1, .slice a2 n2 c2] 27)) fun e w' =>
  e = .returned (.int .i64 0) ∧ Below w.heap.size w w' ∧ Box1 w' w.heap.size (.slice a1 n1 c1) ∧ Box1 w' (w.heap.size + 1) (.slice a2 n2 c2) ∧ Box1 w' (w.heap.size + 1 + 1) r := by
 have hz : w.heap.size + 1 + 1 + 1 = (((w.alloc (.cells #[.slice a1 n1 c1] 27)).alloc (.cells #[.slice a2 n2 c2] 27)).alloc (.cells #[r] t)).heap.size := by rw [World.size_alloc, World.size_alloc, World.size_alloc]
 rw [hz]
 refine (natChecks_two a1 a2 n1 n2 c1 c2 _ xs ys _ ((((h1.alloc _).alloc _).alloc _).alloc _) ((((h2.alloc _).alloc _).alloc _).alloc _) hx hy (by simp [go_sem]) (by simp [go_sem])).mono ?_
 rintro e w' ⟨rfl, hb⟩
 refine ⟨rfl, next (more (more (more (more (Below.refl _ _) _) _) _) _) hb, (((((box1_new w _ _).alloc _).alloc _).alloc _).stay hb), ?_, ?_⟩
 · have := (((box1_new (w.alloc (.cells #[.slice a1 n1 c1] 27)) (.slice a2 n2 c2) 27).alloc (.cells #[r] t)).alloc (.cells #[.slice a1 n1 c1, .slice a2 n2 c2] 27)).stay hb
   rw [World.size_alloc] at this
   exact this
 · have := ((box1_new ((w.alloc (.cells #[.slice a1 n1 c1] 27)).alloc (.cells #[.slice a2 n2 c2] 27)) r t).alloc (.cells #[.slice a1 n1 c1, .slice a2 n2 c2] 27)).stay hb
   rw [World.size_alloc, World.size_alloc] at this
   exact this
theorem natAdd_ge (a1 a2 : Option Addr) (n1 n2 c1 c2 : Nat) (xs ys : List Nat) (w : World) (h1 : Sl w a1 n1 c1 xs) (h2 : Sl w a2 n2 c2 ys) (hx : chk xs = 0) (hy : chk ys = 0) (hn : ¬ n1 < n2) :
 Calls Tryz.prog 77 #[.agg #[.slice a1 n1 c1], .agg #[.slice a2 n2 c2]] w (Numb w (bigN (val xs + val ys)) (bigE (val xs + val ys))) := by
 obtain ⟨i0, hi0, hz0, hz1, hz2⟩ := info_parts u32_infoL
 have l1 := chk_zero_len hx
 have l2 := chk_zero_len hy
 have e1 := h1.len
 have e2 := h2.len
 go_enter Tryz.func77, Tryz.ntmps77
 go_wp2_with (first
  | (go_at_call 115; refine (checks_new a1 a2 n1 n2 c1 c2 xs ys w _ _ h1 h2 hx hy).mono ?_; rintro e w1 ⟨rfl, hW, A, B, C⟩; have ⟨q0, qz⟩ := A; have ⟨b0, bz⟩ := B; have ⟨r0, rz⟩ := C))
 go_quiet (fail)
 rename_i nq
 have Hb := drewn (Below.refl w1.heap.size w1) nq
 generalize w1.drewN nq = wq at Hb ⊢
 replace hW := next hW Hb
 replace A := A.stay Hb
 replace B := B.stay Hb
 replace C := C.stay Hb
 clear q0 qz b0 bz r0 rz Hb
 go_wp2_with (first
  | (at_make; refine wpList_make_full _ rfl _ _ 25 rfl wq.heap.size 40 i0 _ 1 Tryz.underlying25 hi0 hz0 hz1 _ _ _ _ (n1 + 1) rfl rfl rfl rfl (by rw [hz2]; omega) (by unfold maxLen; omega) (Nat.le_refl _) ?_; intro w2 hown hg1; rw [made_lvs] at hown; have hb1 := (Below.refl wq.heap.size wq).grown hg1 (Nat.le_refl _) (by simp)))
 go_loopw [10, 39] (fun cv i wr => ∃ (k cc : Nat) (zs : List Nat), k ≤ n1 ∧ i = .int .i64 k ∧ cv = .int .u32 cc ∧ Ad xs ys k zs cc ∧ wr.ownsRow wq.heap.size 40 1 (.slice (some ⟨wq.heap.size, 0, none⟩) (n1 + 1) (n1 + 1)) (n1 + 1) (lvs (zs ++ List.replicate (n1 + 1 - k) 0)) ∧ Below wq.heap.size wq wr) (fun _ i _ => n1 - (intOf i).toNat)
 case atStart => exact ⟨0, 0, [], by omega, rfl, rfl, ad_zero xs ys, hown, hb1⟩
 case round =>
  obtain ⟨k, cc, zs, hk, rfl, rfl, had, hownk, hbk⟩ := hrel
  have hok : Ok (zs ++ [cc]) := ok_append had.ok (ok_cons (by have := had.one; omega) ok_nil)
  have hcc := had.one
  have hWk := next hW hbk
  have C' := C.stay hbk
  by_cases hkn : k < n1
  · obtain ⟨b, o, rfl, hb, hc⟩ := (h1.below hWk).at_ (by omega)
    have hcell := hc k hkn
    clear hc
    have hx1 := nth_lt h1.ok k
    have hx2 := nth_lt h2.ok k
    have hd := had.next h1.ok h2.ok
    have hst := own_cell hownk (j := k) (by omega)
    have hfz := hownk.frozenAt k
    obtain ⟨o1, r1⟩ := hownk.stored k (lv ((nth xs k + nth ys k + cc) % 4294967296))
    rw [set_front had.len (by omega)] at o1
    have hb2 := hbk.grown r1 hbk.size (by simp)
    by_cases hk2 : k < n2
    · obtain ⟨b2, p2, rfl, hb2', hc2⟩ := (h2.below hWk).at_ (by omega)
      have hcell2 := hc2 k hk2
      clear hc2 h1 h2
      go_wp2_with (go_at_call 116; refine (add32_any (nth xs k) (nth ys k) cc _ hx1 hx2 hcc).mono ?_; rintro e w3 ⟨rfl, rfl⟩)
      exact ⟨⟨k + 1, _, _, by omega, by go_num, rfl, hd, o1, hb2⟩, by simp [intOf]; omega⟩
    · have hy0 : nth ys k = 0 := nth_over (by omega)
      rw [hy0] at hd o1 hb2
      clear h1 h2 hy0 r1
      go_wp2_with (go_at_call 116; refine (add32_any (nth xs k) 0 cc _ hx1 (by decide) hcc).mono ?_; rintro e w3 ⟨rfl, rfl⟩)
      exact ⟨⟨k + 1, _, _, by omega, by go_num, rfl, hd, o1, hb2⟩, by simp [intOf]; omega⟩
  · obtain rfl : k = n1 := by omega
    have hs := (had.sum (by omega) (by omega)).1
    have hst := own_cell hownk (j := k) (by omega)
    have hfz := hownk.frozenAt k
    obtain ⟨o1, r1⟩ := hownk.stored k (lv cc)
    rw [set_front had.len (by omega), Nat.sub_self, List.replicate_zero, List.append_nil] at o1
    have hb2 := hbk.grown r1 hbk.size (by simp)
    have ⟨r0, rz⟩ := C'
    clear h1 h2
    go_wp2_with (go_at_call 117; refine (natFits_any _ o1 hok).mono ?_; rintro e w3 ⟨ao, kk, c, rfl, hF, hb3⟩; rw [hs] at hF ⊢; have hlt := C.lt; have C'' := (C.stay hb2).stay hb3; have ⟨r3, z3⟩ := C''; have hW3 := next (next hW hb2) hb3)
    refine bodyPost_ret (v := .tuple #[.agg #[.slice ao kk c], .int .i64 (bigE (val xs + val ys))]) (by simp [results, Tryz.results77, go_sem, C''.set]) rfl ⟨ao, kk, c, rfl, (hF.setCell (by simpa using hlt) _).mono hW.size, hW3.setCell (by simp; omega) _⟩
theorem natAdd_lt (a1 a2 : Option Addr) (n1 n2 c1 c2 : Nat) (xs ys : List Nat) (w : World) (h1 : Sl w a1 n1 c1 xs) (h2 : Sl w a2 n2 c2 ys) (hx : chk xs = 0) (hy : chk ys = 0) (hn : n1 < n2) :
 Calls Tryz.prog 77 #[.agg #[.slice a1 n1 c1], .agg #[.slice a2 n2 c2]] w (Numb w (bigN (val xs + val ys)) (bigE (val xs + val ys))) := by
 obtain ⟨i0, hi0, hz0, hz1, hz2⟩ := info_parts u32_infoL
 have l1 := chk_zero_len hx
 have l2 := chk_zero_len hy
 have e1 := h1.len
 have e2 := h2.len
 go_enter Tryz.func77, Tryz.ntmps77
 go_wp2_with (first
  | (go_at_call 115; refine (checks_new a1 a2 n1 n2 c1 c2 xs ys w _ _ h1 h2 hx hy).mono ?_; rintro e w1 ⟨rfl, hW, A, B, C⟩; have ⟨q0, qz⟩ := A; have ⟨b0, bz⟩ := B; have ⟨r0, rz⟩ := C))
 go_quiet (fail)
 rename_i nq
 have Hb := drewn (Below.refl w1.heap.size w1) nq
 generalize w1.drewN nq = wq at Hb ⊢
 replace hW := next hW Hb
 replace A := A.stay Hb
 replace B := B.stay Hb
 replace C := C.stay Hb
 clear q0 qz b0 bz r0 rz Hb
 go_wp2_with (first
  | (at_make; refine wpList_make_full _ rfl _ _ 25 rfl wq.heap.size 40 i0 _ 1 Tryz.underlying25 hi0 hz0 hz1 _ _ _ _ (n2 + 1) rfl rfl rfl rfl (by rw [hz2]; omega) (by unfold maxLen; omega) (Nat.le_refl _) ?_; intro w2 hown hg1; rw [made_lvs] at hown; have hb1 := (Below.refl wq.heap.size wq).grown hg1 (Nat.le_refl _) (by simp)))
 go_loopw [10, 39] (fun cv i wr => ∃ (k cc : Nat) (zs : List Nat), k ≤ n2 ∧ i = .int .i64 k ∧ cv = .int .u32 cc ∧ Ad ys xs k zs cc ∧ wr.ownsRow wq.heap.size 40 1 (.slice (some ⟨wq.heap.size, 0, none⟩) (n2 + 1) (n2 + 1)) (n2 + 1) (lvs (zs ++ List.replicate (n2 + 1 - k) 0)) ∧ Below wq.heap.size wq wr) (fun _ i _ => n2 - (intOf i).toNat)
 case atStart => exact ⟨0, 0, [], by omega, rfl, rfl, ad_zero ys xs, hown, hb1⟩
 case round =>
  obtain ⟨k, cc, zs, hk, rfl, rfl, had, hownk, hbk⟩ := hrel
  have hok : Ok (zs ++ [cc]) := ok_append had.ok (ok_cons (by have := had.one; omega) ok_nil)
  have hcc := had.one
  have hWk := next hW hbk
  have C' := C.stay hbk
  by_cases hkn : k < n2
  · obtain ⟨b, o, rfl, hb, hc⟩ := (h2.below hWk).at_ (by omega)
    have hcell := hc k hkn
    clear hc
    have hx1 := nth_lt h2.ok k
    have hx2 := nth_lt h1.ok k
    have hd := had.next h2.ok h1.ok
    have hst := own_cell hownk (j := k) (by omega)
    have hfz := hownk.frozenAt k
    obtain ⟨o1, r1⟩ := hownk.stored k (lv ((nth ys k + nth xs k + cc) % 4294967296))
    rw [set_front had.len (by omega)] at o1
    have hb2 := hbk.grown r1 hbk.size (by simp)
    by_cases hk2 : k < n1
    · obtain ⟨b2, p2, rfl, hb2', hc2⟩ := (h1.below hWk).at_ (by omega)
      have hcell2 := hc2 k hk2
      clear hc2 h2 h1
      go_wp2_with (go_at_call 116; refine (add32_any (nth ys k) (nth xs k) cc _ hx1 hx2 hcc).mono ?_; rintro e w3 ⟨rfl, rfl⟩)
      exact ⟨⟨k + 1, _, _, by omega, by go_num, rfl, hd, o1, hb2⟩, by simp [intOf]; omega⟩
    · have hy0 : nth xs k = 0 := nth_over (by omega)
      rw [hy0] at hd o1 hb2
      clear h2 h1 hy0 r1
      go_wp2_with (go_at_call 116; refine (add32_any (nth ys k) 0 cc _ hx1 (by decide) hcc).mono ?_; rintro e w3 ⟨rfl, rfl⟩)
      exact ⟨⟨k + 1, _, _, by omega, by go_num, rfl, hd, o1, hb2⟩, by simp [intOf]; omega⟩
  · obtain rfl : k = n2 := by omega
    have hs := (had.sum (by omega) (by omega)).1.trans (Nat.add_comm _ _)
    have hst := own_cell hownk (j := k) (by omega)
    have hfz := hownk.frozenAt k
    obtain ⟨o1, r1⟩ := hownk.stored k (lv cc)
    rw [set_front had.len (by omega), Nat.sub_self, List.replicate_zero, List.append_nil] at o1
    have hb2 := hbk.grown r1 hbk.size (by simp)
    have ⟨r0, rz⟩ := C'
    clear h2 h1
    go_wp2_with (go_at_call 117; refine (natFits_any _ o1 hok).mono ?_; rintro e w3 ⟨ao, kk, c, rfl, hF, hb3⟩; rw [hs] at hF ⊢; have hlt := C.lt; have C'' := (C.stay hb2).stay hb3; have ⟨r3, z3⟩ := C''; have hW3 := next (next hW hb2) hb3)
    refine bodyPost_ret (v := .tuple #[.agg #[.slice ao kk c], .int .i64 (bigE (val xs + val ys))]) (by simp [results, Tryz.results77, go_sem, C''.set]) rfl ⟨ao, kk, c, rfl, (hF.setCell (by simpa using hlt) _).mono hW.size, hW3.setCell (by simp; omega) _⟩
theorem natAdd_any (a1 a2 : Option Addr) (n1 n2 c1 c2 : Nat) (xs ys : List Nat) (w : World) (h1 : Sl w a1 n1 c1 xs) (h2 : Sl w a2 n2 c2 ys) (hx : chk xs = 0) (hy : chk ys = 0) :
 Calls Tryz.prog 77 #[.agg #[.slice a1 n1 c1], .agg #[.slice a2 n2 c2]] w (Numb w (bigN (val xs + val ys)) (bigE (val xs + val ys))) := by
 rcases Nat.lt_or_ge n1 n2 with hn | hn
 · exact natAdd_lt a1 a2 n1 n2 c1 c2 xs ys w h1 h2 hx hy hn
 · exact natAdd_ge a1 a2 n1 n2 c1 c2 xs ys w h1 h2 hx hy (by omega)
def Subs (w : World) (N : Nat) (b : Bool) (e : Ending) (w' : World) : Prop :=
 ∃ ao n c, e = .returned (.tuple #[.agg #[.slice ao n c], .bool b, .int .i64 0]) ∧ Fr 40 w' w.heap.size ao n c (limbs N) ∧ Below w.heap.size w w'
theorem natSub_lt (a1 a2 : Option Addr) (n1 n2 c1 c2 : Nat) (xs ys : List Nat) (w : World) (h1 : Sl w a1 n1 c1 xs) (h2 : Sl w a2 n2 c2 ys) (hx : chk xs = 0) (hy : chk ys = 0) (hv : val xs < val ys) :
 Calls Tryz.prog 78 #[.agg #[.slice a1 n1 c1], .agg #[.slice a2 n2 c2]] w (Subs w 0 false) := by
 have hcm := cmpN_lt hv
 go_enter Tryz.func78, Tryz.ntmps78
 go_wp2_with (first
  | (go_at_call 115; refine (checks_new a1 a2 n1 n2 c1 c2 xs ys w _ _ h1 h2 hx hy).mono ?_; rintro e w1 ⟨rfl, hW, A, B, C⟩; have ⟨q0, qz⟩ := A; have ⟨b0, bz⟩ := B; have ⟨r0, rz⟩ := C)
  | (go_at_call 118; refine (natCmpL_any a1 a2 n1 n2 c1 c2 xs ys _ (h1.below hW) (h2.below hW) hx hy).mono ?_; rintro e w2 ⟨rfl, hb2⟩; rw [hcm]; have C' := C.stay hb2; have ⟨r2, z2⟩ := C'; have hW2 := next hW hb2))
 refine bodyPost_ret (v := .tuple #[.agg #[.slice none 0 0], .bool false, .int .i64 0]) (by simp [results, Tryz.results78, go_sem, C'.set]) rfl ⟨none, 0, 0, rfl, ?_, hW2.setCell (by simp; omega) _⟩
 rw [limbs_zero]
 exact fr_nil _ _ _
theorem natSub_ge (a1 a2 : Option Addr) (n1 n2 c1 c2 : Nat) (xs ys : List Nat) (w : World) (h1 : Sl w a1 n1 c1 xs) (h2 : Sl w a2 n2 c2 ys) (hx : chk xs = 0) (hy : chk ys = 0) (hv : val ys ≤ val xs) :
 Calls Tryz.prog 78 #[.agg #[.slice a1 n1 c1], .agg #[.slice a2 n2 c2]] w (Subs w (val xs - val ys) true) := by
 obtain ⟨i0, hi0, hz0, hz1, hz2⟩ := info_parts u32_infoL
 have l1 := chk_zero_len hx
 have l2 := chk_zero_len hy
 have e1 := h1.len
 have e2 := h2.len
 have hcm : ¬ cmpN (val xs) (val ys) < 0 := by
  rcases Nat.lt_or_ge (val ys) (val xs) with hh | hh
  · rw [cmpN_gt hh]; decide
  · rw [cmpN_eq (by omega)]; decide
 have hlen : n2 ≤ n1 := by
  rcases Nat.lt_or_ge n1 n2 with hh | hh
  · have := cmp_len h1.ok (fine_of_chk h2.ok hy) (by omega)
    omega
  · exact hh
 generalize hcg : cmpN (val xs) (val ys) = cm at hcm
 go_enter Tryz.func78, Tryz.ntmps78
 go_wp2_with (first
  | (go_at_call 115; refine (checks_new a1 a2 n1 n2 c1 c2 xs ys w _ _ h1 h2 hx hy).mono ?_; rintro e w1 ⟨rfl, hW, A, B, C⟩; have ⟨q0, qz⟩ := A; have ⟨b0, bz⟩ := B; have ⟨r0, rz⟩ := C)
  | (go_at_call 118; refine (natCmpL_any a1 a2 n1 n2 c1 c2 xs ys _ (h1.below hW) (h2.below hW) hx hy).mono ?_; rintro e wq ⟨rfl, hb2⟩; rw [hcg]; replace A := A.stay hb2; replace B := B.stay hb2; replace C := C.stay hb2; replace hW := next hW hb2; clear q0 qz b0 bz r0 rz; have ⟨q0, qz⟩ := A; have ⟨b0, bz⟩ := B; have ⟨r0, rz⟩ := C)
  | (at_make; refine wpList_make_full _ rfl _ _ 25 rfl wq.heap.size 40 i0 _ 1 Tryz.underlying25 hi0 hz0 hz1 _ _ _ _ n1 rfl rfl rfl rfl (by rw [hz2]; omega) (by unfold maxLen; omega) (Nat.le_refl _) ?_; intro w2 hown hg1; rw [made_lvs] at hown; have hb1 := (Below.refl wq.heap.size wq).grown hg1 (Nat.le_refl _) (by simp); have ⟨m0, mz⟩ := A.stay hb1))
 clear q0 qz b0 bz r0 rz m0 mz
 go_loopw [9, 35] (fun cv i wr => ∃ (k cc : Nat) (zs : List Nat), k ≤ n1 ∧ i = .int .i64 k ∧ cv = .int .u32 cc ∧ Sb xs ys k zs cc ∧ wr.ownsRow wq.heap.size 40 1 (.slice (some ⟨wq.heap.size, 0, none⟩) n1 n1) n1 (lvs (zs ++ List.replicate (n1 - k) 0)) ∧ Below wq.heap.size wq wr) (fun _ i _ => n1 - (intOf i).toNat)
 case atStart => exact ⟨0, 0, [], by omega, rfl, rfl, sb_zero xs ys, hown, hb1⟩
 case round =>
  obtain ⟨k, cc, zs, hk, rfl, rfl, had, hownk, hbk⟩ := hrel
  have hcc := had.one
  have hWk := next hW hbk
  have A' := A.stay hbk
  have B' := B.stay hbk
  have C' := C.stay hbk
  by_cases hkn : k < n1
  · obtain ⟨b, o, rfl, hb, hc⟩ := (h1.below hWk).at_ (by omega)
    have hcell := hc k hkn
    clear hc
    have ⟨q0, qz⟩ := A'
    have ⟨b0, bz⟩ := B'
    have hx1 := nth_lt h1.ok k
    have hx2 := nth_lt h2.ok k
    have hd := had.next h1.ok h2.ok
    have hst := own_cell hownk (j := k) (by omega)
    have hfz := hownk.frozenAt k
    obtain ⟨o1, r1⟩ := hownk.stored k (lv (sbD (nth xs k) (nth ys k) cc))
    rw [set_front had.len (by omega)] at o1
    have hb2 := hbk.grown r1 hbk.size (by simp)
    by_cases hk2 : k < n2
    · obtain ⟨b2, p2, rfl, hb2', hc2⟩ := (h2.below hWk).at_ (by omega)
      have hcell2 := hc2 k hk2
      clear hc2 h1 h2
      go_wp2_with (go_at_call 119; refine (sub32_any (nth xs k) (nth ys k) cc _ hx1 hx2 hcc).mono ?_; rintro e w3 ⟨rfl, rfl⟩)
      exact ⟨⟨k + 1, _, _, by omega, by go_num, rfl, hd, o1, hb2⟩, by simp [intOf]; omega⟩
    · have hy0 : nth ys k = 0 := nth_over (by omega)
      rw [hy0] at hd o1 hb2
      clear h1 h2 hy0 r1
      go_wp2_with (go_at_call 119; refine (sub32_any (nth xs k) 0 cc _ hx1 (by decide) hcc).mono ?_; rintro e w3 ⟨rfl, rfl⟩)
      exact ⟨⟨k + 1, _, _, by omega, by go_num, rfl, hd, o1, hb2⟩, by simp [intOf]; omega⟩
  · obtain rfl : k = n1 := by omega
    have hs := had.diff (by omega) (by omega) hv
    have hok := had.ok
    rw [Nat.sub_self, List.replicate_zero, List.append_nil] at hownk
    have ⟨r0, rz⟩ := C'
    have hsz := hWk.size
    clear h1 h2
    go_wp2_with (go_at_call 72; refine (natTrimmed_row _ hownk hok).mono ?_; rintro e w3 ⟨ao, kk, rfl, hF, hb3⟩; rw [hs] at hF; have hlt := C.lt; have C'' := C'.stay hb3; have ⟨r3, z3⟩ := C''; have hW3 := next hWk hb3)
    refine bodyPost_ret (v := .tuple #[.agg #[.slice ao kk kk], .bool true, .int .i64 0]) (by simp [results, Tryz.results78, go_sem, C''.set]) rfl ⟨ao, kk, kk, rfl, (hF.setCell (by simpa using hlt) _).mono hW.size, hW3.setCell (by simp; omega) _⟩
theorem natSub_any (a1 a2 : Option Addr) (n1 n2 c1 c2 : Nat) (xs ys : List Nat) (w : World) (h1 : Sl w a1 n1 c1 xs) (h2 : Sl w a2 n2 c2 ys) (hx : chk xs = 0) (hy : chk ys = 0) :
 Calls Tryz.prog 78 #[.agg #[.slice a1 n1 c1], .agg #[.slice a2 n2 c2]] w (Subs w (val xs - val ys) (decide (val ys ≤ val xs))) := by
 rcases Nat.lt_or_ge (val xs) (val ys) with hn | hn
 · rw [show val xs - val ys = 0 by omega, decide_eq_false (by omega)]
   exact natSub_lt a1 a2 n1 n2 c1 c2 xs ys w h1 h2 hx hy hn
 · rw [decide_eq_true hn]
   exact natSub_ge a1 a2 n1 n2 c1 c2 xs ys w h1 h2 hx hy hn
end Go.Proofs.YtpmncmglmobjoaaGreatDoor
