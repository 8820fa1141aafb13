/-
  The walk of nat.Add: a sum in a block of its own. The walks of nat.Sub and nat.Cmp. The walks of the reference's plus, less, fits, two, Add, Sub, Cmp. The walks of nat.Mul and of the reference's times and Mul: a product in a block of its own. The walks of the reference's less, times, fits, two, Add, Sub, Mul, Cmp. The walks of the reference's Add, Sub, Mul, Cmp of numbers.
-/
import Derived.Test.YtfjgmpfpadfknaaGreatDoorQbNUps
set_option maxHeartbeats 2000000
set_option maxRecDepth 100000
namespace Go.Proofs.YtfjgmpfpadfknaaGreatDoor
open Go.RowKit Go.Lb
theorem checks_new (a1 a2 : Option Addr) (n1 n2 c1 c2 : Nat) (xs ys : List Nat) (w : World) (r : Value) (t : TypeId) (h1 : Sl w a1 n1 c1 xs) (h2 : Sl w a2 n2 c2 ys) (hx : chk xs = 0) (hy : chk ys = 0) :
 Calls Tryz.prog 202 #[.slice (some ⟨w.heap.size + 1 + 1 + 1, 0, none⟩) 2 2] ((((w.alloc (.cells #[.slice a1 n1 c1] 28)).alloc (.cells #[.slice a2 n2 c2] 28)).alloc (.cells #[r] t)).alloc (.cells #[.slice a1 n1 c1, .slice a2 n2 c2] 28)) fun e w' =>
  e = .returned (.int .i64 0) ∧ Below w.heap.size w w' ∧ Box1 w' w.heap.size (.slice a1 n1 c1) ∧ Box1 w' (w.heap.size + 1) (.slice a2 n2 c2) ∧ Box1 w' (w.heap.size + 1 + 1) r := by
 have hz : w.heap.size + 1 + 1 + 1 = (((w.alloc (.cells #[.slice a1 n1 c1] 28)).alloc (.cells #[.slice a2 n2 c2] 28)).alloc (.cells #[r] t)).heap.size := by rw [World.size_alloc, World.size_alloc, World.size_alloc]
 rw [hz]
 refine (natChecks_two a1 a2 n1 n2 c1 c2 _ xs ys _ ((((h1.alloc _).alloc _).alloc _).alloc _) ((((h2.alloc _).alloc _).alloc _).alloc _) hx hy (by simp [go_sem]) (by simp [go_sem])).mono ?_
 rintro e w' ⟨rfl, hb⟩
 refine ⟨rfl, next (more (more (more (more (Below.refl _ _) _) _) _) _) hb, (((((box1_new w _ _).alloc _).alloc _).alloc _).stay hb), ?_, ?_⟩
 · have := (((box1_new (w.alloc (.cells #[.slice a1 n1 c1] 28)) (.slice a2 n2 c2) 28).alloc (.cells #[r] t)).alloc (.cells #[.slice a1 n1 c1, .slice a2 n2 c2] 28)).stay hb
   rw [World.size_alloc] at this
   exact this
 · have := ((box1_new ((w.alloc (.cells #[.slice a1 n1 c1] 28)).alloc (.cells #[.slice a2 n2 c2] 28)) r t).alloc (.cells #[.slice a1 n1 c1, .slice a2 n2 c2] 28)).stay hb
   rw [World.size_alloc, World.size_alloc] at this
   exact this
theorem natAdd_ge (a1 a2 : Option Addr) (n1 n2 c1 c2 : Nat) (xs ys : List Nat) (w : World) (h1 : Sl w a1 n1 c1 xs) (h2 : Sl w a2 n2 c2 ys) (hx : chk xs = 0) (hy : chk ys = 0) (hn : ¬ n1 < n2) :
 Calls Tryz.prog 157 #[.agg #[.slice a1 n1 c1], .agg #[.slice a2 n2 c2]] w (Numb w (bigN (val xs + val ys)) (bigE (val xs + val ys))) := by
 obtain ⟨i0, hi0, hz0, hz1, hz2⟩ := info_parts u32_infoL
 have l1 := chk_zero_len hx
 have l2 := chk_zero_len hy
 have e1 := h1.len
 have e2 := h2.len
 go_enter Tryz.func157, Tryz.ntmps157
 go_wp2_with (first
  | (go_at_call 202; refine (checks_new a1 a2 n1 n2 c1 c2 xs ys w _ _ h1 h2 hx hy).mono ?_; rintro e w1 ⟨rfl, hW, A, B, C⟩; have ⟨q0, qz⟩ := A; have ⟨b0, bz⟩ := B; have ⟨r0, rz⟩ := C))
 go_quiet (fail)
 rename_i nq
 have Hb := drewn (Below.refl w1.heap.size w1) nq
 generalize w1.drewN nq = wq at Hb ⊢
 replace hW := next hW Hb
 replace A := A.stay Hb
 replace B := B.stay Hb
 replace C := C.stay Hb
 clear q0 qz b0 bz r0 rz Hb
 go_wp2_with (first
  | (at_make; refine wpList_make_full _ rfl _ _ 26 rfl wq.heap.size 75 i0 _ 1 Tryz.underlying26 hi0 hz0 hz1 _ _ _ _ (n1 + 1) rfl rfl rfl rfl (by rw [hz2]; omega) (by unfold maxLen; omega) (Nat.le_refl _) ?_; intro w2 hown hg1; rw [made_lvs] at hown; have hb1 := (Below.refl wq.heap.size wq).grown hg1 (Nat.le_refl _) (by simp)))
 go_loopw [10, 39] (fun cv i wr => ∃ (k cc : Nat) (zs : List Nat), k ≤ n1 ∧ i = .int .i64 k ∧ cv = .int .u32 cc ∧ Ad xs ys k zs cc ∧ wr.ownsRow wq.heap.size 75 1 (.slice (some ⟨wq.heap.size, 0, none⟩) (n1 + 1) (n1 + 1)) (n1 + 1) (lvs (zs ++ List.replicate (n1 + 1 - k) 0)) ∧ Below wq.heap.size wq wr) (fun _ i _ => n1 - (intOf i).toNat)
 case atStart => exact ⟨0, 0, [], by omega, rfl, rfl, ad_zero xs ys, hown, hb1⟩
 case round =>
  obtain ⟨k, cc, zs, hk, rfl, rfl, had, hownk, hbk⟩ := hrel
  have hok : Ok (zs ++ [cc]) := ok_append had.ok (ok_cons (by have := had.one; omega) ok_nil)
  have hcc := had.one
  have hWk := next hW hbk
  have C' := C.stay hbk
  by_cases hkn : k < n1
  · obtain ⟨b, o, rfl, hb, hc⟩ := (h1.below hWk).at_ (by omega)
    have hcell := hc k hkn
    clear hc
    have hx1 := nth_lt h1.ok k
    have hx2 := nth_lt h2.ok k
    have hd := had.next h1.ok h2.ok
    have hst := own_cell hownk (j := k) (by omega)
    have hfz := hownk.frozenAt k
    obtain ⟨o1, r1⟩ := hownk.stored k (lv ((nth xs k + nth ys k + cc) % 4294967296))
    rw [set_front had.len (by omega)] at o1
    have hb2 := hbk.grown r1 hbk.size (by simp)
    by_cases hk2 : k < n2
    · obtain ⟨b2, p2, rfl, hb2', hc2⟩ := (h2.below hWk).at_ (by omega)
      have hcell2 := hc2 k hk2
      clear hc2 h1 h2
      go_wp2_with (go_at_call 203; refine (add32_any (nth xs k) (nth ys k) cc _ hx1 hx2 hcc).mono ?_; rintro e w3 ⟨rfl, rfl⟩)
      exact ⟨⟨k + 1, _, _, by omega, by go_num, rfl, hd, o1, hb2⟩, by simp [intOf]; omega⟩
    · have hy0 : nth ys k = 0 := nth_over (by omega)
      rw [hy0] at hd o1 hb2
      clear h1 h2 hy0 r1
      go_wp2_with (go_at_call 203; refine (add32_any (nth xs k) 0 cc _ hx1 (by decide) hcc).mono ?_; rintro e w3 ⟨rfl, rfl⟩)
      exact ⟨⟨k + 1, _, _, by omega, by go_num, rfl, hd, o1, hb2⟩, by simp [intOf]; omega⟩
  · obtain rfl : k = n1 := by omega
    have hs := (had.sum (by omega) (by omega)).1
    have hst := own_cell hownk (j := k) (by omega)
    have hfz := hownk.frozenAt k
    obtain ⟨o1, r1⟩ := hownk.stored k (lv cc)
    rw [set_front had.len (by omega), Nat.sub_self, List.replicate_zero, List.append_nil] at o1
    have hb2 := hbk.grown r1 hbk.size (by simp)
    have ⟨r0, rz⟩ := C'
    clear h1 h2
    go_wp2_with (go_at_call 204; refine (natFits_any _ o1 hok).mono ?_; rintro e w3 ⟨ao, kk, c, rfl, hF, hb3⟩; rw [hs] at hF ⊢; have hlt := C.lt; have C'' := (C.stay hb2).stay hb3; have ⟨r3, z3⟩ := C''; have hW3 := next (next hW hb2) hb3)
    refine bodyPost_ret (v := .tuple #[.agg #[.slice ao kk c], .int .i64 (bigE (val xs + val ys))]) (by simp [results, Tryz.results157, go_sem, C''.set]) rfl ⟨ao, kk, c, rfl, (hF.setCell (by simpa using hlt) _).mono hW.size, hW3.setCell (by simp; omega) _⟩
theorem natAdd_lt (a1 a2 : Option Addr) (n1 n2 c1 c2 : Nat) (xs ys : List Nat) (w : World) (h1 : Sl w a1 n1 c1 xs) (h2 : Sl w a2 n2 c2 ys) (hx : chk xs = 0) (hy : chk ys = 0) (hn : n1 < n2) :
 Calls Tryz.prog 157 #[.agg #[.slice a1 n1 c1], .agg #[.slice a2 n2 c2]] w (Numb w (bigN (val xs + val ys)) (bigE (val xs + val ys))) := by
 obtain ⟨i0, hi0, hz0, hz1, hz2⟩ := info_parts u32_infoL
 have l1 := chk_zero_len hx
 have l2 := chk_zero_len hy
 have e1 := h1.len
 have e2 := h2.len
 go_enter Tryz.func157, Tryz.ntmps157
 go_wp2_with (first
  | (go_at_call 202; refine (checks_new a1 a2 n1 n2 c1 c2 xs ys w _ _ h1 h2 hx hy).mono ?_; rintro e w1 ⟨rfl, hW, A, B, C⟩; have ⟨q0, qz⟩ := A; have ⟨b0, bz⟩ := B; have ⟨r0, rz⟩ := C))
 go_quiet (fail)
 rename_i nq
 have Hb := drewn (Below.refl w1.heap.size w1) nq
 generalize w1.drewN nq = wq at Hb ⊢
 replace hW := next hW Hb
 replace A := A.stay Hb
 replace B := B.stay Hb
 replace C := C.stay Hb
 clear q0 qz b0 bz r0 rz Hb
 go_wp2_with (first
  | (at_make; refine wpList_make_full _ rfl _ _ 26 rfl wq.heap.size 75 i0 _ 1 Tryz.underlying26 hi0 hz0 hz1 _ _ _ _ (n2 + 1) rfl rfl rfl rfl (by rw [hz2]; omega) (by unfold maxLen; omega) (Nat.le_refl _) ?_; intro w2 hown hg1; rw [made_lvs] at hown; have hb1 := (Below.refl wq.heap.size wq).grown hg1 (Nat.le_refl _) (by simp)))
 go_loopw [10, 39] (fun cv i wr => ∃ (k cc : Nat) (zs : List Nat), k ≤ n2 ∧ i = .int .i64 k ∧ cv = .int .u32 cc ∧ Ad ys xs k zs cc ∧ wr.ownsRow wq.heap.size 75 1 (.slice (some ⟨wq.heap.size, 0, none⟩) (n2 + 1) (n2 + 1)) (n2 + 1) (lvs (zs ++ List.replicate (n2 + 1 - k) 0)) ∧ Below wq.heap.size wq wr) (fun _ i _ => n2 - (intOf i).toNat)
 case atStart => exact ⟨0, 0, [], by omega, rfl, rfl, ad_zero ys xs, hown, hb1⟩
 case round =>
  obtain ⟨k, cc, zs, hk, rfl, rfl, had, hownk, hbk⟩ := hrel
  have hok : Ok (zs ++ [cc]) := ok_append had.ok (ok_cons (by have := had.one; omega) ok_nil)
  have hcc := had.one
  have hWk := next hW hbk
  have C' := C.stay hbk
  by_cases hkn : k < n2
  · obtain ⟨b, o, rfl, hb, hc⟩ := (h2.below hWk).at_ (by omega)
    have hcell := hc k hkn
    clear hc
    have hx1 := nth_lt h2.ok k
    have hx2 := nth_lt h1.ok k
    have hd := had.next h2.ok h1.ok
    have hst := own_cell hownk (j := k) (by omega)
    have hfz := hownk.frozenAt k
    obtain ⟨o1, r1⟩ := hownk.stored k (lv ((nth ys k + nth xs k + cc) % 4294967296))
    rw [set_front had.len (by omega)] at o1
    have hb2 := hbk.grown r1 hbk.size (by simp)
    by_cases hk2 : k < n1
    · obtain ⟨b2, p2, rfl, hb2', hc2⟩ := (h1.below hWk).at_ (by omega)
      have hcell2 := hc2 k hk2
      clear hc2 h2 h1
      go_wp2_with (go_at_call 203; refine (add32_any (nth ys k) (nth xs k) cc _ hx1 hx2 hcc).mono ?_; rintro e w3 ⟨rfl, rfl⟩)
      exact ⟨⟨k + 1, _, _, by omega, by go_num, rfl, hd, o1, hb2⟩, by simp [intOf]; omega⟩
    · have hy0 : nth xs k = 0 := nth_over (by omega)
      rw [hy0] at hd o1 hb2
      clear h2 h1 hy0 r1
      go_wp2_with (go_at_call 203; refine (add32_any (nth ys k) 0 cc _ hx1 (by decide) hcc).mono ?_; rintro e w3 ⟨rfl, rfl⟩)
      exact ⟨⟨k + 1, _, _, by omega, by go_num, rfl, hd, o1, hb2⟩, by simp [intOf]; omega⟩
  · obtain rfl : k = n2 := by omega
    have hs := (had.sum (by omega) (by omega)).1.trans (Nat.add_comm _ _)
    have hst := own_cell hownk (j := k) (by omega)
    have hfz := hownk.frozenAt k
    obtain ⟨o1, r1⟩ := hownk.stored k (lv cc)
    rw [set_front had.len (by omega), Nat.sub_self, List.replicate_zero, List.append_nil] at o1
    have hb2 := hbk.grown r1 hbk.size (by simp)
    have ⟨r0, rz⟩ := C'
    clear h2 h1
    go_wp2_with (go_at_call 204; refine (natFits_any _ o1 hok).mono ?_; rintro e w3 ⟨ao, kk, c, rfl, hF, hb3⟩; rw [hs] at hF ⊢; have hlt := C.lt; have C'' := (C.stay hb2).stay hb3; have ⟨r3, z3⟩ := C''; have hW3 := next (next hW hb2) hb3)
    refine bodyPost_ret (v := .tuple #[.agg #[.slice ao kk c], .int .i64 (bigE (val xs + val ys))]) (by simp [results, Tryz.results157, go_sem, C''.set]) rfl ⟨ao, kk, c, rfl, (hF.setCell (by simpa using hlt) _).mono hW.size, hW3.setCell (by simp; omega) _⟩
theorem natAdd_any (a1 a2 : Option Addr) (n1 n2 c1 c2 : Nat) (xs ys : List Nat) (w : World) (h1 : Sl w a1 n1 c1 xs) (h2 : Sl w a2 n2 c2 ys) (hx : chk xs = 0) (hy : chk ys = 0) :
 Calls Tryz.prog 157 #[.agg #[.slice a1 n1 c1], .agg #[.slice a2 n2 c2]] w (Numb w (bigN (val xs + val ys)) (bigE (val xs + val ys))) := by
 rcases Nat.lt_or_ge n1 n2 with hn | hn
 · exact natAdd_lt a1 a2 n1 n2 c1 c2 xs ys w h1 h2 hx hy hn
 · exact natAdd_ge a1 a2 n1 n2 c1 c2 xs ys w h1 h2 hx hy (by omega)
def Subs (w : World) (N : Nat) (b : Bool) (e : Ending) (w' : World) : Prop :=
 ∃ ao n c, e = .returned (.tuple #[.agg #[.slice ao n c], .bool b, .int .i64 0]) ∧ Fr 75 w' w.heap.size ao n c (limbs N) ∧ Below w.heap.size w w'
theorem natSub_lt (a1 a2 : Option Addr) (n1 n2 c1 c2 : Nat) (xs ys : List Nat) (w : World) (h1 : Sl w a1 n1 c1 xs) (h2 : Sl w a2 n2 c2 ys) (hx : chk xs = 0) (hy : chk ys = 0) (hv : val xs < val ys) :
 Calls Tryz.prog 158 #[.agg #[.slice a1 n1 c1], .agg #[.slice a2 n2 c2]] w (Subs w 0 false) := by
 have hcm := cmpN_lt hv
 go_enter Tryz.func158, Tryz.ntmps158
 go_wp2_with (first
  | (go_at_call 202; refine (checks_new a1 a2 n1 n2 c1 c2 xs ys w _ _ h1 h2 hx hy).mono ?_; rintro e w1 ⟨rfl, hW, A, B, C⟩; have ⟨q0, qz⟩ := A; have ⟨b0, bz⟩ := B; have ⟨r0, rz⟩ := C)
  | (go_at_call 205; refine (natCmpL_any a1 a2 n1 n2 c1 c2 xs ys _ (h1.below hW) (h2.below hW) hx hy).mono ?_; rintro e w2 ⟨rfl, hb2⟩; rw [hcm]; have C' := C.stay hb2; have ⟨r2, z2⟩ := C'; have hW2 := next hW hb2))
 refine bodyPost_ret (v := .tuple #[.agg #[.slice none 0 0], .bool false, .int .i64 0]) (by simp [results, Tryz.results158, go_sem, C'.set]) rfl ⟨none, 0, 0, rfl, ?_, hW2.setCell (by simp; omega) _⟩
 rw [limbs_zero]
 exact fr_nil _ _ _
theorem natSub_ge (a1 a2 : Option Addr) (n1 n2 c1 c2 : Nat) (xs ys : List Nat) (w : World) (h1 : Sl w a1 n1 c1 xs) (h2 : Sl w a2 n2 c2 ys) (hx : chk xs = 0) (hy : chk ys = 0) (hv : val ys ≤ val xs) :
 Calls Tryz.prog 158 #[.agg #[.slice a1 n1 c1], .agg #[.slice a2 n2 c2]] w (Subs w (val xs - val ys) true) := by
 obtain ⟨i0, hi0, hz0, hz1, hz2⟩ := info_parts u32_infoL
 have l1 := chk_zero_len hx
 have l2 := chk_zero_len hy
 have e1 := h1.len
 have e2 := h2.len
 have hcm : ¬ cmpN (val xs) (val ys) < 0 := by
  rcases Nat.lt_or_ge (val ys) (val xs) with hh | hh
  · rw [cmpN_gt hh]; decide
  · rw [cmpN_eq (by omega)]; decide
 have hlen : n2 ≤ n1 := by
  rcases Nat.lt_or_ge n1 n2 with hh | hh
  · have := cmp_len h1.ok (fine_of_chk h2.ok hy) (by omega)
    omega
  · exact hh
 generalize hcg : cmpN (val xs) (val ys) = cm at hcm
 go_enter Tryz.func158, Tryz.ntmps158
 go_wp2_with (first
  | (go_at_call 202; refine (checks_new a1 a2 n1 n2 c1 c2 xs ys w _ _ h1 h2 hx hy).mono ?_; rintro e w1 ⟨rfl, hW, A, B, C⟩; have ⟨q0, qz⟩ := A; have ⟨b0, bz⟩ := B; have ⟨r0, rz⟩ := C)
  | (go_at_call 205; refine (natCmpL_any a1 a2 n1 n2 c1 c2 xs ys _ (h1.below hW) (h2.below hW) hx hy).mono ?_; rintro e wq ⟨rfl, hb2⟩; rw [hcg]; replace A := A.stay hb2; replace B := B.stay hb2; replace C := C.stay hb2; replace hW := next hW hb2; clear q0 qz b0 bz r0 rz; have ⟨q0, qz⟩ := A; have ⟨b0, bz⟩ := B; have ⟨r0, rz⟩ := C)
  | (at_make; refine wpList_make_full _ rfl _ _ 26 rfl wq.heap.size 75 i0 _ 1 Tryz.underlying26 hi0 hz0 hz1 _ _ _ _ n1 rfl rfl rfl rfl (by rw [hz2]; omega) (by unfold maxLen; omega) (Nat.le_refl _) ?_; intro w2 hown hg1; rw [made_lvs] at hown; have hb1 := (Below.refl wq.heap.size wq).grown hg1 (Nat.le_refl _) (by simp); have ⟨m0, mz⟩ := A.stay hb1))
 clear q0 qz b0 bz r0 rz m0 mz
 go_loopw [9, 35] (fun cv i wr => ∃ (k cc : Nat) (zs : List Nat), k ≤ n1 ∧ i = .int .i64 k ∧ cv = .int .u32 cc ∧ Sb xs ys k zs cc ∧ wr.ownsRow wq.heap.size 75 1 (.slice (some ⟨wq.heap.size, 0, none⟩) n1 n1) n1 (lvs (zs ++ List.replicate (n1 - k) 0)) ∧ Below wq.heap.size wq wr) (fun _ i _ => n1 - (intOf i).toNat)
 case atStart => exact ⟨0, 0, [], by omega, rfl, rfl, sb_zero xs ys, hown, hb1⟩
 case round =>
  obtain ⟨k, cc, zs, hk, rfl, rfl, had, hownk, hbk⟩ := hrel
  have hcc := had.one
  have hWk := next hW hbk
  have A' := A.stay hbk
  have B' := B.stay hbk
  have C' := C.stay hbk
  by_cases hkn : k < n1
  · obtain ⟨b, o, rfl, hb, hc⟩ := (h1.below hWk).at_ (by omega)
    have hcell := hc k hkn
    clear hc
    have ⟨q0, qz⟩ := A'
    have ⟨b0, bz⟩ := B'
    have hx1 := nth_lt h1.ok k
    have hx2 := nth_lt h2.ok k
    have hd := had.next h1.ok h2.ok
    have hst := own_cell hownk (j := k) (by omega)
    have hfz := hownk.frozenAt k
    obtain ⟨o1, r1⟩ := hownk.stored k (lv (sbD (nth xs k) (nth ys k) cc))
    rw [set_front had.len (by omega)] at o1
    have hb2 := hbk.grown r1 hbk.size (by simp)
    by_cases hk2 : k < n2
    · obtain ⟨b2, p2, rfl, hb2', hc2⟩ := (h2.below hWk).at_ (by omega)
      have hcell2 := hc2 k hk2
      clear hc2 h1 h2
      go_wp2_with (go_at_call 206; refine (sub32_any (nth xs k) (nth ys k) cc _ hx1 hx2 hcc).mono ?_; rintro e w3 ⟨rfl, rfl⟩)
      exact ⟨⟨k + 1, _, _, by omega, by go_num, rfl, hd, o1, hb2⟩, by simp [intOf]; omega⟩
    · have hy0 : nth ys k = 0 := nth_over (by omega)
      rw [hy0] at hd o1 hb2
      clear h1 h2 hy0 r1
      go_wp2_with (go_at_call 206; refine (sub32_any (nth xs k) 0 cc _ hx1 (by decide) hcc).mono ?_; rintro e w3 ⟨rfl, rfl⟩)
      exact ⟨⟨k + 1, _, _, by omega, by go_num, rfl, hd, o1, hb2⟩, by simp [intOf]; omega⟩
  · obtain rfl : k = n1 := by omega
    have hs := had.diff (by omega) (by omega) hv
    have hok := had.ok
    rw [Nat.sub_self, List.replicate_zero, List.append_nil] at hownk
    have ⟨r0, rz⟩ := C'
    have hsz := hWk.size
    clear h1 h2
    go_wp2_with (go_at_call 121; refine (natTrimmed_row _ hownk hok).mono ?_; rintro e w3 ⟨ao, kk, rfl, hF, hb3⟩; rw [hs] at hF; have hlt := C.lt; have C'' := C'.stay hb3; have ⟨r3, z3⟩ := C''; have hW3 := next hWk hb3)
    refine bodyPost_ret (v := .tuple #[.agg #[.slice ao kk kk], .bool true, .int .i64 0]) (by simp [results, Tryz.results158, go_sem, C''.set]) rfl ⟨ao, kk, kk, rfl, (hF.setCell (by simpa using hlt) _).mono hW.size, hW3.setCell (by simp; omega) _⟩
theorem natSub_any (a1 a2 : Option Addr) (n1 n2 c1 c2 : Nat) (xs ys : List Nat) (w : World) (h1 : Sl w a1 n1 c1 xs) (h2 : Sl w a2 n2 c2 ys) (hx : chk xs = 0) (hy : chk ys = 0) :
 Calls Tryz.prog 158 #[.agg #[.slice a1 n1 c1], .agg #[.slice a2 n2 c2]] w (Subs w (val xs - val ys) (decide (val ys ≤ val xs))) := by
 rcases Nat.lt_or_ge (val xs) (val ys) with hn | hn
 · rw [show val xs - val ys = 0 by omega, decide_eq_false (by omega)]
   exact natSub_lt a1 a2 n1 n2 c1 c2 xs ys w h1 h2 hx hy hn
 · rw [decide_eq_true hn]
   exact natSub_ge a1 a2 n1 n2 c1 c2 xs ys w h1 h2 hx hy hn
theorem refPlus_any (a1 a2 : Option Addr) (n1 n2 c1 c2 : Nat) (xs ys : List Nat) (w : World) (h1 : Sl w a1 n1 c1 xs) (h2 : Sl w a2 n2 c2 ys) (l1 : n1 ≤ 16384) (l2 : n2 ≤ 16384) :
 Calls Tryz.prog 213 #[.slice a1 n1 c1, .slice a2 n2 c2] w fun e w' => ∃ ao n c zs, e = .returned (.slice ao n c) ∧ Fr 75 w' w.heap.size ao n c zs ∧ val zs = val xs + val ys ∧ Below w.heap.size w w' := by
 obtain ⟨i0, hi0, hz0, hz1, hz2⟩ := info_parts u32_infoL
 have e1 := h1.len
 have e2 := h2.len
 go_enter Tryz.func213, Tryz.ntmps213
 go_wp2
 go_loopw [5, 6, 7] (fun v cv i wr => ∃ (j cc : Nat) (zs : List Nat), j ≤ max n1 n2 + 1 ∧ (cc = 0 ∨ j ≤ max n1 n2) ∧ i = .int .i64 j ∧ cv = .int .u64 cc ∧ Ad xs ys j zs cc ∧ wr.ownsRow w.heap.size 75 1 v j (lvs zs) ∧ Below w.heap.size w wr) (fun _ _ i _ => max n1 n2 + 1 - (intOf i).toNat)
 case atStart => exact ⟨0, 0, [], by omega, .inl rfl, rfl, rfl, ad_zero xs ys, World.ownsRow_nil _ _ _ _, Below.refl _ _⟩
 case round =>
  obtain ⟨j, cc, zs, hj, hcj, rfl, rfl, had, hown, hW⟩ := hrel
  have hcc := had.one
  have hx1 := nth_lt h1.ok j
  have hx2 := nth_lt h2.ok j
  have hd := had.next h1.ok h2.ok
  have hok := had.ok
  have hlow : ((nth xs j : Int) + (nth ys j : Int) + (cc : Int)) % 4294967296 = (((nth xs j + nth ys j + cc) % 4294967296 : Nat) : Int) := by omega
  have Hlow := Lib.hid hlow
  have hz : (nth xs j + nth ys j + cc) % 4294967296 < 4294967296 := by omega
  have hsz := hW.size
  clear hlow
  have go : (j < n1 ∨ ¬ j < n1 ∧ j < n2 ∨ ¬ j < n1 ∧ ¬ j < n2 ∧ 0 < cc) ∨ (¬ j < n1 ∧ ¬ j < n2 ∧ cc = 0) := by omega
  rcases go with go | ⟨g1, g2, rfl⟩
  · have hjm : j ≤ max n1 n2 := by omega
    have hcn : (nth xs j + nth ys j + cc) / 4294967296 = 0 ∨ j + 1 ≤ max n1 n2 := by
     rcases Nat.lt_or_ge j (max n1 n2) with hh | hh
     · exact .inr (by omega)
     · rw [nth_over (xs := xs) (by omega), nth_over (xs := ys) (by omega)]
       exact .inl (by omega)
    have Hcn := Lib.hid hcn
    clear hcn e1 e2
    rcases go with g1 | ⟨g1, g2⟩ | ⟨g1, g2, g3⟩
    all_goals
     go_wp2_with (first
      | (go_at_call 233; with_reducible refine (refLimb_e a1 n1 c1 j _ rfl xs _ (h1.below hW)).mono ?_; rintro e w1 ⟨rfl, rfl⟩)
      | (go_at_call 233; with_reducible refine (refLimb_e a2 n2 c2 j _ rfl ys _ (h2.below hW)).mono ?_; rintro e w1 ⟨rfl, rfl⟩)
      | (at_builtin; refine wpList_append_sl _ rfl (.tmp 34) (.tmp 37) _ rfl w.heap.size 75 i0 _ Tryz.underlying26 hi0 hz0 hz1 hz2 rfl _ j _ rfl (hown.alloc _) (some ⟨wr.heap.size, 0, none⟩) 1 1 _ rfl (sl_one wr _ Hlow.out hz) (by omega) (by simp; omega) ?_; intro v1 w1 hown1 hg1 hat1; replace hW := grownOwn (more hW _) (hown.alloc _) (Nat.le_refl _) hg1))
     exact ⟨⟨j + 1, _, _, by omega, Hcn.out, by go_num, by go_num, hd, hown1, hW⟩, by simp [intOf]; omega⟩
  · have hs := had.sum0 (by omega) (by omega)
    obtain ⟨a3, c3, rfl, hF⟩ := fr_own_any hown hok
    have Hs := Lib.hid hs
    clear hs hd hown
    go_wp2
    go_ret
    exact ⟨a3, j, c3, rfl, zs, hF, Hs.out, hW⟩
theorem lvs_set (zs : List Nat) (p d : Nat) : (lvs zs).set p (lv d) = lvs (zs.set p d) := by
 unfold lvs
 rw [List.map_set]
theorem fine_ge {xs : List Nat} (h : Fine xs) (h0 : xs ≠ []) : 4294967296 ^ (xs.length - 1) ≤ val xs := by
 rcases Nat.lt_or_ge (val xs) (4294967296 ^ (xs.length - 1)) with hh | hh
 · have h1 := limbs_length_le hh
   rw [limbs_val h] at h1
   have h2 : xs.length ≠ 0 := fun e => h0 (List.eq_nil_of_length_eq_zero e)
   omega
 · exact hh
theorem prod_many {xs ys : List Nat} (hx : Fine xs) (hy : Fine ys) (h1 : xs.length ≤ 16384) (h2 : ys.length ≤ 16384) (h : 16385 < xs.length + ys.length) : ¬ (limbs (val xs * val ys)).length ≤ 16384 := by
 intro hc
 obtain ⟨M, hM⟩ : ∃ M : Nat, M = 16384 := ⟨_, rfl⟩
 rw [← hM] at hc
 have h3 := lt_of_limbs_length hc
 have g1 := fine_ge hx (fun e => by rw [e] at h; simp at h; omega)
 have g2 := fine_ge hy (fun e => by rw [e] at h; simp at h; omega)
 have g3 := Nat.mul_le_mul g1 g2
 rw [← Nat.pow_add] at g3
 have g4 : 4294967296 ^ M ≤ 4294967296 ^ (xs.length - 1 + (ys.length - 1)) := Nat.pow_le_pow_right (by decide) (by omega)
 omega
theorem mul_facts {x y z c : Nat} (hx : x < 4294967296) (hy : y < 4294967296) (hz : z < 4294967296) (hc : c < 4294967296) : x * y < 18446744073709551616 ∧ x * y + z < 18446744073709551616 ∧ c + (x * y + z) < 18446744073709551616 ∧ x * y + z + c < 18446744073709551616 := by
 have : x * y ≤ 4294967295 * 4294967295 := Nat.mul_le_mul (by omega) (by omega)
 omega
theorem mul_wraps {x y z c : Nat} (hx : x < 4294967296) (hy : y < 4294967296) (hz : z < 4294967296) (hc : c < 4294967296) :
 IntKind.u64.wrap ((x : Int) * (y : Int)) = (x : Int) * (y : Int) ∧ IntKind.u64.wrap ((x : Int) * (y : Int) + (z : Int)) = (x : Int) * (y : Int) + (z : Int) ∧ IntKind.u64.wrap ((c : Int) + ((x : Int) * (y : Int) + (z : Int))) = (c : Int) + ((x : Int) * (y : Int) + (z : Int)) ∧ IntKind.u64.wrap ((x : Int) * (y : Int) + (z : Int) + (c : Int)) = (x : Int) * (y : Int) + (z : Int) + (c : Int) := by
 have h := mul_facts hx hy hz hc
 have e : (x : Int) * (y : Int) = ((x * y : Nat) : Int) := (Int.natCast_mul x y).symm
 rw [e]
 generalize x * y = p at h
 refine ⟨?_, ?_, ?_, ?_⟩ <;> (rw [IntKind.wrap_u64]; omega)
theorem wrap_limb {x : Nat} (hx : x < 4294967296) : IntKind.u64.wrap (x : Int) = (x : Int) := by
 rw [IntKind.wrap_u64]
 omega
theorem Fr.cut {e : TypeId} {w w' : World} {base : Nat} {ao : Option Addr} {n k c : Nat} {xs ys : List Nat} (h : Fr e w base ao n c xs) (h' : Fr e w' base ao k c ys) (hb : Below w.heap.size w w') : Fr e w base ao k c ys := by
 obtain ⟨s1, s2⟩ := h'
 rcases h.blk with ⟨rfl, h2, h3⟩ | ⟨g, cur, rfl, hg, hh, hc⟩
 · rcases s2 with ⟨_, t2, t3⟩ | ⟨g', _, e1, _⟩
   · exact ⟨⟨s1.len, s1.le, s1.cap, s1.ok, fun hn => absurd hn (by omega)⟩, .inl ⟨rfl, t2, t3⟩⟩
   · cases e1
 · have hl := (Array.getElem?_eq_some_iff.1 hh).1
   have hq := hb.block g hl
   refine ⟨⟨s1.len, s1.le, s1.cap, s1.ok, fun hn => ?_⟩, .inr ⟨g, cur, rfl, hg, hh, hc⟩⟩
   obtain ⟨b, o, e1, _, hcell⟩ := s1.at_ hn
   cases e1
   exact ⟨g, 0, rfl, hl, fun j hj => (World.cell?_of_block hq.symm).trans (hcell j hj)⟩
theorem refFits_any {base : Nat} (ao : Option Addr) (n c : Nat) (zs : List Nat) (w : World) (hF : Fr 75 w base ao n c zs) :
 Calls Tryz.prog 212 #[.slice ao n c] w fun e w' => ∃ ao' k c', e = .returned (.tuple #[.agg #[.slice ao' k c'], .int .i64 (bigE (val zs))]) ∧ Fr 75 w' base ao' k c' (limbs (bigN (val zs))) ∧ Below w.heap.size w w' := by
 go_enter Tryz.func212, Tryz.ntmps212
 go_wp2_with (first
  | (go_at_call 183; refine (refTrim_any ao n c zs _ (hF.alloc _)).mono ?_; rintro e w1 ⟨k, rfl, hF1, rfl⟩; have hl := hF1.sl.len; by_cases hk : k ≤ 16384)
  | (go_at_call 182; refine (refNat_any _ ao k c rfl _).mono ?_; rintro e w3 ⟨rfl, hb3⟩; have hW := next (more (Below.refl _ w) _) hb3; have B := (box1_new w _ _).stay hb3; have ⟨b0, bz⟩ := B; have hF3 := hF1.below hb3; have hlt := B.lt))
 · have hB := bigE_ok (N := val zs) (by omega)
   have hWW := hW.setCell (p := ⟨w.heap.size, 0, none⟩) (Nat.le_refl _) (.slice ao k c)
   refine bodyPost_ret (v := .tuple #[.agg #[.slice ao k c], .int .i64 0]) (by simp [results, Tryz.results212, go_sem, B.set (.slice ao k c)]) rfl ⟨ao, k, c, by rw [hB.1], ?_, hWW⟩
   rw [hB.2]
   exact (Fr.cut hF hF1 (more (Below.refl _ w) _)).below hWW
 · have hB := bigE_many (N := val zs) (by omega)
   refine bodyPost_ret (v := .tuple #[.agg #[.slice none 0 0], .int .i64 4]) (by simp [results, Tryz.results212, go_sem]) rfl ⟨none, 0, 0, by rw [hB.1], ?_, more (Below.refl _ w) _⟩
   rw [hB.2]
   exact fr_nil _ _ _
theorem refTwo_zero (a1 a2 : Option Addr) (n1 n2 c1 c2 : Nat) (xs ys : List Nat) (w : World) (h1 : Sl w a1 n1 c1 xs) (h2 : Sl w a2 n2 c2 ys) (hx : chk xs = 0) (hy : chk ys = 0) :
 Calls Tryz.prog 211 #[.agg #[.slice a1 n1 c1], .agg #[.slice a2 n2 c2]] w fun e w' => e = .returned (.int .i64 0) ∧ Below w.heap.size w w' := by
 have hxB : (chk xs != 0) = false := by simp [hx]
 go_enter Tryz.func211, Tryz.ntmps211
 go_wp2_with (first
  | (go_at_call 178; (with_reducible refine (refCheck_any a1 n1 c1 xs _ ((h1.alloc _).alloc _)).mono ?_); rintro e w1 ⟨rfl, hb1⟩; have A := ((box1_new w _ _).alloc _).stay hb1; have B := (box1_new _ _ _).stay hb1; rw [World.size_alloc] at B; have hW := next (more (more (Below.refl _ _) _) _) hb1; have ⟨q0, qz0⟩ := A; have ⟨p0, pz0⟩ := B)
  | (go_at_call 178; (with_reducible refine (refCheck_any a2 n2 c2 ys _ (h2.below hW)).mono ?_); rintro e w2 ⟨rfl, hb2⟩; rw [hy]))
 go_ret
 exact ⟨rfl, next hW hb2⟩
theorem refTwo_new (a1 a2 : Option Addr) (n1 n2 c1 c2 : Nat) (xs ys : List Nat) (w : World) (r : Value) (t : TypeId) (h1 : Sl w a1 n1 c1 xs) (h2 : Sl w a2 n2 c2 ys) (hx : chk xs = 0) (hy : chk ys = 0) :
 Calls Tryz.prog 211 #[.agg #[.slice a1 n1 c1], .agg #[.slice a2 n2 c2]] (((w.alloc (.cells #[.slice a1 n1 c1] 28)).alloc (.cells #[.slice a2 n2 c2] 28)).alloc (.cells #[r] t)) fun e w' =>
  e = .returned (.int .i64 0) ∧ Below w.heap.size w w' ∧ Box1 w' w.heap.size (.slice a1 n1 c1) ∧ Box1 w' (w.heap.size + 1) (.slice a2 n2 c2) ∧ Box1 w' (w.heap.size + 1 + 1) r := by
 refine (refTwo_zero a1 a2 n1 n2 c1 c2 xs ys _ (((h1.alloc _).alloc _).alloc _) (((h2.alloc _).alloc _).alloc _) hx hy).mono ?_
 rintro e w' ⟨rfl, hb⟩
 refine ⟨rfl, next (more (more (more (Below.refl _ _) _) _) _) hb, (((box1_new w _ _).alloc _).alloc _).stay hb, ?_, ?_⟩
 · have := ((box1_new (w.alloc (.cells #[.slice a1 n1 c1] 28)) (.slice a2 n2 c2) 28).alloc (.cells #[r] t)).stay hb
   rw [World.size_alloc] at this
   exact this
 · have := (box1_new ((w.alloc (.cells #[.slice a1 n1 c1] 28)).alloc (.cells #[.slice a2 n2 c2] 28)) r t).stay hb
   rw [World.size_alloc, World.size_alloc] at this
   exact this
theorem refLess_any (a1 a2 : Option Addr) (n1 n2 c1 c2 : Nat) (xs ys : List Nat) (w : World) (h1 : Sl w a1 n1 c1 xs) (h2 : Sl w a2 n2 c2 ys) (l1 : n1 ≤ 16384) (hle : n2 ≤ n1) (hv : val ys ≤ val xs) :
 Calls Tryz.prog 214 #[.slice a1 n1 c1, .slice a2 n2 c2] w fun e w' => ∃ ao n c, e = .returned (.slice ao n c) ∧ Fr 75 w' w.heap.size ao n c (limbs (val xs - val ys)) ∧ Below w.heap.size w w' := by
 obtain ⟨i0, hi0, hz0, hz1, hz2⟩ := info_parts u32_infoL
 have e1 := h1.len
 have e2 := h2.len
 go_enter Tryz.func214, Tryz.ntmps214
 go_wp2
 go_loopw [5, 6, 7] (fun v cv i wr => ∃ (j cc : Nat) (zs : List Nat), j ≤ n1 ∧ i = .int .i64 j ∧ cv = .int .u64 cc ∧ Sb xs ys j zs cc ∧ wr.ownsRow w.heap.size 75 1 v j (lvs zs) ∧ Below w.heap.size w wr) (fun _ _ i _ => n1 - (intOf i).toNat)
 case atStart => exact ⟨0, 0, [], by omega, rfl, rfl, sb_zero xs ys, World.ownsRow_nil _ _ _ _, Below.refl _ _⟩
 case round =>
  obtain ⟨j, cc, zs, hj, rfl, rfl, had, hown, hW⟩ := hrel
  by_cases hjn : j < n1
  · have hcc := had.one
    have hx1 := nth_lt h1.ok j
    have hx2 := nth_lt h2.ok j
    have hd := had.next h1.ok h2.ok
    have hw0 : IntKind.u64.wrap ((nth xs j : Int) + 4294967296 - (nth ys j : Int)) = (nth xs j : Int) + 4294967296 - (nth ys j : Int) := by rw [IntKind.wrap_u64]; omega
    have hlow : ((nth xs j : Int) + 4294967296 - (nth ys j : Int) - (cc : Int)) % 4294967296 = ((sbD (nth xs j) (nth ys j) cc : Nat) : Int) := by unfold sbD; omega
    have hcar : (1 : Int) - ((nth xs j : Int) + 4294967296 - (nth ys j : Int) - (cc : Int)) / 4294967296 = ((sbC (nth xs j) (nth ys j) cc : Nat) : Int) := by unfold sbC; split <;> omega
    have Hlow := Lib.hid hlow
    have Hcar := Lib.hid hcar
    have hz : sbD (nth xs j) (nth ys j) cc < 4294967296 := by unfold sbD; omega
    have hsz := hW.size
    clear hlow hcar e1 e2
    go_wp2_with (first
     | (go_at_call 233; with_reducible refine (refLimb_e a1 n1 c1 j _ rfl xs _ (h1.below hW)).mono ?_; rintro e w1 ⟨rfl, rfl⟩)
     | (go_at_call 233; with_reducible refine (refLimb_e a2 n2 c2 j _ rfl ys _ (h2.below hW)).mono ?_; rintro e w1 ⟨rfl, rfl⟩)
     | (at_builtin; refine wpList_append_sl _ rfl (.tmp 25) (.tmp 28) _ rfl w.heap.size 75 i0 _ Tryz.underlying26 hi0 hz0 hz1 hz2 rfl _ j _ rfl (hown.alloc _) (some ⟨wr.heap.size, 0, none⟩) 1 1 _ rfl (sl_one wr _ Hlow.out hz) (by omega) (by simp; omega) ?_; intro v1 w1 hown1 hg1 hat1; replace hW := grownOwn (more hW _) (hown.alloc _) (Nat.le_refl _) hg1))
    exact ⟨⟨j + 1, _, _, by omega, by go_num, congrArg _ Hcar.out, hd, hown1, hW⟩, by simp [intOf]; omega⟩
  · obtain rfl : j = n1 := by omega
    have hs := had.diff (by omega) (by omega) hv
    obtain ⟨a3, c3, rfl, hF⟩ := fr_own_any hown had.ok
    have Hs := Lib.hid hs
    clear hs hown
    go_wp2_with (go_at_call 183; refine (refTrim_any a3 j c3 _ _ hF).mono ?_; rintro e w2 ⟨k2, rfl, hF2, rfl⟩)
    go_ret
    exact ⟨a3, k2, c3, rfl, by rw [← Hs.out]; exact hF2, hW⟩
theorem refTimes_any (a1 a2 : Option Addr) (n1 n2 c1 c2 : Nat) (xs ys : List Nat) (w : World) (h1 : Sl w a1 n1 c1 xs) (h2 : Sl w a2 n2 c2 ys) (l1 : n1 ≤ 16384) (l2 : n2 ≤ 16384) :
 Calls Tryz.prog 215 #[.slice a1 n1 c1, .slice a2 n2 c2] w fun e w' => ∃ ao n c, e = .returned (.slice ao n c) ∧ Fr 75 w' w.heap.size ao n c (limbs (val xs * val ys)) ∧ Below w.heap.size w w' := by
 obtain ⟨i0, hi0, hz0, hz1, hz2⟩ := info_parts u32_infoL
 have e1 := h1.len
 have e2 := h2.len
 go_enter Tryz.func215, Tryz.ntmps215
 go_wp2_with (first
  | (at_make; refine wpList_make_full _ rfl _ _ 26 rfl w.heap.size 75 i0 _ 1 Tryz.underlying26 hi0 hz0 hz1 _ _ _ _ (n1 + n2) rfl rfl rfl rfl (by rw [hz2]; omega) (by unfold maxLen; omega) (Nat.le_refl _) ?_; intro w2 hown hg1; rw [made_lvs] at hown; have hb1 := (Below.refl w.heap.size w).grown hg1 (Nat.le_refl _) (by simp)))
 have hM := mu_zero xs ys
 rw [e1, e2] at hM
 go_loopw [6] (fun i wr => ∃ (k : Nat) (zs : List Nat), k ≤ n1 ∧ i = .int .i64 k ∧ Mu xs ys k 0 zs 0 ∧ wr.ownsRow w.heap.size 75 1 (.slice (some ⟨w.heap.size, 0, none⟩) (n1 + n2) (n1 + n2)) (n1 + n2) (lvs zs) ∧ Below w.heap.size w wr) (fun i _ => n1 - (intOf i).toNat)
 case atStart => exact ⟨0, _, by omega, rfl, hM, hown, hb1⟩
 case round =>
  obtain ⟨k, zs, hk, rfl, hmu, hownk, hbk⟩ := hrel
  clear hM hown hb1
  by_cases hkn : k < n1
  · have hx1 := nth_lt h1.ok k
    go_wp2
    go_loopw [7, 8] (fun cv j wx => ∃ (q cc : Nat) (zs : List Nat), q ≤ n2 ∧ j = .int .i64 q ∧ cv = .int .u64 cc ∧ Mu xs ys k q zs cc ∧ wx.ownsRow w.heap.size 75 1 (.slice (some ⟨w.heap.size, 0, none⟩) (n1 + n2) (n1 + n2)) (n1 + n2) (lvs zs) ∧ Below w.heap.size w wx) (fun _ j _ => n2 - (intOf j).toNat)
    case atStart => exact ⟨0, 0, zs, by omega, rfl, rfl, hmu, hownk, hbk⟩
    case round =>
     obtain ⟨q, cc, zs, hq, rfl, rfl, hmu, hownk, hbk⟩ := hrel
     have hcc := hmu.lt
     by_cases hqn : q < n2
     · obtain ⟨b, o, rfl, hb, hc⟩ := (h1.below hbk).at_ (by omega)
       have hcell := hc k hkn
       obtain ⟨b2, p2, rfl, hb2, hc2⟩ := (h2.below hbk).at_ (by omega)
       have hcell2 := hc2 q hqn
       have hst := own_cell hownk (j := k + q) (by omega)
       have hd := hmu.next h1.ok h2.ok (by omega) (by omega)
       obtain ⟨m1, m2, -, m3⟩ := mul_wraps hx1 (nth_lt h2.ok q) (nth_lt hmu.ok (k + q)) hcc
       have m4 := wrap_limb (nth_lt h2.ok q)
       have m5 := wrap_limb (nth_lt hmu.ok (k + q))
       have m6 := wrap_limb hx1
       replace m3 := m3.trans (show _ = ((muT xs ys zs k q cc : Nat) : Int) by unfold muT; simp; omega)
       clear hc hc2
       go_wp2
       go_quiet (fail)
       rename_i nq
       have Hb := drewn (Below.refl wr.heap.size wr) nq
       generalize wr.drewN nq = wq at Hb ⊢
       replace hownk := own_keep hownk Hb
       replace hbk := next hbk Hb
       have hfz := hownk.frozenAt (k + q)
       have hst2 := own_cell hownk (j := k + q) (by omega)
       obtain ⟨o1, r1⟩ := hownk.stored (k + q) (lv (muT xs ys zs k q cc % 4294967296))
       rw [lvs_set] at o1
       have hb2 := hbk.grown r1 hbk.size (by simp)
       go_wp2
       exact ⟨⟨q + 1, _, _, by omega, by go_num, rfl, hd, o1, hb2⟩, by simp [intOf]; omega⟩
     · obtain rfl : q = n2 := by omega
       have hd := Mu.row (e2 ▸ hmu) (by omega)
       rw [e2] at hd
       have hst := own_cell hownk (j := k + q) (by omega)
       have hfz := hownk.frozenAt (k + q)
       obtain ⟨o1, r1⟩ := hownk.stored (k + q) (lv cc)
       rw [lvs_set] at o1
       have hb2 := hbk.grown r1 hbk.size (by simp)
       go_wp2
       exact ⟨⟨k + 1, _, by omega, by go_num, hd, o1, hb2⟩, by simp [intOf]; omega⟩
  · obtain rfl : k = n1 := by omega
    have hs := Mu.prod (e1 ▸ hmu) rfl
    have hF := fr_own hownk hmu.ok (Nat.le_refl _) (Nat.le_refl _) (Nat.le_refl _)
    rw [List.take_of_length_le (by rw [hmu.len]; omega)] at hF
    clear h1 h2
    go_wp2_with (go_at_call 183; refine (refTrim_any _ _ _ _ _ hF).mono ?_; rintro e w2 ⟨k2, rfl, hF2, rfl⟩; rw [hs] at hF2)
    go_ret
    exact ⟨_, k2, _, rfl, hF2, hbk⟩
theorem refAdd_any (a1 a2 : Option Addr) (n1 n2 c1 c2 : Nat) (xs ys : List Nat) (w : World) (h1 : Sl w a1 n1 c1 xs) (h2 : Sl w a2 n2 c2 ys) (hx : chk xs = 0) (hy : chk ys = 0) :
 Calls Tryz.prog 169 #[.agg #[.slice a1 n1 c1], .agg #[.slice a2 n2 c2]] w (Numb w (bigN (val xs + val ys)) (bigE (val xs + val ys))) := by
 have l1 := chk_zero_len hx
 have l2 := chk_zero_len hy
 have e1 := h1.len
 have e2 := h2.len
 go_enter Tryz.func169, Tryz.ntmps169
 go_wp2_with (first
  | (go_at_call 211; refine (refTwo_new a1 a2 n1 n2 c1 c2 xs ys w _ _ h1 h2 hx hy).mono ?_; rintro e w1 ⟨rfl, hW, A, B, C⟩; have ⟨q0, qz⟩ := A; have ⟨p0, pz⟩ := B)
  | (go_at_call 213; refine (refPlus_any a1 a2 n1 n2 c1 c2 xs ys _ (h1.below hW) (h2.below hW) (by omega) (by omega)).mono ?_; rintro e w2 ⟨ao, k, c, zs, rfl, hF, hs, hb2⟩; have hW2 := next hW hb2; have C2 := C.stay hb2)
  | (go_at_call 212; refine (refFits_any ao k c zs _ hF).mono ?_; rintro e w3 ⟨ao', k', c', rfl, hF3, hb3⟩; rw [hs] at hF3 ⊢; have hW3 := next hW2 hb3; have C3 := C2.stay hb3; have ⟨r0, rz⟩ := C3; have hlt := C.lt))
 refine bodyPost_ret (v := .tuple #[.agg #[.slice ao' k' c'], .int .i64 (bigE (val xs + val ys))]) (by simp [results, Tryz.results169, go_sem, C3.set]) rfl ⟨ao', k', c', rfl, (hF3.setCell (by simpa using hlt) _).mono hW.size, hW3.setCell (by simp; omega) _⟩
theorem refMul_any (a1 a2 : Option Addr) (n1 n2 c1 c2 : Nat) (xs ys : List Nat) (w : World) (h1 : Sl w a1 n1 c1 xs) (h2 : Sl w a2 n2 c2 ys) (hx : chk xs = 0) (hy : chk ys = 0) :
 Calls Tryz.prog 172 #[.agg #[.slice a1 n1 c1], .agg #[.slice a2 n2 c2]] w (Numb w (bigN (val xs * val ys)) (bigE (val xs * val ys))) := by
 have l1 := chk_zero_len hx
 have l2 := chk_zero_len hy
 have e1 := h1.len
 have e2 := h2.len
 by_cases hn : 16385 < n1 + n2
 · have hb := bigE_many (prod_many (fine_of_chk h1.ok hx) (fine_of_chk h2.ok hy) l1 l2 (by omega))
   rw [hb.1, hb.2]
   go_enter Tryz.func172, Tryz.ntmps172
   go_wp2_with (first
    | (go_at_call 211; refine (refTwo_new a1 a2 n1 n2 c1 c2 xs ys w _ _ h1 h2 hx hy).mono ?_; rintro e w1 ⟨rfl, hW, A, B, C⟩; have ⟨q0, qz⟩ := A; have ⟨p0, pz⟩ := B; have ⟨r0, rz⟩ := C))
   refine bodyPost_ret (v := .tuple #[.agg #[.slice none 0 0], .int .i64 4]) (by simp [results, Tryz.results172, go_sem, C.set]) rfl ⟨none, 0, 0, rfl, ?_, hW.setCell (by simp; omega) _⟩
   rw [limbs_zero]
   exact fr_nil _ _ _
 · go_enter Tryz.func172, Tryz.ntmps172
   go_wp2_with (first
    | (go_at_call 211; refine (refTwo_new a1 a2 n1 n2 c1 c2 xs ys w _ _ h1 h2 hx hy).mono ?_; rintro e w1 ⟨rfl, hW, A, B, C⟩; have ⟨q0, qz⟩ := A; have ⟨p0, pz⟩ := B)
    | (go_at_call 215; refine (refTimes_any a1 a2 n1 n2 c1 c2 xs ys _ (h1.below hW) (h2.below hW) (by omega) (by omega)).mono ?_; rintro e w2 ⟨ao, k, c, rfl, hF, hb2⟩; have hW2 := next hW hb2; have C2 := C.stay hb2)
    | (go_at_call 212; refine (refFits_any ao k c _ _ hF).mono ?_; rintro e w3 ⟨ao', k', c', rfl, hF3, hb3⟩; rw [val_limbs'] at hF3 ⊢; have hW3 := next hW2 hb3; have C3 := C2.stay hb3; have ⟨r0, rz⟩ := C3; have hlt := C.lt))
   refine bodyPost_ret (v := .tuple #[.agg #[.slice ao' k' c'], .int .i64 (bigE (val xs * val ys))]) (by simp [results, Tryz.results172, go_sem, C3.set]) rfl ⟨ao', k', c', rfl, (hF3.setCell (by simpa using hlt) _).mono hW.size, hW3.setCell (by simp; omega) _⟩
theorem refSub_any (a1 a2 : Option Addr) (n1 n2 c1 c2 : Nat) (xs ys : List Nat) (w : World) (h1 : Sl w a1 n1 c1 xs) (h2 : Sl w a2 n2 c2 ys) (hx : chk xs = 0) (hy : chk ys = 0) (hv : val ys ≤ val xs) :
 Calls Tryz.prog 171 #[.agg #[.slice a1 n1 c1], .agg #[.slice a2 n2 c2]] w (Subs w (val xs - val ys) true) := by
 have l1 := chk_zero_len hx
 have l2 := chk_zero_len hy
 have e1 := h1.len
 have e2 := h2.len
 have hcm : ¬ cmpN (val xs) (val ys) < 0 := by
  rcases Nat.lt_or_ge (val ys) (val xs) with hh | hh
  · rw [cmpN_gt hh]; decide
  · rw [cmpN_eq (by omega)]; decide
 have hlen : n2 ≤ n1 := by
  rcases Nat.lt_or_ge n1 n2 with hh | hh
  · have := cmp_len h1.ok (fine_of_chk h2.ok hy) (by omega)
    omega
  · exact hh
 generalize hcg : cmpN (val xs) (val ys) = cm at hcm
 go_enter Tryz.func171, Tryz.ntmps171
 go_wp2_with (first
  | (go_at_call 211; refine (refTwo_new a1 a2 n1 n2 c1 c2 xs ys w _ _ h1 h2 hx hy).mono ?_; rintro e w1 ⟨rfl, hW, A, B, C⟩; have ⟨q0, qz⟩ := A; have ⟨p0, pz⟩ := B)
  | (go_at_call 62; refine (refCmpL_any a1 a2 n1 n2 c1 c2 xs ys _ (h1.below hW) (h2.below hW) hx hy).mono ?_; rintro e w2 ⟨rfl, hb2⟩; rw [hcg]; replace A := A.stay hb2; replace B := B.stay hb2; replace C := C.stay hb2; replace hW := next hW hb2; have ⟨q1, qz1⟩ := A; have ⟨p1, pz1⟩ := B)
  | (go_at_call 214; refine (refLess_any a1 a2 n1 n2 c1 c2 xs ys _ (h1.below hW) (h2.below hW) (by omega) hlen hv).mono ?_; rintro e w3 ⟨ao, k, c, rfl, hF, hb3⟩; have hlt := C.lt; have hsz := hW.size; replace C := C.stay hb3; replace hW := next hW hb3)
  | (go_at_call 182; refine (refNat_any _ ao k c rfl _).mono ?_; rintro e w4 ⟨rfl, hb4⟩; replace hW := next hW hb4; replace C := C.stay hb4; replace hF := hF.below hb4; have ⟨r0, rz⟩ := C))
 refine bodyPost_ret (v := .tuple #[.agg #[.slice ao k c], .bool true, .int .i64 0]) (by simp [results, Tryz.results171, go_sem, C.set]) rfl ⟨ao, k, c, rfl, (hF.setCell (by simpa using hlt) _).mono hsz, hW.setCell (by simp; omega) _⟩
theorem refCmp_any (a1 a2 : Option Addr) (n1 n2 c1 c2 : Nat) (xs ys : List Nat) (w : World) (h1 : Sl w a1 n1 c1 xs) (h2 : Sl w a2 n2 c2 ys) (hx : chk xs = 0) (hy : chk ys = 0) :
 Calls Tryz.prog 170 #[.agg #[.slice a1 n1 c1], .agg #[.slice a2 n2 c2]] w fun e w' => e = .returned (.tuple #[.int .i64 (cmpN (val xs) (val ys)), .int .i64 0]) ∧ Below w.heap.size w w' := by
 go_enter Tryz.func170, Tryz.ntmps170
 go_wp2_with (first
  | (go_at_call 211; refine (refTwo_zero a1 a2 n1 n2 c1 c2 xs ys _ ((h1.alloc _).alloc _) ((h2.alloc _).alloc _) hx hy).mono ?_; rintro e w1 ⟨rfl, hb1⟩; have A := ((box1_new w _ _).alloc _).stay hb1; have B := (box1_new _ _ _).stay hb1; rw [World.size_alloc] at B; have hW := next (more (more (Below.refl _ _) _) _) hb1; have ⟨q0, qz0⟩ := A; have ⟨p0, pz0⟩ := B)
  | (go_at_call 62; refine (refCmpL_any a1 a2 n1 n2 c1 c2 xs ys _ (h1.below hW) (h2.below hW) hx hy).mono ?_; rintro e w2 ⟨rfl, hb2⟩))
 go_ret2
 exact ⟨rfl, next hW hb2⟩
end Go.Proofs.YtfjgmpfpadfknaaGreatDoor
