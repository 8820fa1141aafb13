/-
  The walk of nat.Add: a sum in a block of its own. The walks of nat.Sub and nat.Cmp. The walks of the reference's plus, less, fits, two, Add, Sub, Cmp. The walks of nat.Mul and of the reference's times and Mul: a product in a block of its own. The walks of the reference's less, times, fits, two, Add, Sub, Mul, Cmp. The walks of the reference's Add, Sub, Mul, Cmp of numbers.
-/
import Derived.Test.YtaddnoneoflimaaGreatDoorQbTUps
import Derived.Test.YtaddnoneoflimaaGreatDoorQbTMT1
import Derived.Test.YtaddnoneoflimaaGreatDoorQbTMakes
namespace Go.Proofs.YtaddnoneoflimaaGreatDoor

open Go.RowKit Go.Lb

/-- checks ahead of a sum: both numbers, a result and the list of both lie there. -/
theorem checks_new (a1 a2 : Option Addr) (n1 n2 c1 c2 : Nat) (xs ys : List Nat) (w : World) (r : Value) (t : TypeId) (h1 : Sl w a1 n1 c1 xs) (h2 : Sl w a2 n2 c2 ys) (hx : chk xs = 0) (hy : chk ys = 0) :
    Calls Tryz.prog 269 #[.slice (some ⟨w.heap.size + 1 + 1 + 1, 0, none⟩) 2 2] ((((w.alloc (.cells #[.slice a1 n1 c1] 78)).alloc (.cells #[.slice a2 n2 c2] 78)).alloc (.cells #[r] t)).alloc (.cells #[.slice a1 n1 c1, .slice a2 n2 c2] 78)) fun e w' =>
      e = .returned (.int .i64 0) ∧ Below w.heap.size w w' ∧ Box1 w' w.heap.size (.slice a1 n1 c1) ∧ Box1 w' (w.heap.size + 1) (.slice a2 n2 c2) ∧ Box1 w' (w.heap.size + 1 + 1) r := by
  have hz : w.heap.size + 1 + 1 + 1 = (((w.alloc (.cells #[.slice a1 n1 c1] 78)).alloc (.cells #[.slice a2 n2 c2] 78)).alloc (.cells #[r] t)).heap.size := by rw [World.size_alloc, World.size_alloc, World.size_alloc]
  rw [hz]
  refine (natChecks_two a1 a2 n1 n2 c1 c2 _ xs ys _ ((((h1.alloc _).alloc _).alloc _).alloc _) ((((h2.alloc _).alloc _).alloc _).alloc _) hx hy (by simp [go_sem]) (by simp [go_sem])).mono ?_
  rintro e w' ⟨rfl, hb⟩
  refine ⟨rfl, next (more (more (more (more (Below.refl _ _) _) _) _) _) hb, (((((box1_new w _ _).alloc _).alloc _).alloc _).stay hb), ?_, ?_⟩
  · have := (((box1_new (w.alloc (.cells #[.slice a1 n1 c1] 78)) (.slice a2 n2 c2) 78).alloc (.cells #[r] t)).alloc (.cells #[.slice a1 n1 c1, .slice a2 n2 c2] 78)).stay hb
    rw [World.size_alloc] at this
    exact this
  · have := ((box1_new ((w.alloc (.cells #[.slice a1 n1 c1] 78)).alloc (.cells #[.slice a2 n2 c2] 78)) r t).alloc (.cells #[.slice a1 n1 c1, .slice a2 n2 c2] 78)).stay hb
    rw [World.size_alloc, World.size_alloc] at this
    exact this

set_option maxRecDepth 100000 in
set_option maxHeartbeats 2000000 in
theorem natAdd_ge (a1 a2 : Option Addr) (n1 n2 c1 c2 : Nat) (xs ys : List Nat) (w : World) (h1 : Sl w a1 n1 c1 xs) (h2 : Sl w a2 n2 c2 ys) (hx : chk xs = 0) (hy : chk ys = 0) (hn : ¬ n1 < n2) :
    Calls Tryz.prog 340 #[.agg #[.slice a1 n1 c1], .agg #[.slice a2 n2 c2]] w (Numb w (bigN (val xs + val ys)) (bigE (val xs + val ys))) := by
  obtain ⟨i0, hi0, hz0, hz1, hz2⟩ := info_parts u32_infoL
  have l1 := chk_zero_len hx
  have l2 := chk_zero_len hy
  have e1 := h1.len
  have e2 := h2.len
  go_enter Tryz.func340, Tryz.ntmps340
  go_wp2_with (first
    | (go_at_call 269; refine (checks_new a1 a2 n1 n2 c1 c2 xs ys w _ _ h1 h2 hx hy).mono ?_; rintro e w1 ⟨rfl, hW, A, B, C⟩; have ⟨q0, qz⟩ := A; have ⟨b0, bz⟩ := B; have ⟨r0, rz⟩ := C))
  go_quiet (fail)
  rename_i nq
  have Hb := drewn (Below.refl w1.heap.size w1) nq
  generalize w1.drewN nq = wq at Hb ⊢
  replace hW := next hW Hb
  replace A := A.stay Hb
  replace B := B.stay Hb
  replace C := C.stay Hb
  clear q0 qz b0 bz r0 rz Hb
  go_wp2_with (first
    | (at_make; refine wpList_make_full _ rfl _ _ 76 rfl wq.heap.size 23 i0 _ 1 Tryz.underlying76 hi0 hz0 hz1 _ _ _ _ (n1 + 1) rfl rfl rfl rfl (by rw [hz2]; omega) (by unfold maxLen; omega) (Nat.le_refl _) ?_; intro w2 hown hg1; rw [made_lvs] at hown; have hb1 := (Below.refl wq.heap.size wq).grown hg1 (Nat.le_refl _) (by simp)))
  go_loopw [10, 39] (fun cv i wr => ∃ (k cc : Nat) (zs : List Nat), k ≤ n1 ∧ i = .int .i64 k ∧ cv = .int .u32 cc ∧ Ad xs ys k zs cc ∧ wr.ownsRow wq.heap.size 23 1 (.slice (some ⟨wq.heap.size, 0, none⟩) (n1 + 1) (n1 + 1)) (n1 + 1) (lvs (zs ++ List.replicate (n1 + 1 - k) 0)) ∧ Below wq.heap.size wq wr) (fun _ i _ => n1 - (intOf i).toNat)
  case atStart => exact ⟨0, 0, [], by omega, rfl, rfl, ad_zero xs ys, hown, hb1⟩
  case round =>
    obtain ⟨k, cc, zs, hk, rfl, rfl, had, hownk, hbk⟩ := hrel
    have hok : Ok (zs ++ [cc]) := ok_append had.ok (ok_cons (by have := had.one; omega) ok_nil)
    have hcc := had.one
    have hWk := next hW hbk
    have C' := C.stay hbk
    by_cases hkn : k < n1
    · obtain ⟨b, o, rfl, hb, hc⟩ := (h1.below hWk).at_ (by omega)
      have hcell := hc k hkn
      clear hc
      have hx1 := nth_lt h1.ok k
      have hx2 := nth_lt h2.ok k
      have hd := had.next h1.ok h2.ok
      have hst := own_cell hownk (j := k) (by omega)
      have hfz := hownk.frozenAt k
      obtain ⟨o1, r1⟩ := hownk.stored k (lv ((nth xs k + nth ys k + cc) % 4294967296))
      rw [set_front had.len (by omega)] at o1
      have hb2 := hbk.grown r1 hbk.size (by simp)
      by_cases hk2 : k < n2
      · obtain ⟨b2, p2, rfl, hb2', hc2⟩ := (h2.below hWk).at_ (by omega)
        have hcell2 := hc2 k hk2
        clear hc2 h1 h2
        go_wp2_with (go_at_call 406; refine (add32_any (nth xs k) (nth ys k) cc _ hx1 hx2 hcc).mono ?_; rintro e w3 ⟨rfl, rfl⟩)
        exact ⟨⟨k + 1, _, _, by omega, by go_num, rfl, hd, o1, hb2⟩, by simp [intOf]; omega⟩
      · have hy0 : nth ys k = 0 := nth_over (by omega)
        rw [hy0] at hd o1 hb2
        clear h1 h2 hy0 r1
        go_wp2_with (go_at_call 406; refine (add32_any (nth xs k) 0 cc _ hx1 (by decide) hcc).mono ?_; rintro e w3 ⟨rfl, rfl⟩)
        exact ⟨⟨k + 1, _, _, by omega, by go_num, rfl, hd, o1, hb2⟩, by simp [intOf]; omega⟩
    · obtain rfl : k = n1 := by omega
      have hs := (had.sum (by omega) (by omega)).1
      have hst := own_cell hownk (j := k) (by omega)
      have hfz := hownk.frozenAt k
      obtain ⟨o1, r1⟩ := hownk.stored k (lv cc)
      rw [set_front had.len (by omega), Nat.sub_self, List.replicate_zero, List.append_nil] at o1
      have hb2 := hbk.grown r1 hbk.size (by simp)
      have ⟨r0, rz⟩ := C'
      clear h1 h2
      go_wp2_with (go_at_call 407; refine (natFits_any _ o1 hok).mono ?_; rintro e w3 ⟨ao, kk, c, rfl, hF, hb3⟩; rw [hs] at hF ⊢; have hlt := C.lt; have C'' := (C.stay hb2).stay hb3; have ⟨r3, z3⟩ := C''; have hW3 := next (next hW hb2) hb3)
      refine bodyPost_ret (v := .tuple #[.agg #[.slice ao kk c], .int .i64 (bigE (val xs + val ys))]) (by simp [results, Tryz.results340, go_sem, C''.set]) rfl ⟨ao, kk, c, rfl, (hF.setCell (by simpa using hlt) _).mono hW.size, hW3.setCell (by simp; omega) _⟩

set_option maxRecDepth 100000 in
set_option maxHeartbeats 2000000 in
theorem natAdd_lt (a1 a2 : Option Addr) (n1 n2 c1 c2 : Nat) (xs ys : List Nat) (w : World) (h1 : Sl w a1 n1 c1 xs) (h2 : Sl w a2 n2 c2 ys) (hx : chk xs = 0) (hy : chk ys = 0) (hn : n1 < n2) :
    Calls Tryz.prog 340 #[.agg #[.slice a1 n1 c1], .agg #[.slice a2 n2 c2]] w (Numb w (bigN (val xs + val ys)) (bigE (val xs + val ys))) := by
  obtain ⟨i0, hi0, hz0, hz1, hz2⟩ := info_parts u32_infoL
  have l1 := chk_zero_len hx
  have l2 := chk_zero_len hy
  have e1 := h1.len
  have e2 := h2.len
  go_enter Tryz.func340, Tryz.ntmps340
  go_wp2_with (first
    | (go_at_call 269; refine (checks_new a1 a2 n1 n2 c1 c2 xs ys w _ _ h1 h2 hx hy).mono ?_; rintro e w1 ⟨rfl, hW, A, B, C⟩; have ⟨q0, qz⟩ := A; have ⟨b0, bz⟩ := B; have ⟨r0, rz⟩ := C))
  go_quiet (fail)
  rename_i nq
  have Hb := drewn (Below.refl w1.heap.size w1) nq
  generalize w1.drewN nq = wq at Hb ⊢
  replace hW := next hW Hb
  replace A := A.stay Hb
  replace B := B.stay Hb
  replace C := C.stay Hb
  clear q0 qz b0 bz r0 rz Hb
  go_wp2_with (first
    | (at_make; refine wpList_make_full _ rfl _ _ 76 rfl wq.heap.size 23 i0 _ 1 Tryz.underlying76 hi0 hz0 hz1 _ _ _ _ (n2 + 1) rfl rfl rfl rfl (by rw [hz2]; omega) (by unfold maxLen; omega) (Nat.le_refl _) ?_; intro w2 hown hg1; rw [made_lvs] at hown; have hb1 := (Below.refl wq.heap.size wq).grown hg1 (Nat.le_refl _) (by simp)))
  go_loopw [10, 39] (fun cv i wr => ∃ (k cc : Nat) (zs : List Nat), k ≤ n2 ∧ i = .int .i64 k ∧ cv = .int .u32 cc ∧ Ad ys xs k zs cc ∧ wr.ownsRow wq.heap.size 23 1 (.slice (some ⟨wq.heap.size, 0, none⟩) (n2 + 1) (n2 + 1)) (n2 + 1) (lvs (zs ++ List.replicate (n2 + 1 - k) 0)) ∧ Below wq.heap.size wq wr) (fun _ i _ => n2 - (intOf i).toNat)
  case atStart => exact ⟨0, 0, [], by omega, rfl, rfl, ad_zero ys xs, hown, hb1⟩
  case round =>
    obtain ⟨k, cc, zs, hk, rfl, rfl, had, hownk, hbk⟩ := hrel
    have hok : Ok (zs ++ [cc]) := ok_append had.ok (ok_cons (by have := had.one; omega) ok_nil)
    have hcc := had.one
    have hWk := next hW hbk
    have C' := C.stay hbk
    by_cases hkn : k < n2
    · obtain ⟨b, o, rfl, hb, hc⟩ := (h2.below hWk).at_ (by omega)
      have hcell := hc k hkn
      clear hc
      have hx1 := nth_lt h2.ok k
      have hx2 := nth_lt h1.ok k
      have hd := had.next h2.ok h1.ok
      have hst := own_cell hownk (j := k) (by omega)
      have hfz := hownk.frozenAt k
      obtain ⟨o1, r1⟩ := hownk.stored k (lv ((nth ys k + nth xs k + cc) % 4294967296))
      rw [set_front had.len (by omega)] at o1
      have hb2 := hbk.grown r1 hbk.size (by simp)
      by_cases hk2 : k < n1
      · obtain ⟨b2, p2, rfl, hb2', hc2⟩ := (h1.below hWk).at_ (by omega)
        have hcell2 := hc2 k hk2
        clear hc2 h2 h1
        go_wp2_with (go_at_call 406; refine (add32_any (nth ys k) (nth xs k) cc _ hx1 hx2 hcc).mono ?_; rintro e w3 ⟨rfl, rfl⟩)
        exact ⟨⟨k + 1, _, _, by omega, by go_num, rfl, hd, o1, hb2⟩, by simp [intOf]; omega⟩
      · have hy0 : nth xs k = 0 := nth_over (by omega)
        rw [hy0] at hd o1 hb2
        clear h2 h1 hy0 r1
        go_wp2_with (go_at_call 406; refine (add32_any (nth ys k) 0 cc _ hx1 (by decide) hcc).mono ?_; rintro e w3 ⟨rfl, rfl⟩)
        exact ⟨⟨k + 1, _, _, by omega, by go_num, rfl, hd, o1, hb2⟩, by simp [intOf]; omega⟩
    · obtain rfl : k = n2 := by omega
      have hs := (had.sum (by omega) (by omega)).1.trans (Nat.add_comm _ _)
      have hst := own_cell hownk (j := k) (by omega)
      have hfz := hownk.frozenAt k
      obtain ⟨o1, r1⟩ := hownk.stored k (lv cc)
      rw [set_front had.len (by omega), Nat.sub_self, List.replicate_zero, List.append_nil] at o1
      have hb2 := hbk.grown r1 hbk.size (by simp)
      have ⟨r0, rz⟩ := C'
      clear h2 h1
      go_wp2_with (go_at_call 407; refine (natFits_any _ o1 hok).mono ?_; rintro e w3 ⟨ao, kk, c, rfl, hF, hb3⟩; rw [hs] at hF ⊢; have hlt := C.lt; have C'' := (C.stay hb2).stay hb3; have ⟨r3, z3⟩ := C''; have hW3 := next (next hW hb2) hb3)
      refine bodyPost_ret (v := .tuple #[.agg #[.slice ao kk c], .int .i64 (bigE (val xs + val ys))]) (by simp [results, Tryz.results340, go_sem, C''.set]) rfl ⟨ao, kk, c, rfl, (hF.setCell (by simpa using hlt) _).mono hW.size, hW3.setCell (by simp; omega) _⟩

theorem natAdd_any (a1 a2 : Option Addr) (n1 n2 c1 c2 : Nat) (xs ys : List Nat) (w : World) (h1 : Sl w a1 n1 c1 xs) (h2 : Sl w a2 n2 c2 ys) (hx : chk xs = 0) (hy : chk ys = 0) :
    Calls Tryz.prog 340 #[.agg #[.slice a1 n1 c1], .agg #[.slice a2 n2 c2]] w (Numb w (bigN (val xs + val ys)) (bigE (val xs + val ys))) := by
  rcases Nat.lt_or_ge n1 n2 with hn | hn
  · exact natAdd_lt a1 a2 n1 n2 c1 c2 xs ys w h1 h2 hx hy hn
  · exact natAdd_ge a1 a2 n1 n2 c1 c2 xs ys w h1 h2 hx hy (by omega)

end Go.Proofs.YtaddnoneoflimaaGreatDoor

namespace Go.Proofs.YtaddnoneoflimaaGreatDoor

open Go.RowKit Go.Lb

/-- checks where no result has a cell. -/
theorem checks_two2 (a1 a2 : Option Addr) (n1 n2 c1 c2 : Nat) (xs ys : List Nat) (w : World) (h1 : Sl w a1 n1 c1 xs) (h2 : Sl w a2 n2 c2 ys) (hx : chk xs = 0) (hy : chk ys = 0) :
    Calls Tryz.prog 269 #[.slice (some ⟨w.heap.size + 1 + 1, 0, none⟩) 2 2] (((w.alloc (.cells #[.slice a1 n1 c1] 78)).alloc (.cells #[.slice a2 n2 c2] 78)).alloc (.cells #[.slice a1 n1 c1, .slice a2 n2 c2] 78)) fun e w' =>
      e = .returned (.int .i64 0) ∧ Below w.heap.size w w' ∧ Box1 w' w.heap.size (.slice a1 n1 c1) ∧ Box1 w' (w.heap.size + 1) (.slice a2 n2 c2) := by
  have hz : w.heap.size + 1 + 1 = ((w.alloc (.cells #[.slice a1 n1 c1] 78)).alloc (.cells #[.slice a2 n2 c2] 78)).heap.size := by rw [World.size_alloc, World.size_alloc]
  rw [hz]
  refine (natChecks_two a1 a2 n1 n2 c1 c2 _ xs ys _ (((h1.alloc _).alloc _).alloc _) (((h2.alloc _).alloc _).alloc _) hx hy (by simp [go_sem]) (by simp [go_sem])).mono ?_
  rintro e w' ⟨rfl, hb⟩
  refine ⟨rfl, next (more (more (more (Below.refl _ _) _) _) _) hb, ((((box1_new w _ _).alloc _).alloc _).stay hb), ?_⟩
  have := ((box1_new (w.alloc (.cells #[.slice a1 n1 c1] 78)) (.slice a2 n2 c2) 78).alloc (.cells #[.slice a1 n1 c1, .slice a2 n2 c2] 78)).stay hb
  rw [World.size_alloc] at this
  exact this

set_option maxHeartbeats 1000000 in
theorem natCmp_any (a1 a2 : Option Addr) (n1 n2 c1 c2 : Nat) (xs ys : List Nat) (w : World) (h1 : Sl w a1 n1 c1 xs) (h2 : Sl w a2 n2 c2 ys) (hx : chk xs = 0) (hy : chk ys = 0) :
    Calls Tryz.prog 175 #[.agg #[.slice a1 n1 c1], .agg #[.slice a2 n2 c2]] w fun e w' => e = .returned (.tuple #[.int .i64 (cmpN (val xs) (val ys)), .int .i64 0]) ∧ Below w.heap.size w w' := by
  go_enter Tryz.func175, Tryz.ntmps175
  go_wp2_with (first
    | (go_at_call 269; refine (checks_two2 a1 a2 n1 n2 c1 c2 xs ys w h1 h2 hx hy).mono ?_; rintro e w1 ⟨rfl, hW, A, B⟩; have ⟨q0, qz⟩ := A; have ⟨b0, bz⟩ := B)
    | (go_at_call 270; refine (natCmpL_any a1 a2 n1 n2 c1 c2 xs ys _ (h1.below hW) (h2.below hW) hx hy).mono ?_; rintro e w2 ⟨rfl, hb2⟩))
  go_ret2
  exact ⟨rfl, next hW hb2⟩

end Go.Proofs.YtaddnoneoflimaaGreatDoor

namespace Go.Proofs.YtaddnoneoflimaaGreatDoor

open Go.RowKit Go.Lb

end Go.Proofs.YtaddnoneoflimaaGreatDoor

namespace Go.Proofs.YtaddnoneoflimaaGreatDoor

open Go.RowKit Go.Lb

theorem lvs_set (zs : List Nat) (p d : Nat) : (lvs zs).set p (lv d) = lvs (zs.set p d) := by
  unfold lvs
  rw [List.map_set]

theorem fine_ge {xs : List Nat} (h : Fine xs) (h0 : xs ≠ []) : 4294967296 ^ (xs.length - 1) ≤ val xs := by
  rcases Nat.lt_or_ge (val xs) (4294967296 ^ (xs.length - 1)) with hh | hh
  · have h1 := limbs_length_le hh
    rw [limbs_val h] at h1
    have h2 : xs.length ≠ 0 := fun e => h0 (List.eq_nil_of_length_eq_zero e)
    omega
  · exact hh

/-- Too long a product. -/
theorem prod_many {xs ys : List Nat} (hx : Fine xs) (hy : Fine ys) (h1 : xs.length ≤ 16384) (h2 : ys.length ≤ 16384) (h : 16385 < xs.length + ys.length) : ¬ (limbs (val xs * val ys)).length ≤ 16384 := by
  intro hc
  obtain ⟨M, hM⟩ : ∃ M : Nat, M = 16384 := ⟨_, rfl⟩
  rw [← hM] at hc
  have h3 := lt_of_limbs_length hc
  have g1 := fine_ge hx (fun e => by rw [e] at h; simp at h; omega)
  have g2 := fine_ge hy (fun e => by rw [e] at h; simp at h; omega)
  have g3 := Nat.mul_le_mul g1 g2
  rw [← Nat.pow_add] at g3
  have g4 : 4294967296 ^ M ≤ 4294967296 ^ (xs.length - 1 + (ys.length - 1)) := Nat.pow_le_pow_right (by decide) (by omega)
  omega

theorem mul_facts {x y z c : Nat} (hx : x < 4294967296) (hy : y < 4294967296) (hz : z < 4294967296) (hc : c < 4294967296) : x * y < 18446744073709551616 ∧ x * y + z < 18446744073709551616 ∧ c + (x * y + z) < 18446744073709551616 ∧ x * y + z + c < 18446744073709551616 := by
  have : x * y ≤ 4294967295 * 4294967295 := Nat.mul_le_mul (by omega) (by omega)
  omega

theorem mul_wraps {x y z c : Nat} (hx : x < 4294967296) (hy : y < 4294967296) (hz : z < 4294967296) (hc : c < 4294967296) :
    IntKind.u64.wrap ((x : Int) * (y : Int)) = (x : Int) * (y : Int) ∧ IntKind.u64.wrap ((x : Int) * (y : Int) + (z : Int)) = (x : Int) * (y : Int) + (z : Int) ∧ IntKind.u64.wrap ((c : Int) + ((x : Int) * (y : Int) + (z : Int))) = (c : Int) + ((x : Int) * (y : Int) + (z : Int)) ∧ IntKind.u64.wrap ((x : Int) * (y : Int) + (z : Int) + (c : Int)) = (x : Int) * (y : Int) + (z : Int) + (c : Int) := by
  have h := mul_facts hx hy hz hc
  have e : (x : Int) * (y : Int) = ((x * y : Nat) : Int) := (Int.natCast_mul x y).symm
  rw [e]
  generalize x * y = p at h
  refine ⟨?_, ?_, ?_, ?_⟩ <;> (rw [IntKind.wrap_u64]; omega)

theorem wrap_limb {x : Nat} (hx : x < 4294967296) : IntKind.u64.wrap (x : Int) = (x : Int) := by
  rw [IntKind.wrap_u64]
  omega

end Go.Proofs.YtaddnoneoflimaaGreatDoor

namespace Go.Proofs.YtaddnoneoflimaaGreatDoor

open Go.RowKit Go.Lb

end Go.Proofs.YtaddnoneoflimaaGreatDoor

namespace Go.Proofs.YtaddnoneoflimaaGreatDoor

open Go.RowKit Go.Lb

end Go.Proofs.YtaddnoneoflimaaGreatDoor

