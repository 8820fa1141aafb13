/-
  The walks of the reference's less, times, fits, two, Add, Sub, Mul, Cmp. The walks of the reference's Add, Sub, Mul, Cmp of numbers.
-/
import Derived.Test.YtnokabglkmiidaaDoorNatMul
import Derived.Test.YtnokabglkmiidaaDoorCmpW
namespace Go.Proofs.YtnokabglkmiidaaDoor
open Go.RowKit Go.Lb

/-- A part of a row that lay there before lay there before. -/
theorem Fr.cut {e : TypeId} {w w' : World} {base : Nat} {ao : Option Addr} {n k c : Nat} {xs ys : List Nat} (h : Fr e w base ao n c xs) (h' : Fr e w' base ao k c ys) (hb : Below w.heap.size w w') : Fr e w base ao k c ys := by
  obtain ⟨s1, s2⟩ := h'
  rcases h.blk with ⟨rfl, h2, h3⟩ | ⟨g, cur, rfl, hg, hh, hc⟩
  · rcases s2 with ⟨_, t2, t3⟩ | ⟨g', _, e1, _⟩
    · exact ⟨⟨s1.len, s1.le, s1.cap, s1.ok, fun hn => absurd hn (by omega)⟩, .inl ⟨rfl, t2, t3⟩⟩
    · cases e1
  · have hl := (Array.getElem?_eq_some_iff.1 hh).1
    have hq := hb.block g hl
    refine ⟨⟨s1.len, s1.le, s1.cap, s1.ok, fun hn => ?_⟩, .inr ⟨g, cur, rfl, hg, hh, hc⟩⟩
    obtain ⟨b, o, e1, _, hcell⟩ := s1.at_ hn
    cases e1
    exact ⟨g, 0, rfl, hl, fun j hj => (World.cell?_of_block hq.symm).trans (hcell j hj)⟩

theorem refFits_any {base : Nat} (ao : Option Addr) (n c : Nat) (zs : List Nat) (w : World) (hF : Fr 55 w base ao n c zs) :
    Calls Tryd.prog 117 #[.slice ao n c] w fun e w' => ∃ ao' k c', e = .returned (.tuple #[.agg #[.slice ao' k c'], .int .i64 (bigE (val zs))]) ∧ Fr 55 w' base ao' k c' (limbs (bigN (val zs))) ∧ Below w.heap.size w w' := by
  go_enter Tryd.func117, Tryd.ntmps117
  go_wp2_with (first
    | (go_at_call 71; refine (refTrim_any ao n c zs _ (hF.alloc _)).mono ?_; rintro e w1 ⟨k, rfl, hF1, rfl⟩; have hl := hF1.sl.len; by_cases hk : k ≤ 16384)
    | (go_at_call 65; refine (refNat_any _ ao k c rfl _).mono ?_; rintro e w3 ⟨rfl, hb3⟩; have hW := next (more (Below.refl _ w) _) hb3; have B := (box1_new w _ _).stay hb3; have ⟨b0, bz⟩ := B; have hF3 := hF1.below hb3; have hlt := B.lt))
  · have hB := bigE_ok (N := val zs) (by omega)
    have hWW := hW.setCell (p := ⟨w.heap.size, 0, none⟩) (Nat.le_refl _) (.slice ao k c)
    refine bodyPost_ret (v := .tuple #[.agg #[.slice ao k c], .int .i64 0]) (by simp [results, Tryd.results117, go_sem, B.set (.slice ao k c)]) rfl ⟨ao, k, c, by rw [hB.1], ?_, hWW⟩
    rw [hB.2]
    exact (Fr.cut hF hF1 (more (Below.refl _ w) _)).below hWW
  · have hB := bigE_many (N := val zs) (by omega)
    refine bodyPost_ret (v := .tuple #[.agg #[.slice none 0 0], .int .i64 4]) (by simp [results, Tryd.results117, go_sem]) rfl ⟨none, 0, 0, by rw [hB.1], ?_, more (Below.refl _ w) _⟩
    rw [hB.2]
    exact fr_nil _ _ _

set_option maxRecDepth 100000 in
theorem refTwo_zero (a1 a2 : Option Addr) (n1 n2 c1 c2 : Nat) (xs ys : List Nat) (w : World) (h1 : Sl w a1 n1 c1 xs) (h2 : Sl w a2 n2 c2 ys) (hx : chk xs = 0) (hy : chk ys = 0) :
    Calls Tryd.prog 116 #[.agg #[.slice a1 n1 c1], .agg #[.slice a2 n2 c2]] w fun e w' => e = .returned (.int .i64 0) ∧ Below w.heap.size w w' := by
  have hxB : (chk xs != 0) = false := by simp [hx]
  go_enter Tryd.func116, Tryd.ntmps116
  go_wp2_with (first
    | (go_at_call 30; (with_reducible refine (refCheck_any a1 n1 c1 xs _ ((h1.alloc _).alloc _)).mono ?_); rintro e w1 ⟨rfl, hb1⟩; have A := ((box1_new w _ _).alloc _).stay hb1; have B := (box1_new _ _ _).stay hb1; rw [World.size_alloc] at B; have hW := next (more (more (Below.refl _ _) _) _) hb1; have ⟨q0, qz0⟩ := A; have ⟨p0, pz0⟩ := B)
    | (go_at_call 30; (with_reducible refine (refCheck_any a2 n2 c2 ys _ (h2.below hW)).mono ?_); rintro e w2 ⟨rfl, hb2⟩; rw [hy]))
  go_ret
  exact ⟨rfl, next hW hb2⟩

/-- two ahead of what answers a number: its three cells lie there behind it. -/
theorem refTwo_new (a1 a2 : Option Addr) (n1 n2 c1 c2 : Nat) (xs ys : List Nat) (w : World) (r : Value) (t : TypeId) (h1 : Sl w a1 n1 c1 xs) (h2 : Sl w a2 n2 c2 ys) (hx : chk xs = 0) (hy : chk ys = 0) :
    Calls Tryd.prog 116 #[.agg #[.slice a1 n1 c1], .agg #[.slice a2 n2 c2]] (((w.alloc (.cells #[.slice a1 n1 c1] 24)).alloc (.cells #[.slice a2 n2 c2] 24)).alloc (.cells #[r] t)) fun e w' =>
      e = .returned (.int .i64 0) ∧ Below w.heap.size w w' ∧ Box1 w' w.heap.size (.slice a1 n1 c1) ∧ Box1 w' (w.heap.size + 1) (.slice a2 n2 c2) ∧ Box1 w' (w.heap.size + 1 + 1) r := by
  refine (refTwo_zero a1 a2 n1 n2 c1 c2 xs ys _ (((h1.alloc _).alloc _).alloc _) (((h2.alloc _).alloc _).alloc _) hx hy).mono ?_
  rintro e w' ⟨rfl, hb⟩
  refine ⟨rfl, next (more (more (more (Below.refl _ _) _) _) _) hb, (((box1_new w _ _).alloc _).alloc _).stay hb, ?_, ?_⟩
  · have := ((box1_new (w.alloc (.cells #[.slice a1 n1 c1] 24)) (.slice a2 n2 c2) 24).alloc (.cells #[r] t)).stay hb
    rw [World.size_alloc] at this
    exact this
  · have := (box1_new ((w.alloc (.cells #[.slice a1 n1 c1] 24)).alloc (.cells #[.slice a2 n2 c2] 24)) r t).stay hb
    rw [World.size_alloc, World.size_alloc] at this
    exact this

set_option maxRecDepth 100000 in
set_option maxHeartbeats 1600000 in
theorem refLess_any (a1 a2 : Option Addr) (n1 n2 c1 c2 : Nat) (xs ys : List Nat) (w : World) (h1 : Sl w a1 n1 c1 xs) (h2 : Sl w a2 n2 c2 ys) (l1 : n1 ≤ 16384) (hle : n2 ≤ n1) (hv : val ys ≤ val xs) :
    Calls Tryd.prog 119 #[.slice a1 n1 c1, .slice a2 n2 c2] w fun e w' => ∃ ao n c, e = .returned (.slice ao n c) ∧ Fr 55 w' w.heap.size ao n c (limbs (val xs - val ys)) ∧ Below w.heap.size w w' := by
  obtain ⟨i0, hi0, hz0, hz1, hz2⟩ := info_parts u32_infoL
  have e1 := h1.len
  have e2 := h2.len
  go_enter Tryd.func119, Tryd.ntmps119
  go_wp2
  go_loopw [5, 6, 7] (fun v cv i wr => ∃ (j cc : Nat) (zs : List Nat), j ≤ n1 ∧ i = .int .i64 j ∧ cv = .int .u64 cc ∧ Sb xs ys j zs cc ∧ wr.ownsRow w.heap.size 55 1 v j (lvs zs) ∧ Below w.heap.size w wr) (fun _ _ i _ => n1 - (intOf i).toNat)
  case atStart => exact ⟨0, 0, [], by omega, rfl, rfl, sb_zero xs ys, World.ownsRow_nil _ _ _ _, Below.refl _ _⟩
  case round =>
    obtain ⟨j, cc, zs, hj, rfl, rfl, had, hown, hW⟩ := hrel
    by_cases hjn : j < n1
    · have hcc := had.one
      have hx1 := nth_lt h1.ok j
      have hx2 := nth_lt h2.ok j
      have hd := had.next h1.ok h2.ok
      have hw0 : IntKind.u64.wrap ((nth xs j : Int) + 4294967296 - (nth ys j : Int)) = (nth xs j : Int) + 4294967296 - (nth ys j : Int) := by rw [IntKind.wrap_u64]; omega
      have hlow : ((nth xs j : Int) + 4294967296 - (nth ys j : Int) - (cc : Int)) % 4294967296 = ((sbD (nth xs j) (nth ys j) cc : Nat) : Int) := by unfold sbD; omega
      have hcar : (1 : Int) - ((nth xs j : Int) + 4294967296 - (nth ys j : Int) - (cc : Int)) / 4294967296 = ((sbC (nth xs j) (nth ys j) cc : Nat) : Int) := by unfold sbC; split <;> omega
      have Hlow := Lib.hid hlow
      have Hcar := Lib.hid hcar
      have hz : sbD (nth xs j) (nth ys j) cc < 4294967296 := by unfold sbD; omega
      have hsz := hW.size
      clear hlow hcar e1 e2
      go_wp2_with (first
        | (go_at_call 100; with_reducible refine (refLimb_e a1 n1 c1 j _ rfl xs _ (h1.below hW)).mono ?_; rintro e w1 ⟨rfl, rfl⟩)
        | (go_at_call 100; with_reducible refine (refLimb_e a2 n2 c2 j _ rfl ys _ (h2.below hW)).mono ?_; rintro e w1 ⟨rfl, rfl⟩)
        | (at_builtin; refine wpList_append_sl _ rfl (.tmp 25) (.tmp 28) _ rfl w.heap.size 55 i0 _ Tryd.underlying22 hi0 hz0 hz1 hz2 rfl _ j _ rfl (hown.alloc _) (some ⟨wr.heap.size, 0, none⟩) 1 1 _ rfl (sl_one wr _ Hlow.out hz) (by omega) (by simp; omega) ?_; intro v1 w1 hown1 hg1 hat1; replace hW := grownOwn (more hW _) (hown.alloc _) (Nat.le_refl _) hg1))
      exact ⟨⟨j + 1, _, _, by omega, by go_num, congrArg _ Hcar.out, hd, hown1, hW⟩, by simp [intOf]; omega⟩
    · obtain rfl : j = n1 := by omega
      have hs := had.diff (by omega) (by omega) hv
      obtain ⟨a3, c3, rfl, hF⟩ := fr_own_any hown had.ok
      have Hs := Lib.hid hs
      clear hs hown
      go_wp2_with (go_at_call 71; refine (refTrim_any a3 j c3 _ _ hF).mono ?_; rintro e w2 ⟨k2, rfl, hF2, rfl⟩)
      go_ret
      exact ⟨a3, k2, c3, rfl, by rw [← Hs.out]; exact hF2, hW⟩

set_option maxRecDepth 100000 in
set_option maxHeartbeats 1600000 in
theorem refTimes_any (a1 a2 : Option Addr) (n1 n2 c1 c2 : Nat) (xs ys : List Nat) (w : World) (h1 : Sl w a1 n1 c1 xs) (h2 : Sl w a2 n2 c2 ys) (l1 : n1 ≤ 16384) (l2 : n2 ≤ 16384) :
    Calls Tryd.prog 120 #[.slice a1 n1 c1, .slice a2 n2 c2] w fun e w' => ∃ ao n c, e = .returned (.slice ao n c) ∧ Fr 55 w' w.heap.size ao n c (limbs (val xs * val ys)) ∧ Below w.heap.size w w' := by
  obtain ⟨i0, hi0, hz0, hz1, hz2⟩ := info_parts u32_infoL
  have e1 := h1.len
  have e2 := h2.len
  go_enter Tryd.func120, Tryd.ntmps120
  go_wp2_with (first
    | (at_make; refine wpList_make_full _ rfl _ _ 22 rfl w.heap.size 55 i0 _ 1 Tryd.underlying22 hi0 hz0 hz1 _ _ _ _ (n1 + n2) rfl rfl rfl rfl (by rw [hz2]; omega) (by unfold maxLen; omega) (Nat.le_refl _) ?_; intro w2 hown hg1; rw [made_lvs] at hown; have hb1 := (Below.refl w.heap.size w).grown hg1 (Nat.le_refl _) (by simp)))
  have hM := mu_zero xs ys
  rw [e1, e2] at hM
  go_loopw [6] (fun i wr => ∃ (k : Nat) (zs : List Nat), k ≤ n1 ∧ i = .int .i64 k ∧ Mu xs ys k 0 zs 0 ∧ wr.ownsRow w.heap.size 55 1 (.slice (some ⟨w.heap.size, 0, none⟩) (n1 + n2) (n1 + n2)) (n1 + n2) (lvs zs) ∧ Below w.heap.size w wr) (fun i _ => n1 - (intOf i).toNat)
  case atStart => exact ⟨0, _, by omega, rfl, hM, hown, hb1⟩
  case round =>
    obtain ⟨k, zs, hk, rfl, hmu, hownk, hbk⟩ := hrel
    clear hM hown hb1
    by_cases hkn : k < n1
    · have hx1 := nth_lt h1.ok k
      go_wp2
      go_loopw [7, 8] (fun cv j wx => ∃ (q cc : Nat) (zs : List Nat), q ≤ n2 ∧ j = .int .i64 q ∧ cv = .int .u64 cc ∧ Mu xs ys k q zs cc ∧ wx.ownsRow w.heap.size 55 1 (.slice (some ⟨w.heap.size, 0, none⟩) (n1 + n2) (n1 + n2)) (n1 + n2) (lvs zs) ∧ Below w.heap.size w wx) (fun _ j _ => n2 - (intOf j).toNat)
      case atStart => exact ⟨0, 0, zs, by omega, rfl, rfl, hmu, hownk, hbk⟩
      case round =>
        obtain ⟨q, cc, zs, hq, rfl, rfl, hmu, hownk, hbk⟩ := hrel
        have hcc := hmu.lt
        by_cases hqn : q < n2
        · obtain ⟨b, o, rfl, hb, hc⟩ := (h1.below hbk).at_ (by omega)
          have hcell := hc k hkn
          obtain ⟨b2, p2, rfl, hb2, hc2⟩ := (h2.below hbk).at_ (by omega)
          have hcell2 := hc2 q hqn
          have hst := own_cell hownk (j := k + q) (by omega)
          have hd := hmu.next h1.ok h2.ok (by omega) (by omega)
          obtain ⟨m1, m2, -, m3⟩ := mul_wraps hx1 (nth_lt h2.ok q) (nth_lt hmu.ok (k + q)) hcc
          have m4 := wrap_limb (nth_lt h2.ok q)
          have m5 := wrap_limb (nth_lt hmu.ok (k + q))
          have m6 := wrap_limb hx1
          replace m3 := m3.trans (show _ = ((muT xs ys zs k q cc : Nat) : Int) by unfold muT; simp; omega)
          clear hc hc2
          go_wp2
          go_quiet (fail)
          rename_i nq
          have Hb := drewn (Below.refl wr.heap.size wr) nq
          generalize wr.drewN nq = wq at Hb ⊢
          replace hownk := own_keep hownk Hb
          replace hbk := next hbk Hb
          have hfz := hownk.frozenAt (k + q)
          have hst2 := own_cell hownk (j := k + q) (by omega)
          obtain ⟨o1, r1⟩ := hownk.stored (k + q) (lv (muT xs ys zs k q cc % 4294967296))
          rw [lvs_set] at o1
          have hb2 := hbk.grown r1 hbk.size (by simp)
          go_wp2
          exact ⟨⟨q + 1, _, _, by omega, by go_num, rfl, hd, o1, hb2⟩, by simp [intOf]; omega⟩
        · obtain rfl : q = n2 := by omega
          have hd := Mu.row (e2 ▸ hmu) (by omega)
          rw [e2] at hd
          have hst := own_cell hownk (j := k + q) (by omega)
          have hfz := hownk.frozenAt (k + q)
          obtain ⟨o1, r1⟩ := hownk.stored (k + q) (lv cc)
          rw [lvs_set] at o1
          have hb2 := hbk.grown r1 hbk.size (by simp)
          go_wp2
          exact ⟨⟨k + 1, _, by omega, by go_num, hd, o1, hb2⟩, by simp [intOf]; omega⟩
    · obtain rfl : k = n1 := by omega
      have hs := Mu.prod (e1 ▸ hmu) rfl
      have hF := fr_own hownk hmu.ok (Nat.le_refl _) (Nat.le_refl _) (Nat.le_refl _)
      rw [List.take_of_length_le (by rw [hmu.len]; omega)] at hF
      clear h1 h2
      go_wp2_with (go_at_call 71; refine (refTrim_any _ _ _ _ _ hF).mono ?_; rintro e w2 ⟨k2, rfl, hF2, rfl⟩; rw [hs] at hF2)
      go_ret
      exact ⟨_, k2, _, rfl, hF2, hbk⟩

end Go.Proofs.YtnokabglkmiidaaDoor

namespace Go.Proofs.YtnokabglkmiidaaDoor
open Go.RowKit Go.Lb

set_option maxRecDepth 100000 in
set_option maxHeartbeats 1600000 in
theorem refAdd_any (a1 a2 : Option Addr) (n1 n2 c1 c2 : Nat) (xs ys : List Nat) (w : World) (h1 : Sl w a1 n1 c1 xs) (h2 : Sl w a2 n2 c2 ys) (hx : chk xs = 0) (hy : chk ys = 0) :
    Calls Tryd.prog 95 #[.agg #[.slice a1 n1 c1], .agg #[.slice a2 n2 c2]] w (Numb w (bigN (val xs + val ys)) (bigE (val xs + val ys))) := by
  have l1 := chk_zero_len hx
  have l2 := chk_zero_len hy
  have e1 := h1.len
  have e2 := h2.len
  go_enter Tryd.func95, Tryd.ntmps95
  go_wp2_with (first
    | (go_at_call 116; refine (refTwo_new a1 a2 n1 n2 c1 c2 xs ys w _ _ h1 h2 hx hy).mono ?_; rintro e w1 ⟨rfl, hW, A, B, C⟩; have ⟨q0, qz⟩ := A; have ⟨p0, pz⟩ := B)
    | (go_at_call 118; refine (refPlus_any a1 a2 n1 n2 c1 c2 xs ys _ (h1.below hW) (h2.below hW) (by omega) (by omega)).mono ?_; rintro e w2 ⟨ao, k, c, zs, rfl, hF, hs, hb2⟩; have hW2 := next hW hb2; have C2 := C.stay hb2)
    | (go_at_call 117; refine (refFits_any ao k c zs _ hF).mono ?_; rintro e w3 ⟨ao', k', c', rfl, hF3, hb3⟩; rw [hs] at hF3 ⊢; have hW3 := next hW2 hb3; have C3 := C2.stay hb3; have ⟨r0, rz⟩ := C3; have hlt := C.lt))
  refine bodyPost_ret (v := .tuple #[.agg #[.slice ao' k' c'], .int .i64 (bigE (val xs + val ys))]) (by simp [results, Tryd.results95, go_sem, C3.set]) rfl ⟨ao', k', c', rfl, (hF3.setCell (by simpa using hlt) _).mono hW.size, hW3.setCell (by simp; omega) _⟩

set_option maxRecDepth 100000 in
set_option maxHeartbeats 1600000 in
theorem refMul_any (a1 a2 : Option Addr) (n1 n2 c1 c2 : Nat) (xs ys : List Nat) (w : World) (h1 : Sl w a1 n1 c1 xs) (h2 : Sl w a2 n2 c2 ys) (hx : chk xs = 0) (hy : chk ys = 0) :
    Calls Tryd.prog 99 #[.agg #[.slice a1 n1 c1], .agg #[.slice a2 n2 c2]] w (Numb w (bigN (val xs * val ys)) (bigE (val xs * val ys))) := by
  have l1 := chk_zero_len hx
  have l2 := chk_zero_len hy
  have e1 := h1.len
  have e2 := h2.len
  by_cases hn : 16385 < n1 + n2
  · have hb := bigE_many (prod_many (fine_of_chk h1.ok hx) (fine_of_chk h2.ok hy) l1 l2 (by omega))
    rw [hb.1, hb.2]
    go_enter Tryd.func99, Tryd.ntmps99
    go_wp2_with (first
      | (go_at_call 116; refine (refTwo_new a1 a2 n1 n2 c1 c2 xs ys w _ _ h1 h2 hx hy).mono ?_; rintro e w1 ⟨rfl, hW, A, B, C⟩; have ⟨q0, qz⟩ := A; have ⟨p0, pz⟩ := B; have ⟨r0, rz⟩ := C))
    refine bodyPost_ret (v := .tuple #[.agg #[.slice none 0 0], .int .i64 4]) (by simp [results, Tryd.results99, go_sem, C.set]) rfl ⟨none, 0, 0, rfl, ?_, hW.setCell (by simp; omega) _⟩
    rw [limbs_zero]
    exact fr_nil _ _ _
  · go_enter Tryd.func99, Tryd.ntmps99
    go_wp2_with (first
      | (go_at_call 116; refine (refTwo_new a1 a2 n1 n2 c1 c2 xs ys w _ _ h1 h2 hx hy).mono ?_; rintro e w1 ⟨rfl, hW, A, B, C⟩; have ⟨q0, qz⟩ := A; have ⟨p0, pz⟩ := B)
      | (go_at_call 120; refine (refTimes_any a1 a2 n1 n2 c1 c2 xs ys _ (h1.below hW) (h2.below hW) (by omega) (by omega)).mono ?_; rintro e w2 ⟨ao, k, c, rfl, hF, hb2⟩; have hW2 := next hW hb2; have C2 := C.stay hb2)
      | (go_at_call 117; refine (refFits_any ao k c _ _ hF).mono ?_; rintro e w3 ⟨ao', k', c', rfl, hF3, hb3⟩; rw [val_limbs'] at hF3 ⊢; have hW3 := next hW2 hb3; have C3 := C2.stay hb3; have ⟨r0, rz⟩ := C3; have hlt := C.lt))
    refine bodyPost_ret (v := .tuple #[.agg #[.slice ao' k' c'], .int .i64 (bigE (val xs * val ys))]) (by simp [results, Tryd.results99, go_sem, C3.set]) rfl ⟨ao', k', c', rfl, (hF3.setCell (by simpa using hlt) _).mono hW.size, hW3.setCell (by simp; omega) _⟩

set_option maxRecDepth 100000 in
set_option maxHeartbeats 1600000 in
theorem refSub_any (a1 a2 : Option Addr) (n1 n2 c1 c2 : Nat) (xs ys : List Nat) (w : World) (h1 : Sl w a1 n1 c1 xs) (h2 : Sl w a2 n2 c2 ys) (hx : chk xs = 0) (hy : chk ys = 0) (hv : val ys ≤ val xs) :
    Calls Tryd.prog 97 #[.agg #[.slice a1 n1 c1], .agg #[.slice a2 n2 c2]] w (Subs w (val xs - val ys) true) := by
  have l1 := chk_zero_len hx
  have l2 := chk_zero_len hy
  have e1 := h1.len
  have e2 := h2.len
  have hcm : ¬ cmpN (val xs) (val ys) < 0 := by
    rcases Nat.lt_or_ge (val ys) (val xs) with hh | hh
    · rw [cmpN_gt hh]; decide
    · rw [cmpN_eq (by omega)]; decide
  have hlen : n2 ≤ n1 := by
    rcases Nat.lt_or_ge n1 n2 with hh | hh
    · have := cmp_len h1.ok (fine_of_chk h2.ok hy) (by omega)
      omega
    · exact hh
  generalize hcg : cmpN (val xs) (val ys) = cm at hcm
  go_enter Tryd.func97, Tryd.ntmps97
  go_wp2_with (first
    | (go_at_call 116; refine (refTwo_new a1 a2 n1 n2 c1 c2 xs ys w _ _ h1 h2 hx hy).mono ?_; rintro e w1 ⟨rfl, hW, A, B, C⟩; have ⟨q0, qz⟩ := A; have ⟨p0, pz⟩ := B)
    | (go_at_call 70; refine (refCmpL_any a1 a2 n1 n2 c1 c2 xs ys _ (h1.below hW) (h2.below hW) hx hy).mono ?_; rintro e w2 ⟨rfl, hb2⟩; rw [hcg]; replace A := A.stay hb2; replace B := B.stay hb2; replace C := C.stay hb2; replace hW := next hW hb2; have ⟨q1, qz1⟩ := A; have ⟨p1, pz1⟩ := B)
    | (go_at_call 119; refine (refLess_any a1 a2 n1 n2 c1 c2 xs ys _ (h1.below hW) (h2.below hW) (by omega) hlen hv).mono ?_; rintro e w3 ⟨ao, k, c, rfl, hF, hb3⟩; have hlt := C.lt; have hsz := hW.size; replace C := C.stay hb3; replace hW := next hW hb3)
    | (go_at_call 65; refine (refNat_any _ ao k c rfl _).mono ?_; rintro e w4 ⟨rfl, hb4⟩; replace hW := next hW hb4; replace C := C.stay hb4; replace hF := hF.below hb4; have ⟨r0, rz⟩ := C))
  refine bodyPost_ret (v := .tuple #[.agg #[.slice ao k c], .bool true, .int .i64 0]) (by simp [results, Tryd.results97, go_sem, C.set]) rfl ⟨ao, k, c, rfl, (hF.setCell (by simpa using hlt) _).mono hsz, hW.setCell (by simp; omega) _⟩

set_option maxRecDepth 100000 in
set_option maxHeartbeats 1000000 in
theorem refCmp_any (a1 a2 : Option Addr) (n1 n2 c1 c2 : Nat) (xs ys : List Nat) (w : World) (h1 : Sl w a1 n1 c1 xs) (h2 : Sl w a2 n2 c2 ys) (hx : chk xs = 0) (hy : chk ys = 0) :
    Calls Tryd.prog 96 #[.agg #[.slice a1 n1 c1], .agg #[.slice a2 n2 c2]] w fun e w' => e = .returned (.tuple #[.int .i64 (cmpN (val xs) (val ys)), .int .i64 0]) ∧ Below w.heap.size w w' := by
  go_enter Tryd.func96, Tryd.ntmps96
  go_wp2_with (first
    | (go_at_call 116; refine (refTwo_zero a1 a2 n1 n2 c1 c2 xs ys _ ((h1.alloc _).alloc _) ((h2.alloc _).alloc _) hx hy).mono ?_; rintro e w1 ⟨rfl, hb1⟩; have A := ((box1_new w _ _).alloc _).stay hb1; have B := (box1_new _ _ _).stay hb1; rw [World.size_alloc] at B; have hW := next (more (more (Below.refl _ _) _) _) hb1; have ⟨q0, qz0⟩ := A; have ⟨p0, pz0⟩ := B)
    | (go_at_call 70; refine (refCmpL_any a1 a2 n1 n2 c1 c2 xs ys _ (h1.below hW) (h2.below hW) hx hy).mono ?_; rintro e w2 ⟨rfl, hb2⟩))
  go_ret2
  exact ⟨rfl, next hW hb2⟩

end Go.Proofs.YtnokabglkmiidaaDoor
