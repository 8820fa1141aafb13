/-
  The walks of numeralref02.SameNat and Same; of the laws' own helpers lend, kept, lent, still, small (numerallaw05).
-/

import Derived.Test.YtgdhleiokfaeoaaGreatDoorQNats
import Derived.Test.YtgdhleiokfaeoaaGreatDoorQBooks
import Derived.Deep.Cut
import Derived.Deep.RegionHeld3
namespace Go.Proofs.YtgdhleiokfaeoaaGreatDoor

open Go.RowKit Go.Lb

attribute [local go_sem] Go.World.cell?_alloc_some

theorem take_nth {xs : List Nat} {k : Nat} (h : k < xs.length) : xs.take (k + 1) = xs.take k ++ [nth xs k] := take_succ_getD h

theorem nth_of_eq {xs ys : List Nat} (h : xs = ys) (k : Nat) : nth xs k = nth ys k := by rw [h]

set_option maxHeartbeats 1000000 in
theorem rf2SameNat_any (a1 a2 : Option Addr) (n1 n2 c1 c2 : Nat) (xs ys : List Nat) (w : World) (h1 : Sl w a1 n1 c1 xs) (h2 : Sl w a2 n2 c2 ys) :
    Calls Tryz.prog 21 #[.agg #[.slice a1 n1 c1], .agg #[.slice a2 n2 c2]] w fun e w' => e = .returned (.bool (decide (xs = ys))) ∧ Below w.heap.size w w' := by
  have hl1 := h1.len
  have hl2 := h2.len
  have hle1 := h1.le
  have hcap1 := h1.cap
  have hle2 := h2.le
  have hcap2 := h2.cap
  by_cases hn : n1 = n2
  · subst hn
    have HT : Hid (∀ k, k < n1 → xs.take k = ys.take k → nth xs k = nth ys k → xs.take (k + 1) = ys.take (k + 1)) := Lib.hid (fun k hk h1 h2 => by rw [take_nth (by omega), take_nth (by omega), h1, h2])
    have HE : Hid (xs.take n1 = ys.take n1 → decide (xs = ys) = true) := Lib.hid (fun h => by
      rw [List.take_of_length_le (by omega), List.take_of_length_le (by omega)] at h
      exact decide_eq_true h)
    have HN : Hid (∀ k, nth xs k ≠ nth ys k → decide (xs = ys) = false) := Lib.hid (fun k h => decide_eq_false (fun hh => h (nth_of_eq hh k)))
    clear hl1 hl2
    go_enter Tryz.func21, Tryz.ntmps21
    go_wp2
    go_loopw [5] (fun i wr => ∃ k m : Nat, k ≤ n1 ∧ i = .int .i64 k ∧ xs.take k = ys.take k ∧ wr = ((w.alloc (.cells #[.slice a1 n1 c1] 26)).alloc (.cells #[.slice a2 n1 c2] 26)).drewN m) (fun i _ => n1 - (intOf i).toNat)
    case atStart => exact ⟨0, 0, by omega, rfl, by simp, rfl⟩
    case round =>
      obtain ⟨k, m, hk, rfl, ht, rfl⟩ := hrel
      have HQ := Lib.hid ht
      clear ht
      by_cases hkn : k < n1
      · obtain ⟨b1, o1, rfl, hb1, hc1⟩ := h1.at_ (by omega)
        obtain ⟨b2, o2, rfl, hb2, hc2⟩ := h2.at_ (by omega)
        have k1 := hc1 k hkn
        have k2 := hc2 k hkn
        have hb1' : b1 < w.heap.size + 1 := by omega
        have hb2' : b2 < w.heap.size + 1 := by omega
        have i0 : (0 : Int) ≤ (k : Int) := by omega
        have i1 : (k : Int) < (n1 : Int) := by omega
        clear hc1 hc2
        by_cases he : nth xs k = nth ys k
        · have hR := Lib.hid (HT.out k hkn HQ.out he)
          rw [← he] at k2
          clear he
          go_wp2
          go_quiet (fail)
          go_wp2
          go_roundw
          case rel => exact ⟨k + 1, _, by omega, by go_num, hR.out, rfl⟩
          case measure => simp [intOf]; omega
        · have hR := Lib.hid (HN.out k he)
          have he' : ¬ ((nth xs k : Int) = (nth ys k : Int)) := by omega
          clear he
          go_wp2
          go_quiet (fail)
          go_wp2
          go_ret
          exact ⟨by rw [hR.out]; rfl, drewn (drewn (more (more (Below.refl _ _) _) _) _) _⟩
      · obtain rfl : n1 = k := by omega
        have hR := Lib.hid (HE.out HQ.out)
        go_wp2
        go_ret
        exact ⟨by rw [hR.out]; rfl, drewn (more (more (Below.refl _ _) _) _) _⟩
  · have hR : Hid (decide (xs = ys) = false) := Lib.hid (decide_eq_false (fun h => hn (by rw [← hl1, ← hl2, h])))
    have hn' : ¬ ((n1 : Int) = (n2 : Int)) := by omega
    clear hl1 hl2 hn
    go_enter Tryz.func21, Tryz.ntmps21
    go_wp2
    go_ret
    exact ⟨by rw [hR.out]; rfl, more (more (Below.refl _ _) _) _⟩

theorem u32_info5 : (Tryz.prog.info? 43).map (fun i => (i.zero, i.size, i.bytes)) = some (some (.int .u32 0), 1, 4) := by kernel_rfl

theorem sl_marks2 (w : World) (e : TypeId) : Sl (w.alloc (.cells #[.int .u32 77, .int .u32 78] e)) (some ⟨w.heap.size, 0, none⟩) 2 2 [77, 78] := by
  refine ⟨rfl, by decide, by decide, fun x hx => ?_, fun _ => ⟨_, _, rfl, by simp, fun j hj => ?_⟩⟩
  · simp at hx; omega
  · match j, hj with
    | 0, _ => simp [nth]
    | 1, _ => simp [nth]

/-- What lend hands back: the number's limbs in a row of its own, with marks behind them. -/
def Lend5 (w : World) (xs : List Nat) (n : Nat) (e : Ending) (w' : World) : Prop :=
  ∃ g cap, e = .returned (.agg #[.slice (some ⟨g, 0, none⟩) n cap]) ∧ w'.ownsRow w.heap.size 43 1 (.slice (some ⟨g, 0, none⟩) (n + 2) cap) (n + 2) (lvs (xs ++ [77, 78])) ∧ Below w.heap.size w w'

set_option maxHeartbeats 800000 in
theorem lend5_any (ao : Option Addr) (n c : Nat) (xs : List Nat) (w : World) (h : Sl w ao n c xs) (hn : n + 3 ≤ 35184372088832) :
    Calls Tryz.prog 22 #[.agg #[.slice ao n c]] w (Lend5 w xs n) := by
  obtain ⟨i0, hi0, hz0, hz1, hz2⟩ := info_parts u32_info5
  have hN := World.ownsRow_lit (base := w.heap.size + 2) (e := 43) (size := 1) ((w.alloc (.cells #[.slice ao n c] 26)).alloc (.cells #[.slice none 0 0] 26)) #[] 0 (by simp) (by decide) rfl
  rw [World.size_alloc, World.size_alloc] at hN
  go_enter Tryz.func22, Tryz.ntmps22
  go_wp2_with (first
    | (at_builtin; refine wpList_append_sl _ rfl (.tmp 4) (.tmp 6) _ rfl (w.heap.size + 2) 43 i0 _ Tryz.underlying24 hi0 hz0 hz1 hz2 rfl (.slice (some ⟨w.heap.size + 2, 0, none⟩) 0 0) 0 [] rfl hN ao n c xs rfl (((h.alloc _).alloc _).alloc _) (by omega) (by simp) ?_; intro v1 w1 hown1 hg1 hat1; have hbA := (more (Below.refl _ _) _).grown hg1 (by simp) (by simp [Value.ownBlock]); have hsz1 := hbA.size)
    | (at_builtin; (refine wpList_append_sl _ rfl (.tmp 8) (.tmp 9) _ rfl (w.heap.size + 2) 43 i0 _ Tryz.underlying24 hi0 hz0 hz1 hz2 rfl v1 (0 + n) ([] ++ xs) rfl (hown1.alloc _) (some ⟨w1.heap.size, 0, none⟩) 2 2 [77, 78] rfl (sl_marks2 _ _) (by omega) (by simp at hsz1 ⊢; omega) ?_; intro v2 w2 hown2 hg2 hat2; have hbB := grownOwn (more hbA _) (hown1.alloc _) (by simp) hg2; obtain ⟨hc2, hf2⟩ := bcell hbB; obtain ⟨g, cap, rfl, hgb, hgl⟩ := hown2.form (by omega); obtain ⟨hcp, hcp2⟩ := own_cap hown2; have hcp3 : n ≤ cap := (by omega))))
  have hcell : w2.cell? ⟨w.heap.size + 1, 0, none⟩ = some (.slice none 0 0) := (hc2 _ _ (by simp)).trans (by simp [go_sem])
  refine bodyPost_ret (v := .agg #[.slice (some ⟨g, 0, none⟩) n cap]) (by simp [results, Tryz.results22, go_sem, World.cell?_setCell_same _ _ _ hcell]) rfl ⟨g, cap, rfl, ?_, ?_⟩
  · have := own_mono (base' := w.heap.size) (ownsRow_setCell_below hown2 (a := ⟨w.heap.size + 1, 0, none⟩) (by simp) (.slice (some ⟨g, 0, none⟩) n cap)) (by omega)
    simpa using this
  · exact (next (more (more (Below.refl _ _) _) _) hbB).setCell (by simp) _

set_option maxHeartbeats 1000000 in
theorem kept5_any (g cap : Nat) (ao : Option Addr) (n c base : Nat) (xs : List Nat) (w : World) (h : Sl w ao n c xs)
    (hown : w.ownsRow base 43 1 (.slice (some ⟨g, 0, none⟩) (n + 2) cap) (n + 2) (lvs (xs ++ [77, 78]))) (hn : n ≤ 35184372088832) :
    Calls Tryz.prog 25 #[.agg #[.slice (some ⟨g, 0, none⟩) n cap], .agg #[.slice ao n c]] w fun e w' => e = .returned (.bool true) ∧ Below w.heap.size w w' := by
  have hl := h.len
  obtain ⟨hcp, hcp2⟩ := own_cap hown
  have m0 : w.cell? ⟨g, n, none⟩ = some (.int .u32 77) := by rw [own_cell hown (by omega), nth_app, if_neg (by omega), hl, Nat.sub_self]; rfl
  have m1 : w.cell? ⟨g, n + 1, none⟩ = some (.int .u32 78) := by rw [own_cell hown (by omega), nth_app, if_neg (by omega), hl, show n + 1 - n = 1 by omega]; rfl
  have hS := sl_own hown hl h.ok
  obtain ⟨W2, hW2⟩ : ∃ W2 : World, W2 = (w.alloc (.cells #[.slice (some ⟨g, 0, none⟩) n cap] 26)).alloc (.cells #[.slice ao n c] 26) := ⟨_, rfl⟩
  have hb2 : Below w.heap.size w W2 := hW2 ▸ more (more (Below.refl _ _) _) _
  have d0 : W2.cell? ⟨w.heap.size, 0, none⟩ = some (.slice (some ⟨g, 0, none⟩) n cap) := by rw [hW2]; simp [World.cell?_alloc_some]
  have d1 : W2.cell? ⟨w.heap.size + 1, 0, none⟩ = some (.slice ao n c) := by rw [hW2]; simp
  have hC := rf2SameNat_any _ _ n n cap c xs xs W2 (hS.below hb2) (h.below hb2)
  rw [decide_eq_true rfl] at hC
  have m0' := cellStay m0 hb2
  have m1' := cellStay m1 hb2
  clear hown hS m0 m1 hl
  go_enter Tryz.func25, Tryz.ntmps25
  go_wp2_with fail
  rw [← hW2]
  clear hW2
  refine hC.mono ?_
  rintro en w3 ⟨rfl, hb3⟩
  have e0 := cellStay d0 hb3
  have e1 := cellStay d1 hb3
  have k0 := cellStay m0' hb3
  have k1 := cellStay m1' hb3
  clear d0 d1 m0' m1' hC
  have i0 : (0 : Int) ≤ (n : Int) := by omega
  have i1 : (n : Int) < (n : Int) + 2 := by omega
  have i2 : (n : Int) + 1 < (n : Int) + 2 := by omega
  go_wp2
  go_ret
  exact ⟨rfl, next hb2 hb3⟩

/-- What lent hands back: both numbers in rows of their own. -/
def Lent5 (w : World) (s : Bool) (xs ys : List Nat) (n1 n2 : Nat) (e : Ending) (w' : World) : Prop :=
  ∃ g1 p1 g2 p2, e = .returned (.agg #[.bool s, .slice (some ⟨g1, 0, none⟩) n1 p1, .slice (some ⟨g2, 0, none⟩) n2 p2]) ∧
    w'.ownsRow w.heap.size 43 1 (.slice (some ⟨g1, 0, none⟩) (n1 + 2) p1) (n1 + 2) (lvs (xs ++ [77, 78])) ∧ w'.ownsRow w.heap.size 43 1 (.slice (some ⟨g2, 0, none⟩) (n2 + 2) p2) (n2 + 2) (lvs (ys ++ [77, 78])) ∧ g1 ≠ g2 ∧ Below w.heap.size w w'

set_option maxHeartbeats 1000000 in
theorem lent5_any (s : Bool) (a1 a2 : Option Addr) (n1 n2 c1 c2 : Nat) (xs ys : List Nat) (w : World) (h1 : Sl w a1 n1 c1 xs) (h2 : Sl w a2 n2 c2 ys) (l1 : n1 + 3 ≤ 35184372088832) (l2 : n2 + 3 ≤ 35184372088832) :
    Calls Tryz.prog 13 #[.agg #[.bool s, .slice a1 n1 c1, .slice a2 n2 c2]] w (Lent5 w s xs ys n1 n2) := by
  obtain ⟨W2, hW2⟩ : ∃ W2 : World, W2 = (w.alloc (.cells #[.bool s, .slice a1 n1 c1, .slice a2 n2 c2] 28)).alloc (.cells #[.bool false, .slice none 0 0, .slice none 0 0] 28) := ⟨_, rfl⟩
  have hb2 : Below w.heap.size w W2 := hW2 ▸ more (more (Below.refl _ _) _) _
  have hs2 : W2.heap.size = w.heap.size + 2 := by rw [hW2]; simp
  have D : Box3 W2 w.heap.size (.bool s) (.slice a1 n1 c1) (.slice a2 n2 c2) := hW2 ▸ (box3_new w _ _ _ _).alloc _
  have R : Box3 W2 (w.heap.size + 1) (.bool false) (.slice none 0 0) (.slice none 0 0) := by
    have := box3_new (w.alloc (.cells #[.bool s, .slice a1 n1 c1, .slice a2 n2 c2] 28)) (.bool false) (.slice none 0 0) (.slice none 0 0) 28
    rw [World.size_alloc] at this
    exact hW2 ▸ this
  have c1 := lend5_any a1 n1 c1 xs W2 (h1.below hb2) l1
  have c2 : ∀ W, Below w.heap.size w W → Calls Tryz.prog 22 #[.agg #[.slice a2 n2 c2]] W (Lend5 W ys n2) := fun W hW => lend5_any a2 n2 c2 ys W (h2.below hW) l2
  have ⟨d0, d1, d2, _, _, _⟩ := D
  go_enter Tryz.func13, Tryz.ntmps13
  go_wp2_with fail
  rw [← hW2]
  clear hW2
  refine c1.mono ?_
  rintro en w3 ⟨g1, p1, rfl, o1, hb3⟩
  clear d0 d1 d2 c1
  have V4 := more (next hb2 hb3) (.cells #[.slice (some ⟨g1, 0, none⟩) n1 p1] 26)
  have D4 := (D.stay hb3).alloc (.cells #[.slice (some ⟨g1, 0, none⟩) n1 p1] 26)
  have R4 := (R.stay hb3).alloc (.cells #[.slice (some ⟨g1, 0, none⟩) n1 p1] 26)
  have N4 := box1_new w3 (.slice (some ⟨g1, 0, none⟩) n1 p1) 26
  have o4 := own_keep o1 (more (Below.refl _ _) (.cells #[.slice (some ⟨g1, 0, none⟩) n1 p1] 26))
  have s3 := hb3.size
  have l4 := o4.lt g1 rfl
  clear D R hb3 o1
  go_upto_region 2 with fail
  obtain ⟨q3, hq3⟩ : ∃ q3, q3 = w3.heap.size := ⟨_, rfl⟩
  rw [← hq3] at N4 s3 ⊢
  clear hq3
  generalize w3.alloc (.cells #[.slice (some ⟨g1, 0, none⟩) n1 p1] 26) = w4 at V4 D4 R4 N4 o4 l4 ⊢
  have d2 := D4.c2
  go_wp2_with fail
  refine (c2 w4 V4).mono ?_
  rintro en w5 ⟨g2, p2, rfl, o2, hb5⟩
  clear d2 c2
  have V6 := more (next V4 hb5) (.cells #[.slice (some ⟨g2, 0, none⟩) n2 p2] 26)
  have D6 := (D4.stay hb5).alloc (.cells #[.slice (some ⟨g2, 0, none⟩) n2 p2] 26)
  have R6 := (R4.stay hb5).alloc (.cells #[.slice (some ⟨g2, 0, none⟩) n2 p2] 26)
  have N6 := (N4.stay hb5).alloc (.cells #[.slice (some ⟨g2, 0, none⟩) n2 p2] 26)
  have M6 := box1_new w5 (.slice (some ⟨g2, 0, none⟩) n2 p2) 26
  have o6 := own_keep o4 (more hb5 (.cells #[.slice (some ⟨g2, 0, none⟩) n2 p2] 26))
  have o7 := own_keep o2 (more (Below.refl _ _) (.cells #[.slice (some ⟨g2, 0, none⟩) n2 p2] 26))
  have s5 := hb5.size
  have l7 := o7.lt g2 rfl
  have s4 := D4.lt
  clear hb5 o2 o4
  go_upto_region 3 with fail
  obtain ⟨q5, hq5⟩ : ∃ q5, q5 = w5.heap.size := ⟨_, rfl⟩
  rw [← hq5] at M6 s5 ⊢
  clear hq5
  generalize w5.alloc (.cells #[.slice (some ⟨g2, 0, none⟩) n2 p2] 26) = w6 at V6 D6 R6 N6 M6 o6 o7 l7 ⊢
  have d0 := D6.c0
  have n0 := N6.c0
  have m0 := M6.c0
  have ⟨r0, r1, r2, y0, y1, y2⟩ := R6
  go_wp2
  obtain ⟨t0, t1, t2⟩ := R6.set (.bool s) (.slice (some ⟨g1, 0, none⟩) n1 p1) (.slice (some ⟨g2, 0, none⟩) n2 p2)
  refine bodyPost_ret (v := .agg #[.bool s, .slice (some ⟨g1, 0, none⟩) n1 p1, .slice (some ⟨g2, 0, none⟩) n2 p2]) (by simp [results, Tryz.results13, go_sem, t0, t1, t2]) rfl ⟨g1, p1, g2, p2, rfl, ?_, ?_, by omega, ((V6.setCell (by simp) _).setCell (by simp) _).setCell (by simp) _⟩
  · exact own_mono (ownsRow_setCell_below (ownsRow_setCell_below (ownsRow_setCell_below o6 (by simp; omega) _) (by simp; omega) _) (by simp; omega) _) (by omega)
  · exact own_mono (ownsRow_setCell_below (ownsRow_setCell_below (ownsRow_setCell_below o7 (by simp; omega) _) (by simp; omega) _) (by simp; omega) _) (by omega)

set_option maxHeartbeats 1000000 in
theorem still5_any (s : Bool) (g1 p1 g2 p2 : Nat) (a1 a2 : Option Addr) (n1 n2 c1 c2 base : Nat) (xs ys : List Nat) (w : World) (h1 : Sl w a1 n1 c1 xs) (h2 : Sl w a2 n2 c2 ys)
    (o1 : w.ownsRow base 43 1 (.slice (some ⟨g1, 0, none⟩) (n1 + 2) p1) (n1 + 2) (lvs (xs ++ [77, 78]))) (o2 : w.ownsRow base 43 1 (.slice (some ⟨g2, 0, none⟩) (n2 + 2) p2) (n2 + 2) (lvs (ys ++ [77, 78]))) (l1 : n1 ≤ 35184372088832) (l2 : n2 ≤ 35184372088832) :
    Calls Tryz.prog 16 #[.agg #[.bool s, .slice (some ⟨g1, 0, none⟩) n1 p1, .slice (some ⟨g2, 0, none⟩) n2 p2], .agg #[.bool s, .slice a1 n1 c1, .slice a2 n2 c2]] w fun e w' => e = .returned (.bool true) ∧ Below w.heap.size w w' := by
  obtain ⟨W2, hW2⟩ : ∃ W2 : World, W2 = (w.alloc (.cells #[.bool s, .slice (some ⟨g1, 0, none⟩) n1 p1, .slice (some ⟨g2, 0, none⟩) n2 p2] 28)).alloc (.cells #[.bool s, .slice a1 n1 c1, .slice a2 n2 c2] 28) := ⟨_, rfl⟩
  have hb2 : Below w.heap.size w W2 := hW2 ▸ more (more (Below.refl _ _) _) _
  have D : Box3 W2 w.heap.size (.bool s) (.slice (some ⟨g1, 0, none⟩) n1 p1) (.slice (some ⟨g2, 0, none⟩) n2 p2) := hW2 ▸ (box3_new w _ _ _ _).alloc _
  have R : Box3 W2 (w.heap.size + 1) (.bool s) (.slice a1 n1 c1) (.slice a2 n2 c2) := by
    have := box3_new (w.alloc (.cells #[.bool s, .slice (some ⟨g1, 0, none⟩) n1 p1, .slice (some ⟨g2, 0, none⟩) n2 p2] 28)) (.bool s) (.slice a1 n1 c1) (.slice a2 n2 c2) 28
    rw [World.size_alloc] at this
    exact hW2 ▸ this
  have k1 := kept5_any g1 p1 a1 n1 c1 base xs W2 (h1.below hb2) (own_keep o1 hb2) l1
  have k2 : ∀ W, Below w.heap.size w W → Calls Tryz.prog 25 #[.agg #[.slice (some ⟨g2, 0, none⟩) n2 p2], .agg #[.slice a2 n2 c2]] W fun e w' => e = .returned (.bool true) ∧ Below W.heap.size W w' := fun W hW => kept5_any g2 p2 a2 n2 c2 base ys W (h2.below hW) (own_keep o2 hW) l2
  have ⟨d0, d1, d2, _, _, _⟩ := D
  have ⟨r0, r1, r2, _, _, _⟩ := R
  go_enter Tryz.func16, Tryz.ntmps16
  go_wp2_with fail
  rw [← hW2]
  clear hW2
  refine k1.mono ?_
  rintro en w3 ⟨rfl, hb3⟩
  have D3 := D.stay hb3
  have R3 := R.stay hb3
  have V3 := next hb2 hb3
  clear d0 d1 d2 r0 r1 r2 D R k1
  have ⟨d0, d1, d2, _, _, _⟩ := D3
  have ⟨r0, r1, r2, _, _, _⟩ := R3
  go_wp2_with fail
  with_reducible refine (k2 w3 V3).mono ?_
  rintro en w4 ⟨rfl, hb4⟩
  have ⟨e0, _, _, _, _, _⟩ := D3.stay hb4
  have ⟨f0, _, _, _, _, _⟩ := R3.stay hb4
  clear d0 d1 d2 r0 r1 r2 D3 R3 k2
  go_wp2
  go_ret
  exact ⟨by cases s <;> rfl, next V3 hb4⟩

set_option maxHeartbeats 1000000 in
theorem small5_any (s : Bool) (a1 a2 : Option Addr) (n1 n2 c1 c2 : Nat) (w : World) :
    Calls Tryz.prog 12 #[.agg #[.bool s, .slice a1 n1 c1, .slice a2 n2 c2]] w fun e w' => e = .returned (.bool (decide (n1 ≤ 60 ∧ n2 ≤ 60))) ∧ Below w.heap.size w w' := by
  by_cases h1 : n1 ≤ 60
  · have i1 : (n1 : Int) ≤ 60 := by omega
    by_cases h2 : n2 ≤ 60
    · have i2 : (n2 : Int) ≤ 60 := by omega
      have hR : Hid (decide (n1 ≤ 60 ∧ n2 ≤ 60) = true) := Lib.hid (decide_eq_true ⟨h1, h2⟩)
      generalize decide (n1 ≤ 60 ∧ n2 ≤ 60) = r at hR ⊢
      clear h1 h2
      go_enter Tryz.func12, Tryz.ntmps12
      go_wp2
      go_ret
      exact ⟨by rw [hR.out]; rfl, more (Below.refl _ _) _⟩
    · have i2 : ¬ (n2 : Int) ≤ 60 := by omega
      have hR : Hid (decide (n1 ≤ 60 ∧ n2 ≤ 60) = false) := Lib.hid (decide_eq_false (fun h => h2 h.2))
      generalize decide (n1 ≤ 60 ∧ n2 ≤ 60) = r at hR ⊢
      clear h1 h2
      go_enter Tryz.func12, Tryz.ntmps12
      go_wp2
      go_ret
      exact ⟨by rw [hR.out]; rfl, more (Below.refl _ _) _⟩
  · have i1 : ¬ (n1 : Int) ≤ 60 := by omega
    have hR : Hid (decide (n1 ≤ 60 ∧ n2 ≤ 60) = false) := Lib.hid (decide_eq_false (fun h => h1 h.1))
    generalize decide (n1 ≤ 60 ∧ n2 ≤ 60) = r at hR ⊢
    clear h1
    go_enter Tryz.func12, Tryz.ntmps12
    go_wp2
    go_ret
    exact ⟨by rw [hR.out]; rfl, more (Below.refl _ _) _⟩

end Go.Proofs.YtgdhleiokfaeoaaGreatDoor

