/-
  The walk of the law RoundWholes: it answers true, whatever it is asked; nothing that was there has turned.
-/

import Derived.Test.YtgdhleiokfaeoaaGreatDoorQHelpA
import Derived.Test.YtgdhleiokfaeoaaGreatDoorQAliv5
import Derived.Test.YtgdhleiokfaeoaaGreatDoorQRvW
import Derived.Deep.LoopGhost
namespace Go.Proofs.YtgdhleiokfaeoaaGreatDoor

open Go.RowKit Go.Lb

attribute [local go_sem] Go.World.cell?_alloc_some

theorem whN_len {xs : List Nat} (hok : Ok xs) (s : Bool) (ys : List Nat) (m : Nat) : (limbs (whN s xs ys m)).length ≤ xs.length + 2 := by
  unfold whN
  split
  · have h3 := rd_le (val xs) (val ys) s m
    have h4 := ln_mono h3
    have h5 := ln_add' (val xs / val ys) 1
    have h6 := ln_div (val xs) (val ys)
    have h7 := ln_one
    have h8 := ln_le (val_lt hok)
    unfold ln at *
    omega
  · rw [limbs_zero]; exact Nat.zero_le _

/-- Which blocks may be written over. -/
def Fre (q1 q2 : Nat) (an : Option Addr) (g : Nat) : Prop := g = q1 ∨ g = q2 ∨ blkOf an = some g

/-- All else is as it was. -/
structure Modd (w w0 wr : World) (q1 q2 : Nat) (an : Option Addr) : Prop where
  size : w0.heap.size ≤ wr.heap.size
  same : ∀ g, g < w0.heap.size → ¬ Fre q1 q2 an g → wr.heap[g]? = w0.heap[g]?
  bel : Below w.heap.size w wr

theorem Modd.cell {w w0 wr : World} {q1 q2 b o : Nat} {an : Option Addr} {v : Value} (h : Modd w w0 wr q1 q2 an) (hc : w0.cell? ⟨b, o, none⟩ = some v) (hP : ¬ Fre q1 q2 an b) : wr.cell? ⟨b, o, none⟩ = some v :=
  (World.cell?_of_block (h.same b (World.block_lt_of_cell? _ ⟨b, o, none⟩ hc) hP)).trans hc

theorem Modd.set {w w0 wr : World} {q1 q2 g i : Nat} {an : Option Addr} (h : Modd w w0 wr q1 q2 an) (hP : Fre q1 q2 an g) (hg : w.heap.size ≤ g) (v : Value) : Modd w w0 (wr.setCell ⟨g, i, none⟩ v) q1 q2 an :=
  ⟨by simpa using h.size, fun g' hl hn => (Below.heap_setCell _ _ _ _ (fun e => hn (by rw [show g' = g from e]; exact hP))).trans (h.same g' hl hn), h.bel.setCell hg v⟩

theorem Modd.app {w w0 wr w' : World} {q1 q2 g : Nat} {an ao : Option Addr} (h : Modd w w0 wr q1 q2 an) (hb : w.heap.size ≤ w0.heap.size) (hP : ∀ g, blkOf ao = some g → (Fre q1 q2 an g ∧ w.heap.size ≤ g) ∨ w0.heap.size ≤ g) (v : Value) (e : TypeId)
    (hor : (ao = some ⟨g, 0, none⟩ ∧ (wr.alloc (.cells #[v] e)).grownBy w' (some g)) ∨ (g = (wr.alloc (.cells #[v] e)).heap.size ∧ (wr.alloc (.cells #[v] e)).grownBy w' none)) :
    Modd w w0 w' q1 q2 an ∧ ((Fre q1 q2 an g ∧ w.heap.size ≤ g) ∨ w0.heap.size ≤ g) := by
  have hs := h.size
  rcases hor with ⟨rfl, hg⟩ | ⟨hge, hg⟩
  · have hp := hP g rfl
    refine ⟨⟨by have := hg.size; simp at this; omega, fun g' hl hn => ?_, (more h.bel _).grown hg (more h.bel (.cells #[v] e)).size (by intro k hk; cases hk; omega)⟩, hp⟩
    have e1 : g' ≠ g := by
      rintro rfl
      rcases hp with h1 | h1
      · exact hn h1.1
      · omega
    rw [hg.block g' (by simp; omega) (fun e => e1 (by cases e; rfl)), Below.heap_alloc _ _ _ (by omega)]
    exact h.same g' hl hn
  · refine ⟨⟨by have := hg.size; simp at this; omega, fun g' hl hn => ?_, (more h.bel _).grown hg (more h.bel (.cells #[v] e)).size (by intro k hk; cases hk)⟩, .inr (by simp at hge; omega)⟩
    rw [hg.block g' (by simp; omega) (fun e => by cases e), Below.heap_alloc _ _ _ (by omega)]
    exact h.same g' hl hn

theorem Modd.fr {w w0 wr : World} {q1 q2 base n c : Nat} {an ao : Option Addr} {xs : List Nat} {e : TypeId} (h : Modd w w0 wr q1 q2 an) (hf : Fr e w0 base ao n c xs) (hP : ∀ g, blkOf ao = some g → ¬ Fre q1 q2 an g) : Fr e wr base ao n c xs :=
  fr_at hf h.size fun g hg hl => h.same g hl (hP g hg)

theorem room_row {w : World} {base g n cap k : Nat} {xs : List Value} (h : w.ownsRow base 43 1 (.slice (some ⟨g, 0, none⟩) (n + k) cap) (n + k) xs) : Room 43 w (some ⟨g, 0, none⟩) n cap := by
  rcases h.2 with ⟨h', _⟩ | ⟨g', cap', cur, h', _, hh, h1, h2, hs, _⟩
  · cases h'
  · cases h'
    unfold maxLen at h2
    exact ⟨by omega, by omega, .inr ⟨g, cur, rfl, hh, by omega⟩⟩

set_option maxRecDepth 100000 in
set_option maxHeartbeats 4000000 in
theorem roundWholes_any (s : Bool) (a1 a2 : Option Addr) (n1 n2 c1 c2 m : Nat) (xs ys : List Nat) (w : World) (h1 : Sl w a1 n1 c1 xs) (h2 : Sl w a2 n2 c2 ys) (hT : Tab w) :
    Calls Tryz.prog 5 #[.agg #[.bool s, .slice a1 n1 c1, .slice a2 n2 c2], .int .u8 (m : Int)] w fun en w' => en = .returned (.bool true) ∧ Below w.heap.size w w' := by
  obtain ⟨i0, hi0, hz0, hz1, hz2⟩ := info_parts u32_info5
  obtain ⟨W2, hW2⟩ : ∃ W2 : World, W2 = w.alloc (.cells #[.bool s, .slice a1 n1 c1, .slice a2 n2 c2] 28) := ⟨_, rfl⟩
  have hb2 : Below w.heap.size w W2 := hW2 ▸ more (Below.refl _ _) _
  have D2 : Box3 W2 w.heap.size (.bool s) (.slice a1 n1 c1) (.slice a2 n2 c2) := hW2 ▸ box3_new w _ _ _ _
  have hA := alive5_any W2 (hT.below hb2)
  have hS := fun W => small5_any s a1 a2 n1 n2 c1 c2 W
  go_enter Tryz.func5, Tryz.ntmps5
  go_wp2_with fail
  rw [← hW2]
  clear hW2
  refine hA.mono ?_
  rintro en w3 ⟨rfl, hb3⟩
  have V3 := next hb2 hb3
  have D3 := D2.stay hb3
  clear hA D2 hb3
  have ⟨d0, d1, d2, _, _, _⟩ := D3
  go_wp2_with fail
  refine (hS w3).mono ?_
  rintro en w4 ⟨rfl, hb4⟩
  have V4 := next V3 hb4
  have D4 := D3.stay hb4
  clear hS d0 d1 d2 D3 hb4 V3
  by_cases hfew : n1 ≤ 60 ∧ n2 ≤ 60
  · rw [decide_eq_true hfew]
    have c3 := lent5_any s a1 a2 n1 n2 c1 c2 xs ys w4 (h1.below V4) (h2.below V4) (by omega) (by omega)
    have ⟨d0, d1, d2, _, _, _⟩ := D4
    go_wp2_with fail
    refine c3.mono ?_
    rintro en w5 ⟨q1, p1, q2, p2, rfl, o1, o2, hne, hb5⟩
    have V6 := more (next V4 hb5) (.cells #[.bool s, .slice (some ⟨q1, 0, none⟩) n1 p1, .slice (some ⟨q2, 0, none⟩) n2 p2] 28)
    have D6 := (D4.stay hb5).alloc (.cells #[.bool s, .slice (some ⟨q1, 0, none⟩) n1 p1, .slice (some ⟨q2, 0, none⟩) n2 p2] 28)
    have E6 := box3_new w5 (.bool s) (.slice (some ⟨q1, 0, none⟩) n1 p1) (.slice (some ⟨q2, 0, none⟩) n2 p2) 28
    have r1 := own_keep o1 (more (Below.refl _ _) (.cells #[.bool s, .slice (some ⟨q1, 0, none⟩) n1 p1, .slice (some ⟨q2, 0, none⟩) n2 p2] 28))
    have r2 := own_keep o2 (more (Below.refl _ _) (.cells #[.bool s, .slice (some ⟨q1, 0, none⟩) n1 p1, .slice (some ⟨q2, 0, none⟩) n2 p2] 28))
    have lq1 := (o1.lt q1 rfl)
    have lq2 := (o2.lt q2 rfl)
    have z4 := V4.size
    have z4' := D4.lt
    have z6 : (w5.alloc (.cells #[.bool s, .slice (some ⟨q1, 0, none⟩) n1 p1, .slice (some ⟨q2, 0, none⟩) n2 p2] 28)).heap.size = w5.heap.size + 1 := World.size_alloc _ _
    clear c3 d0 d1 d2 D4 hb5 o1 o2
    go_upto_region 6 with fail
    obtain ⟨q5, hq5⟩ : ∃ q, q = w5.heap.size := ⟨_, rfl⟩
    rw [← hq5] at E6 lq1 lq2 z6 ⊢
    clear hq5
    generalize w5.alloc (.cells #[.bool s, .slice (some ⟨q1, 0, none⟩) n1 p1, .slice (some ⟨q2, 0, none⟩) n2 p2] 28) = w6 at V6 D6 E6 r1 r2 z6 ⊢
    have S1 := sl_own r1 h1.len h1.ok
    have S2 := sl_own r2 h2.len h2.ok
    have c5 : ∀ W, Below w6.heap.size w6 W → Calls Tryz.prog 19 #[.agg #[.bool s, .slice (some ⟨q1, 0, none⟩) n1 p1, .slice (some ⟨q2, 0, none⟩) n2 p2], .int .u8 (m : Int)] W _ := fun W hW => rdWholeP_any _ _ n1 n2 p1 p2 m s xs ys W (S1.below hW) (S2.below hW) (hT.below (next V6 hW))
    have c6 : ∀ W, Below w.heap.size w W → Calls Tryz.prog 20 #[.agg #[.bool s, .slice a1 n1 c1, .slice a2 n2 c2], .int .u8 (m : Int)] W _ := fun W hW => nbWhole5_any a1 a2 n1 n2 c1 c2 m s xs ys W (h1.below hW) (h2.below hW) (hT.below hW)
    have c7 : ∀ W, Below w6.heap.size w6 W → Calls Tryz.prog 16 #[.agg #[.bool s, .slice (some ⟨q1, 0, none⟩) n1 p1, .slice (some ⟨q2, 0, none⟩) n2 p2], .agg #[.bool s, .slice a1 n1 c1, .slice a2 n2 c2]] W fun e w' => e = .returned (.bool true) ∧ Below W.heap.size W w' := fun W hW => still5_any s q1 p1 q2 p2 a1 a2 n1 n2 c1 c2 _ xs ys W (h1.below (next V6 hW)) (h2.below (next V6 hW)) (own_keep r1 hW) (own_keep r2 hW) (by omega) (by omega)
    have hNl := whN_len h1.ok s ys m
    rw [h1.len] at hNl
    generalize whS s xs ys m = bb at *
    generalize whN s xs ys m = nn at *
    generalize whX s xs ys m = bx at *
    generalize whE s xs ys m = er at *
    have k1 := room_row r1
    have k2 := room_row r2
    clear S1 S2 r1 r2 h1 h2 hT
    have ⟨x0, x1, x2, _, _, _⟩ := E6
    go_wp2_with fail
    with_reducible refine (c5 w6 (Below.refl _ _)).mono ?_
    rintro en w7 ⟨an, kn, cn, rfl, Fn, hb7⟩
    have T8 := more hb7 (.cells #[.slice an kn cn] 26)
    have N8 := box1_new w7 (.slice an kn cn) 26
    have F8 := Fn.alloc (.cells #[.slice an kn cn] 26)
    have gn : ∀ g, blkOf an = some g → w6.heap.size ≤ g ∧ g < w7.heap.size := fun g hg => fr_lt Fn hg
    have z7 := hb7.size
    have z8 : (w7.alloc (.cells #[.slice an kn cn] 26)).heap.size = w7.heap.size + 1 := World.size_alloc _ _
    go_upto_region 7 with fail
    obtain ⟨q7, hq7⟩ : ∃ q, q = w7.heap.size := ⟨_, rfl⟩
    rw [← hq7] at N8 gn z7 z8 ⊢
    clear hq7 x0 x1 x2 Fn hb7
    generalize w7.alloc (.cells #[.slice an kn cn] 26) = w8 at T8 N8 F8 z8 ⊢
    have E8 := E6.stay T8
    have ⟨x0, x1, x2, _, _, _⟩ := E8
    go_wp2_with fail
    with_reducible refine (c5 w8 T8).mono ?_
    rintro en w9 ⟨am, km, cm, rfl, Fm, hb9⟩
    have T10 := more (next T8 hb9) (.cells #[.slice am km cm] 26)
    have N10 := (N8.stay hb9).alloc (.cells #[.slice am km cm] 26)
    have M10 := box1_new w9 (.slice am km cm) 26
    have F10 := (F8.below hb9).alloc (.cells #[.slice am km cm] 26)
    have G10 := Fm.alloc (.cells #[.slice am km cm] 26)
    have gm : ∀ g, blkOf am = some g → w8.heap.size ≤ g ∧ g < w9.heap.size := fun g hg => fr_lt Fm hg
    have z9 := hb9.size
    have z10 : (w9.alloc (.cells #[.slice am km cm] 26)).heap.size = w9.heap.size + 1 := World.size_alloc _ _
    go_upto_region 8 with fail
    obtain ⟨q9, hq9⟩ : ∃ q, q = w9.heap.size := ⟨_, rfl⟩
    rw [← hq9] at M10 gm z9 z10 ⊢
    clear hq9 x0 x1 x2 Fm hb9 E8 N8 F8
    generalize w9.alloc (.cells #[.slice am km cm] 26) = w10 at T10 N10 M10 F10 G10 z10 ⊢
    have D10 := D6.stay T10
    have V10 := next V6 T10
    have ⟨x0, x1, x2, _, _, _⟩ := D10
    go_wp2_with fail
    with_reducible refine (c6 w10 V10).mono ?_
    rintro en w11 ⟨aw, kw, cw, rfl, Fw, hb11⟩
    have T12 := more (next T10 hb11) (.cells #[.slice aw kw cw] 26)
    have N12 := (N10.stay hb11).alloc (.cells #[.slice aw kw cw] 26)
    have M12 := (M10.stay hb11).alloc (.cells #[.slice aw kw cw] 26)
    have P12 := box1_new w11 (.slice aw kw cw) 26
    have F12 := (F10.below hb11).alloc (.cells #[.slice aw kw cw] 26)
    have G12 := (G10.below hb11).alloc (.cells #[.slice aw kw cw] 26)
    have H12 := Fw.alloc (.cells #[.slice aw kw cw] 26)
    have gw : ∀ g, blkOf aw = some g → w10.heap.size ≤ g ∧ g < w11.heap.size := fun g hg => fr_lt Fw hg
    have z11 := hb11.size
    have z12 : (w11.alloc (.cells #[.slice aw kw cw] 26)).heap.size = w11.heap.size + 1 := World.size_alloc _ _
    go_upto_region 9 with fail
    obtain ⟨q11, hq11⟩ : ∃ q, q = w11.heap.size := ⟨_, rfl⟩
    rw [← hq11] at P12 gw z11 z12 ⊢
    clear hq11 x0 x1 x2 Fw hb11 N10 M10 F10 G10 D10 V10 c5 c6 T8 T10
    generalize w11.alloc (.cells #[.slice aw kw cw] 26) = w12 at T12 N12 M12 P12 F12 G12 H12 z12 ⊢
    have E12 := E6.stay T12
    have D12 := D6.stay T12
    have V12 := next V6 T12
    have k1' := k1.other (w' := w12) (fun g _ hl => T12.block g hl)
    have k2' := k2.other (w' := w12) (fun g _ hl => T12.block g hl)
    have lenN := F12.sl.len
    have lenM := G12.sl.len
    have lenW := H12.sl.len
    obtain rfl : km = kn := by omega
    obtain rfl : kw = km := by omega
    have ⟨x0, x1, x2, _, _, _⟩ := E12
    have ⟨y0, y1, y2, _, _, _⟩ := D12
    go_wp2_with fail
    with_reducible refine (c7 w12 T12).mono ?_
    rintro en w13 ⟨rfl, hb13⟩
    clear x0 x1 x2 y0 y1 y2 c7
    have N13 := N12.stay hb13
    have M13 := M12.stay hb13
    have P13 := P12.stay hb13
    have F13 := F12.below hb13
    have G13 := G12.below hb13
    have H13 := H12.below hb13
    have n0 := N13.c0
    have m0 := M13.c0
    have p0 := P13.c0
    have s1 := rf2SameNat_any an aw kw kw cn cw _ _ w13 F13.sl H13.sl
    rw [decide_eq_true rfl] at s1
    go_wp2_with fail
    with_reducible refine s1.mono ?_
    rintro en w14 ⟨rfl, hb14⟩
    clear n0 m0 p0 s1
    have m0 := (M13.stay hb14).c0
    have p0 := (P13.stay hb14).c0
    have s2 := rf2SameNat_any am aw kw kw cm cw _ _ w14 (G13.below hb14).sl (H13.below hb14).sl
    rw [decide_eq_true rfl] at s2
    go_wp2_with fail
    with_reducible refine s2.mono ?_
    rintro en w15 ⟨rfl, hb15⟩
    clear m0 p0 s2
    have U15 : Below w12.heap.size w12 w15 := next (next hb13 hb14) hb15
    have E15 := E12.stay U15
    have N15 := N12.stay U15
    have M15 := M12.stay U15
    have P15 := P12.stay U15
    have F15 := F12.below U15
    have G15 := G12.below U15
    have H15 := H12.below U15
    have V15 := next V12 U15
    have R1 := k1'.other (w' := w15) (fun g _ hl => U15.block g hl)
    have R2 := k2'.other (w' := w15) (fun g _ hl => U15.block g hl)
    have RN := F15.room
    have z15 := U15.size
    have md0 : Modd w w15 w15 q1 q2 an := ⟨Nat.le_refl _, fun _ _ _ => rfl, V15⟩
    have nE : ¬ Fre q1 q2 an q5 := by
      rintro (h | h | h)
      · omega
      · omega
      · have := gn _ h; omega
    have nN : ¬ Fre q1 q2 an q7 := by
      rintro (h | h | h)
      · omega
      · omega
      · have := gn _ h; omega
    have nM : ¬ Fre q1 q2 an q9 := by
      rintro (h | h | h)
      · omega
      · omega
      · have := gn _ h; omega
    have nP : ¬ Fre q1 q2 an q11 := by
      rintro (h | h | h)
      · omega
      · omega
      · have := gn _ h; omega
    have nam : ∀ g, blkOf am = some g → ¬ Fre q1 q2 an g := fun g hg => by
      have := gm _ hg
      rintro (h | h | h)
      · omega
      · omega
      · have := gn _ h; omega
    have naw : ∀ g, blkOf aw = some g → ¬ Fre q1 q2 an g := fun g hg => by
      have := gw _ hg
      rintro (h | h | h)
      · omega
      · omega
      · have := gn _ h; omega
    have hgn : ∀ g, blkOf an = some g → w.heap.size ≤ g := fun g hg => by have := gn _ hg; omega
    have hq1 : w.heap.size ≤ q1 := by omega
    have hq2 : w.heap.size ≤ q2 := by omega
    have hwz : w.heap.size ≤ w15.heap.size := V15.size
    have hn60 := hfew.1
    have hn60' := hfew.2
    have hkn : kw ≤ 62 := by omega
    clear E12 N12 M12 P12 F12 G12 H12 D12 V12 k1' k2' k1 k2 N13 M13 P13 F13 G13 H13 hb13 hb14 hb15 U15 T12 E6 D6 V6 z4 z4' z6 z7 z8 z9 z10 z11 z12 z15 lq1 lq2 gn gm gw hne hNl lenM lenW V4 V15 hfew
    go_wp2
    go_loopw [23] (fun i wr => ∃ k : Nat, k ≤ n1 ∧ i = .int .i64 k ∧ Modd w w15 wr q1 q2 an ∧ Room 43 wr (some ⟨q1, 0, none⟩) n1 p1 ∧ Room 43 wr (some ⟨q2, 0, none⟩) n2 p2 ∧ Room 43 wr an kw cn) (fun i _ => n1 - (intOf i).toNat)
    case atStart => exact ⟨0, by omega, rfl, md0, R1, R2, RN⟩
    case round =>
      obtain ⟨k, hk, rfl, md, r1, r2, rn⟩ := hrel
      have e1 := md.cell E15.c1 nE
      by_cases hkn1 : k < n1
      · obtain ⟨u, hu⟩ := r1.cell hkn1
        have hfz := r1.frozen k
        have i1 : (0 : Int) ≤ (k : Int) := by omega
        have i2 : (k : Int) < (n1 : Int) := by omega
        have Nx : Hid (Modd w w15 (wr.setCell ⟨q1, k, none⟩ (.int .u32 5)) q1 q2 an ∧ Room 43 (wr.setCell ⟨q1, k, none⟩ (.int .u32 5)) (some ⟨q1, 0, none⟩) n1 p1 ∧ Room 43 (wr.setCell ⟨q1, k, none⟩ (.int .u32 5)) (some ⟨q2, 0, none⟩) n2 p2 ∧ Room 43 (wr.setCell ⟨q1, k, none⟩ (.int .u32 5)) an kw cn) := Lib.hid ⟨md.set (.inl rfl) hq1 _, r1.set _ _ _, r2.set _ _ _, rn.set _ _ _⟩
        clear md0 R1 R2 RN md r1 r2 rn
        go_wp2
        exact ⟨⟨k + 1, by omega, by go_num, Nx.out⟩, by simp [intOf]; omega⟩
      · obtain rfl : n1 = k := by omega
        have MD := Lib.hid (And.intro md (And.intro r1 (And.intro r2 rn)))
        clear md0 R1 R2 RN md r1 r2 rn
        go_wp2
        go_loopw [24] (fun i wr => ∃ k : Nat, k ≤ n2 ∧ i = .int .i64 k ∧ Modd w w15 wr q1 q2 an ∧ Room 43 wr (some ⟨q2, 0, none⟩) n2 p2 ∧ Room 43 wr an kw cn) (fun i _ => n2 - (intOf i).toNat)
        case atStart => exact ⟨0, by omega, rfl, MD.out.1, MD.out.2.2.1, MD.out.2.2.2⟩
        case round =>
          obtain ⟨k, hk, rfl, md, r2, rn⟩ := hrel
          clear MD e1
          have e2 := md.cell E15.c2 nE
          by_cases hkn2 : k < n2
          · obtain ⟨u, hu⟩ := r2.cell hkn2
            have hfz := r2.frozen k
            have i1 : (0 : Int) ≤ (k : Int) := by omega
            have i2 : (k : Int) < (n2 : Int) := by omega
            have Nx : Hid (Modd w w15 (wr.setCell ⟨q2, k, none⟩ (.int .u32 7)) q1 q2 an ∧ Room 43 (wr.setCell ⟨q2, k, none⟩ (.int .u32 7)) (some ⟨q2, 0, none⟩) n2 p2 ∧ Room 43 (wr.setCell ⟨q2, k, none⟩ (.int .u32 7)) an kw cn) := Lib.hid ⟨md.set (.inr (.inl rfl)) hq2 _, r2.set _ _ _, rn.set _ _ _⟩
            clear md r2 rn
            go_wp2
            exact ⟨⟨k + 1, by omega, by go_num, Nx.out⟩, by simp [intOf]; omega⟩
          · obtain rfl : n2 = k := by omega
            have MD := Lib.hid (And.intro md rn)
            clear md r2 rn
            go_wp2
            go_loopw [25] (fun i wr => ∃ k : Nat, k ≤ kw ∧ i = .int .i64 k ∧ Modd w w15 wr q1 q2 an ∧ Room 43 wr an kw cn) (fun i _ => kw - (intOf i).toNat)
            case atStart => exact ⟨0, by omega, rfl, MD.out.1, MD.out.2⟩
            case round =>
              obtain ⟨k, hk, rfl, md, rn⟩ := hrel
              clear MD e2
              have e3 := md.cell N15.c0 nN
              by_cases hkn3 : k < kw
              · obtain ⟨g, rfl, hgl⟩ := rn.at_ (by omega)
                obtain ⟨u, hu⟩ := rn.cell hkn3
                have hfz := rn.frozen k
                have i1 : (0 : Int) ≤ (k : Int) := by omega
                have i2 : (k : Int) < (kw : Int) := by omega
                have Nx : Hid (Modd w w15 (wr.setCell ⟨g, k, none⟩ (.int .u32 9)) q1 q2 (some ⟨g, 0, none⟩) ∧ Room 43 (wr.setCell ⟨g, k, none⟩ (.int .u32 9)) (some ⟨g, 0, none⟩) kw cn) := Lib.hid ⟨md.set (.inr (.inr rfl)) (hgn g rfl) _, rn.set _ _ _⟩
                clear md rn
                go_wp2
                exact ⟨⟨k + 1, by omega, by go_num, Nx.out⟩, by simp [intOf]; omega⟩
              · obtain rfl : kw = k := by omega
                have MD := Lib.hid (And.intro md rn)
                clear md rn
                go_wp2
                go_loopw [26, 27] (fun l i wr => ∃ (q : Nat) (al : Option Addr) (cl : Nat), q ≤ 20 ∧ i = .int .i64 q ∧ l = .slice al (kw + q) cl ∧ Modd w w15 wr q1 q2 an ∧ Room 43 wr al (kw + q) cl ∧ ∀ g, blkOf al = some g → (Fre q1 q2 an g ∧ w.heap.size ≤ g) ∨ w15.heap.size ≤ g) (fun _ i _ => 20 - (intOf i).toNat)
                case atStart => exact ⟨0, an, cn, by omega, rfl, rfl, MD.out.1, MD.out.2, fun g hg => .inl ⟨.inr (.inr hg), hgn g hg⟩⟩
                case round =>
                  obtain ⟨q, al, cl, hq, rfl, rfl, md, rl, hal⟩ := hrel
                  clear MD e3
                  by_cases hq20 : q < 20
                  · have rl' := rl.other (w' := wr.alloc (.cells #[.int .u32 9] 43)) fun g _ hl => Below.heap_alloc _ _ _ hl
                    have HQ := Lib.hid hq20
                    have i3 : (q : Int) < 20 := by omega
                    go_wp2_with (at_builtin; refine wpList_append_one _ rfl (.tmp 156) (.tmp 157) _ rfl 43 i0 _ Tryz.underlying24 hi0 hz0 hz1 hz2 rfl al (kw + q) cl rfl rl' wr.heap.size 0 1 (.int .u32 9) rfl (by simp) rfl (by omega) ?_; intro g2 c2' w2' hr2 hor2 hold2 hnew2 hgl2)
                    obtain ⟨md2, hg2⟩ := md.app hwz hal _ _ hor2
                    exact ⟨⟨q + 1, _, _, by omega, by go_num, rfl, md2, hr2, fun g hg => by cases hg; exact hg2⟩, by simp [intOf]; omega⟩
                  · obtain rfl : q = 20 := by omega
                    have m0 := md.cell M15.c0 nM
                    have p0 := md.cell P15.c0 nP
                    have s3 := rf2SameNat_any am aw kw kw cm cw _ _ wr (md.fr G15 nam).sl (md.fr H15 naw).sl
                    rw [decide_eq_true rfl] at s3
                    have P15' := md.fr H15 naw
                    have p15 := Lib.hid md.bel
                    have p16 : ∀ W, Below wr.heap.size wr W → W.cell? ⟨q11, 0, none⟩ = some (.slice aw kw cw) := fun W hW => cellStay p0 hW
                    have P16 := Lib.hid p16
                    clear p16 md rl hal P15'
                    go_wp2_with fail
                    with_reducible refine s3.mono ?_
                    rintro en w16 ⟨rfl, hb16⟩
                    have p17 := P16.out w16 hb16
                    clear m0 p0 s3
                    go_wp2
                    go_ret
                    exact ⟨by simp, next p15.out hb16⟩
  · rw [decide_eq_false hfew]
    go_wp2
    go_ret
    exact ⟨rfl, V4⟩

end Go.Proofs.YtgdhleiokfaeoaaGreatDoor

