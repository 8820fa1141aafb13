/-
  The law's own helpers (numerallaw06): half, sameDyadic of two that are the same.
-/
import Derived.Test.YtfjgmpfpadfknaaGreatDoorQbNNearP
set_option maxHeartbeats 4000000
set_option maxRecDepth 100000
namespace Go.Proofs.YtfjgmpfpadfknaaGreatDoor
open Go.RowKit Go.Lb
section
attribute [local go_sem] Go.World.cell?_alloc_some
theorem half06_any (w : World) :
 Calls Tryz.prog 46 #[] w fun en w' => en = .returned (.agg #[.int .i64 5, .int .i64 10]) ∧ Below w.heap.size w w' := by
 go_enter Tryz.func46, Tryz.ntmps46
 have B := box2_new w (.int .i64 0) (.int .i64 0) 23
 have ⟨b0, b1⟩ := B
 go_wp2
 refine bodyPost_ret (v := .agg #[.int .i64 5, .int .i64 10]) (by simp [results, Tryz.results46, go_sem]) rfl ?_
 exact ⟨rfl, more (Below.refl _ _) _⟩
theorem sameDy06_any (s : Bool) (a1 a2 : Option Addr) (n1 n2 c1 c2 : Nat) (x : Int) (xs : List Nat) (w : World) (h1 : Sl w a1 n1 c1 xs) (h2 : Sl w a2 n2 c2 xs) :
 Calls Tryz.prog 22 #[.agg #[.bool s, .slice a1 n1 c1, .int .i64 x], .agg #[.bool s, .slice a2 n2 c2, .int .i64 x]] w fun en w' => en = .returned (.bool true) ∧ Below w.heap.size w w' := by
 obtain rfl : n1 = n2 := by have e1 := h1.len; have e2 := h2.len; omega
 have hW := more (more (Below.refl w.heap.size w) (.cells #[.bool s, .slice a1 n1 c1, .int .i64 x] 41)) (.cells #[.bool s, .slice a2 n1 c2, .int .i64 x] 41)
 have cS := fun W (hb : Below w.heap.size w W) => refSame_eq a1 a2 n1 c1 c2 xs W (h1.below hb) (h2.below hb)
 have A := (box3_new w (.bool s) (.slice a1 n1 c1) (.int .i64 x) 41).alloc (.cells #[.bool s, .slice a2 n1 c2, .int .i64 x] 41)
 have B := box3_new (w.alloc (.cells #[.bool s, .slice a1 n1 c1, .int .i64 x] 41)) (.bool s) (.slice a2 n1 c2) (.int .i64 x) 41
 have ⟨p0, p1, p2, _, _, _⟩ := A
 have ⟨r0, r1, r2, _, _, _⟩ := B
 go_enter Tryz.func22, Tryz.ntmps22
 go_wp2_with (go_at_call 15; refine (cS _ hW).mono ?_; rintro en w1 ⟨rfl, hb1⟩)
 refine bodyPost_ret (v := .bool true) (by simp [results, Tryz.results22, go_sem]) rfl ⟨rfl, next hW hb1⟩
end
section
attribute [local go_sem] Go.World.cell?_alloc_some
theorem u32_info6 : (Tryz.prog.info? 75).map (fun i => (i.zero, i.size, i.bytes)) = some (some (.int .u32 0), 1, 4) := by kernel_rfl
structure Spt (B : Nat) (w0 wr : World) (an : Option Addr) : Prop where
 size : w0.heap.size ≤ wr.heap.size
 same : ∀ g, g < w0.heap.size → blkOf an ≠ some g → wr.heap[g]? = w0.heap[g]?
 bel : Below B w0 wr
theorem Spt.start (B : Nat) (w0 : World) (an : Option Addr) : Spt B w0 w0 an := ⟨Nat.le_refl _, fun _ _ _ => rfl, Below.refl _ _⟩
theorem Spt.cell {B b o : Nat} {w0 wr : World} {an : Option Addr} {v : Value} (h : Spt B w0 wr an) (hc : w0.cell? ⟨b, o, none⟩ = some v) (hP : blkOf an ≠ some b) : wr.cell? ⟨b, o, none⟩ = some v :=
 (World.cell?_of_block (h.same b (World.block_lt_of_cell? _ ⟨b, o, none⟩ hc) hP)).trans hc
theorem Spt.frozen {B b o : Nat} {w0 wr : World} {an : Option Addr} {v : Value} (h : Spt B w0 wr an) (hc : w0.cell? ⟨b, o, none⟩ = some v) (hf : w0.frozen? ⟨b, o, none⟩ = false) (hP : blkOf an ≠ some b) : wr.frozen? ⟨b, o, none⟩ = false :=
 (World.frozen?_of_block (a := ⟨b, o, none⟩) (h.same b (World.block_lt_of_cell? _ ⟨b, o, none⟩ hc) hP)).trans hf
theorem Spt.box3 {B b : Nat} {w0 wr : World} {an : Option Addr} {u v x : Value} (h : Spt B w0 wr an) (hc : Box3 w0 b u v x) (hP : blkOf an ≠ some b) : Box3 wr b u v x :=
 ⟨h.cell hc.c0 hP, h.cell hc.c1 hP, h.cell hc.c2 hP, h.frozen hc.c0 hc.z0 hP, h.frozen hc.c1 hc.z1 hP, h.frozen hc.c2 hc.z2 hP⟩
theorem Spt.set {B g i : Nat} {w0 wr : World} {an : Option Addr} (h : Spt B w0 wr an) (hP : blkOf an = some g) (hg : B ≤ g) (v : Value) : Spt B w0 (wr.setCell ⟨g, i, none⟩ v) an :=
 ⟨by simpa using h.size, fun g' hl hn => (Below.heap_setCell _ _ _ _ (fun e => hn (by rw [show g' = g from e]; exact hP))).trans (h.same g' hl hn), h.bel.setCell hg v⟩
theorem Spt.app {B g : Nat} {w0 wr w' : World} {an ao : Option Addr} (h : Spt B w0 wr an) (hB : B ≤ w0.heap.size) (hP : ∀ g, blkOf ao = some g → (blkOf an = some g ∧ B ≤ g) ∨ w0.heap.size ≤ g) (v : Value) (e : TypeId)
 (hor : (ao = some ⟨g, 0, none⟩ ∧ (wr.alloc (.cells #[v] e)).grownBy w' (some g)) ∨ (g = (wr.alloc (.cells #[v] e)).heap.size ∧ (wr.alloc (.cells #[v] e)).grownBy w' none)) :
 Spt B w0 w' an ∧ ((blkOf an = some g ∧ B ≤ g) ∨ w0.heap.size ≤ g) := by
 have hs := h.size
 rcases hor with ⟨rfl, hg⟩ | ⟨hge, hg⟩
 · have hp := hP g rfl
   refine ⟨⟨by have := hg.size; simp at this; omega, fun g' hl hn => ?_, (h.bel.alloc (Nat.le_trans hB hs) _).grown hg (by simp; omega) (by intro k hk; cases hk; omega)⟩, hp⟩
   have e1 : g' ≠ g := by
    rintro rfl
    rcases hp with h1 | h1
    · exact hn h1.1
    · omega
   rw [hg.block g' (by simp; omega) (fun e => e1 (by cases e; rfl)), Below.heap_alloc _ _ _ (by omega)]
   exact h.same g' hl hn
 · refine ⟨⟨by have := hg.size; simp at this; omega, fun g' hl hn => ?_, (h.bel.alloc (Nat.le_trans hB hs) _).grown hg (by simp; omega) (by intro k hk; cases hk)⟩, .inr (by simp at hge; omega)⟩
   rw [hg.block g' (by simp; omega) (fun e => by cases e), Below.heap_alloc _ _ _ (by omega)]
   exact h.same g' hl hn
theorem Spt.fr {B base n c : Nat} {w0 wr : World} {an ao : Option Addr} {xs : List Nat} {e : TypeId} (h : Spt B w0 wr an) (hf : Fr e w0 base ao n c xs) (hP : ∀ g, blkOf ao = some g → blkOf an ≠ some g) : Fr e wr base ao n c xs :=
 fr_at hf h.size fun g hg hl => h.same g hl (hP g hg)
theorem Spt.tab {B : Nat} {w0 wr : World} {an : Option Addr} (h : Spt B w0 wr an) (hT : Tab w0) (hP : blkOf an ≠ some 1) : Tab wr := fun j hj => h.cell (hT j hj) hP
theorem Spt.behind {B : Nat} {w w1 wr : World} {an : Option Addr} (h : Spt B w1 wr an) (hb : Below w.heap.size w w1) (hB : B ≤ w.heap.size) : Spt B w wr an :=
 ⟨Nat.le_trans hb.size h.size, fun g hl hn => (h.same g (Nat.lt_of_lt_of_le hl hb.size) hn).trans (hb.block g hl), (hb.mono hB).trans h.bel⟩
theorem Spt.go {B : Nat} {w w1 wr : World} {an : Option Addr} (h : Spt B w w1 an) (hb : Below w1.heap.size w1 wr) (hB : B ≤ w.heap.size) : Spt B w wr an :=
 ⟨Nat.le_trans h.size hb.size, fun g hl hn => (hb.block g (Nat.lt_of_lt_of_le hl h.size)).trans (h.same g hl hn), h.bel.trans (hb.mono (Nat.le_trans hB h.size))⟩
theorem spoil6_any (B : Nat) (ao : Option Addr) (n c : Nat) (w : World) (hr : Room 75 w ao n c) (hB : B ≤ w.heap.size) (hg : ∀ g, blkOf ao = some g → B ≤ g) (hn : n ≤ 1000000) :
 Calls Tryz.prog 14 #[.agg #[.slice ao n c]] w fun en w' => en = .returned (.tuple #[]) ∧ Spt B w w' ao := by
 obtain ⟨i0, hi0, hz0, hz1, hz2⟩ := info_parts u32_info6
 obtain ⟨W1, hW1⟩ : ∃ W1 : World, W1 = w.alloc (.cells #[.slice ao n c] 28) := ⟨_, rfl⟩
 have hb1 : Below w.heap.size w W1 := hW1 ▸ more (Below.refl _ _) _
 have a0 : W1.cell? ⟨w.heap.size, 0, none⟩ = some (.slice ao n c) := by rw [hW1]; simp
 have R1 : Room 75 W1 ao n c := hr.other fun g _ hl => hb1.block g hl
 have hne : blkOf ao ≠ some w.heap.size := fun hh => by
  rcases hr.blk with ⟨h1, _⟩ | ⟨g, cur, h1, h2, _⟩
  · rw [h1] at hh; cases hh
  · rw [h1] at hh
    have e1 : g = w.heap.size := by cases hh; rfl
    have := (Array.getElem?_eq_some_iff.1 h2).1
    omega
 have hB1 : B ≤ W1.heap.size := Nat.le_trans hB hb1.size
 have hcap := hr.cap
 have hle := hr.le
 have hfin : ∀ wr, Spt B W1 wr ao → Spt B w wr ao := fun wr h => h.behind hb1 hB
 clear hr
 go_enter Tryz.func14, Tryz.ntmps14
 go_upto_region 1 with fail
 rw [← hW1]
 clear hW1
 go_wp2
 go_loopw [2] (fun i wr => ∃ k : Nat, k ≤ n ∧ i = .int .i64 k ∧ Spt B W1 wr ao ∧ Room 75 wr ao n c) (fun i _ => n - (intOf i).toNat)
 case atStart => exact ⟨0, by omega, rfl, Spt.start _ _ _, R1⟩
 case round =>
  obtain ⟨k, hk, rfl, md, r1⟩ := hrel
  have e1 := md.cell a0 hne
  by_cases hkn : k < n
  · obtain ⟨g, rfl, hgl⟩ := r1.at_ (by omega)
    obtain ⟨u, hu⟩ := r1.cell hkn
    have hfz := r1.frozen k
    have i1 : (0 : Int) ≤ (k : Int) := by omega
    have i2 : (k : Int) < (n : Int) := by omega
    have Nx : Hid (Spt B W1 (wr.setCell ⟨g, k, none⟩ (.int .u32 77)) (some ⟨g, 0, none⟩) ∧ Room 75 (wr.setCell ⟨g, k, none⟩ (.int .u32 77)) (some ⟨g, 0, none⟩) n c) := Lib.hid ⟨md.set rfl (hg g rfl) _, r1.set _ _ _⟩
    clear R1 md r1
    go_wp2
    exact ⟨⟨k + 1, by omega, by go_num, Nx.out⟩, by simp [intOf]; omega⟩
  · obtain rfl : n = k := by omega
    have MD := Lib.hid (And.intro md r1)
    clear R1 md r1
    go_wp2
    go_loopw [3, 4] (fun l i wr => ∃ (q : Nat) (al : Option Addr) (cl : Nat), q ≤ 9 ∧ i = .int .i64 q ∧ l = .slice al (n + q) cl ∧ Spt B W1 wr ao ∧ Room 75 wr al (n + q) cl ∧ ∀ g, blkOf al = some g → (blkOf ao = some g ∧ B ≤ g) ∨ W1.heap.size ≤ g) (fun _ i _ => 9 - (intOf i).toNat)
    case atStart => exact ⟨0, ao, c, by omega, rfl, rfl, MD.out.1, MD.out.2, fun g h => .inl ⟨h, hg g h⟩⟩
    case round =>
     obtain ⟨q, al, cl, hq, rfl, rfl, md, rl, hal⟩ := hrel
     clear MD e1
     by_cases hq9 : q < 9
     · have rl' := rl.other (w' := wr.alloc (.cells #[.int .u32 78] 75)) fun g _ hl => Below.heap_alloc _ _ _ hl
       have i3 : (q : Int) < 9 := by omega
       go_wp2_with (at_builtin; refine wpList_append_one _ rfl (.tmp 22) (.tmp 23) _ rfl 75 i0 _ Tryz.underlying26 hi0 hz0 hz1 hz2 rfl al (n + q) cl rfl rl' wr.heap.size 0 1 (.int .u32 78) rfl (by simp) rfl (by omega) ?_; intro g2 c2' w2' hr2 hor2 hold2 hnew2 hgl2)
       obtain ⟨md2, hg2⟩ := md.app hB1 hal _ _ hor2
       exact ⟨⟨q + 1, _, _, by omega, by go_num, rfl, md2, hr2, fun g hg => by cases hg; exact hg2⟩, by simp [intOf]; omega⟩
     · obtain rfl : q = 9 := by omega
       have i4 : ¬ ((n : Int) + 9 < 9) := by omega
       have md' := Lib.hid md
       clear md rl hal
       go_wp2
       refine bodyPost_end (v := .tuple #[]) (by simp [results, Tryz.results14, go_sem]) rfl ⟨rfl, hfin _ md'.out⟩
end
section
attribute [local go_sem] Go.World.cell?_alloc_some
theorem aw_words : hiB 5 10 32769 = 32768 ∧ hiE 5 10 32769 = 0 ∧ hiE 5 10 31744 = 60 ∧ stE 5 10 31744 64512 = 0 ∧ stD 5 10 31744 64512 = true ∧ stI 5 10 31744 64512 = 63488 := by decide +kernel
theorem aw_reach : fitsE 5 10 0 = 0 ∧ exN 5 10 0 ≠ maskN 5 ∧ sgB 5 10 0 = false ∧ mgN 5 10 0 = 0 ∧ seM 1 false = 1 ∧ rci 0 1 = true ∧ rco 0 1 = false := by decide +kernel
theorem aw_ends : upN (rcI 5 10 0 1).N (rcI 5 10 0 1).x = 0 ∧ upD (rcI 5 10 0 1).x = 1 ∧ upN (rcO 5 10 0 1).N (rcO 5 10 0 1).x = 1 ∧ upD (rcO 5 10 0 1).x = 33554432 := by decide +kernel
theorem aw_limbs : limbs 0 = [] ∧ limbs 1 = [1] ∧ limbs 33554432 = [33554432] := by decide +kernel
theorem aw_ulp : ulD 5 10 31743 = ⟨false, 1, 5, 0⟩ := by
 have h : fnE 5 10 [31743] = 0 ∧ unI 5 10 31743 = 5 := by decide +kernel
 unfold ulD
 rw [if_pos h.1]
 show (⟨false, 1, unI 5 10 31743, 0⟩ : Ds) = _
 rw [h.2]
theorem awake6_any (w : World) (hT : Tab w) :
 Calls Tryz.prog 10 #[] w fun en w' => en = .returned (.bool true) ∧ Below w.heap.size w w' := by
 obtain ⟨u1, u2, u3, u4, u5, u6⟩ := aw_words
 obtain ⟨r1, r2, r3, r4, r5, r6, r7⟩ := aw_reach
 obtain ⟨e1, e2, e3, e4⟩ := aw_ends
 obtain ⟨l0, l1, l2⟩ := aw_limbs
 have cH := fun W => half06_any W
 have cU := fun W => nearUp_any 5 10 32769 W (by decide)
 have cV := fun W => nearUp_any 5 10 31744 W (by decide)
 rw [u1, u2] at cU
 rw [u3] at cV
 have cS := fun W => nearSteps_ok 5 10 31744 64512 W u4 (by decide) (by decide)
 rw [u5, u6] at cS
 have cR := fun W hT => nearReach_ok 5 10 0 1 W r1 r2 (by decide) hT
 rw [r3, r4, r5, r6, r7] at cR
 unfold RchG at cR
 simp only at cR
 unfold Rch at cR
 rw [e1, e2, e3, e4, l0, l1, l2] at cR
 have cL := fun W hT => nearUlp_any 5 10 31743 W (by decide) hT
 rw [aw_ulp] at cL
 unfold Dyn at cL
 simp only at cL
 generalize hiB 5 10 31744 = hb0 at cV
 clear u1 u2 u3 u4 u5 u6 r1 r2 r3 r4 r5 r6 r7 e1 e2 e3 e4 l0 l1 l2
 have b0 := Below.refl w.heap.size w
 go_enter Tryz.func10, Tryz.ntmps10
 go_wp2_with fail
 refine (cH w).mono ?_
 rintro en w1 ⟨rfl, hb1⟩
 have V1 := next b0 hb1
 go_wp2_with fail
 refine (cU w1).mono ?_
 rintro en w2 ⟨rfl, hb2⟩
 have V2 := next V1 hb2
 go_wp2_with fail
 refine (cH w2).mono ?_
 rintro en w3 ⟨rfl, hb3⟩
 have V3 := next V2 hb3
 go_wp2_with fail
 refine (cV w3).mono ?_
 rintro en w4 ⟨rfl, hb4⟩
 have V4 := next V3 hb4
 go_wp2_with fail
 refine (cH w4).mono ?_
 rintro en w5 ⟨rfl, hb5⟩
 have V5 := next V4 hb5
 go_wp2_with fail
 refine (cS w5).mono ?_
 rintro en w6 ⟨rfl, hb6⟩
 have V6 := next V5 hb6
 go_wp2_with fail
 refine (cH w6).mono ?_
 rintro en w7 ⟨rfl, hb7⟩
 have V7 := next V6 hb7
 clear b0 hb1 V1 hb2 V2 hb3 V3 hb4 V4 hb5 V5 hb6 V6 hb7 cU cV cS
 go_wp2_with fail
 refine (cR w7 (hT.below V7)).mono ?_
 rintro en w8 ⟨a1, n1, c1, a2, n2, c2, a3, n3, c3, a4, n4, c4, rfl, F1, F2, F3, F4, _, hb8⟩
 obtain rfl : n1 = 0 := F1.sl.len.symm
 obtain rfl : n3 = 1 := F3.sl.len.symm
 obtain rfl : n4 = 1 := F4.sl.len.symm
 have V8 := next V7 hb8
 obtain ⟨W9, hW9⟩ : ∃ W9 : World, W9 = (w8.alloc (.cells #[.bool false, .slice a1 0 c1, .slice a2 n2 c2] 30)).alloc (.cells #[.bool false, .slice a3 1 c3, .slice a4 1 c4] 30) := ⟨_, rfl⟩
 have hb9 : Below w8.heap.size w8 W9 := hW9 ▸ more (more (Below.refl _ _) _) _
 have V9 := next V8 hb9
 have A9 : Box3 W9 w8.heap.size (.bool false) (.slice a1 0 c1) (.slice a2 n2 c2) := hW9 ▸ (box3_new w8 _ _ _ _).alloc _
 have B9 : Box3 W9 (w8.heap.size + 1) (.bool false) (.slice a3 1 c3) (.slice a4 1 c4) := by
  have := box3_new (w8.alloc (.cells #[.bool false, .slice a1 0 c1, .slice a2 n2 c2] 30)) (.bool false) (.slice a3 1 c3) (.slice a4 1 c4) 30
  rw [World.size_alloc] at this
  exact hW9 ▸ this
 have G4 := F4.below hb9
 go_upto_region 5 with fail
 rw [← hW9]
 clear V7 V8 hb8 hb9 F1 F2 F3 F4 hW9 cR
 go_wp2_with fail
 refine (cH W9).mono ?_
 rintro en wA ⟨rfl, hbA⟩
 have AA := A9.stay hbA
 have BA := B9.stay hbA
 have GA := G4.below hbA
 have VA := next V9 hbA
 clear A9 B9 G4 V9 hbA
 go_wp2_with fail
 refine (cL wA (hT.below VA)).mono ?_
 rintro en wB ⟨d1, dn, dc, rfl, dF, hbB⟩
 have sB := more hbB (.cells #[.bool false, .slice d1 dn dc, .int .i64 5] 41)
 have DB := box3_new wB (.bool false) (.slice d1 dn dc) (.int .i64 5) 41
 have AB := AA.stay sB
 have BB := BA.stay sB
 have GB := GA.below sB
 have VB := next VA sB
 obtain ⟨g4, o4, rfl, _, k9⟩ := GB.sl.at_ (by decide)
 have k0 := k9 0 (by decide)
 rw [Nat.add_zero, show ((nth [33554432] 0 : Nat) : Int) = 33554432 from rfl] at k0
 clear k9
 go_upto_region 6 with fail
 obtain ⟨Db, hDb⟩ : ∃ q, q = wB.heap.size := ⟨_, rfl⟩
 rw [← hDb] at DB ⊢
 clear hDb AA BA GA VA sB dF hbB cL cH
 generalize wB.alloc (.cells #[.bool false, .slice d1 dn dc, .int .i64 5] 41) = wC at *
 have ⟨x0, x1, x2, _, _, _⟩ := AB
 have ⟨y0, y1, y2, _, _, _⟩ := BB
 have ⟨z0, z1, z2, _, _, _⟩ := DB
 go_wp2
 go_ret
 exact ⟨rfl, VB⟩
end
section
attribute [local go_sem] Go.World.cell?_alloc_some
theorem hi_lt (e f b : Nat) : hiN e f b < pw (1 + e + f) := by
 have h1 := mg_lt e f b
 have h2 := pw_pos (e + f)
 rw [pw_one_more]
 unfold hiN
 split <;> omega
theorem lower6_any (e f : Int) (b : Nat) (w : World) (hb : b < 18446744073709551616) :
 Calls Tryz.prog 19 #[.agg #[.int .i64 e, .int .i64 f], .int .u64 (b : Int)] w fun en w' => en = .returned (.tuple #[.int .u64 (loB e f b : Int), .int .i64 (loE e f b)]) ∧ Below w.heap.size w w' := by
 have cF := fun W => refFits3_any e f b W hb
 have A0 := box2_new w (.int .i64 e) (.int .i64 f) 23
 have hW0 := more (Below.refl w.heap.size w) (.cells #[.int .i64 e, .int .i64 f] 23)
 by_cases h0 : fitsE e f b = 0
 · obtain ⟨h1, hp⟩ := fitsE_parts h0
   obtain ⟨q1, q2, q3, q4⟩ := formE_ok h1
   obtain ⟨e, rfl⟩ := Int.eq_ofNat_of_zero_le (by omega : 0 ≤ e)
   obtain ⟨f, rfl⟩ := Int.eq_ofNat_of_zero_le (by omega : 0 ≤ f)
   replace hp : b < pw (1 + e + f) := hp
   have hP := (top63 h1).2
   have hP1 := pw_one_more e f
   have g1 := (fl_bits hp).1
   have hE : loE (e : Int) (f : Int) b = hiE (e : Int) (f : Int) (flN e f b) := if_neg (by simp [h0])
   have hB : loB (e : Int) (f : Int) b = if loE (e : Int) (f : Int) b = 0 then flN e f (hiB (e : Int) (f : Int) (flN e f b)) else 0 := rfl
   rw [h0] at cF
   have cL := fun W => flip6_any e f b W h1 hp
   have cH := fun W => higher6_any (e : Int) (f : Int) (flN e f b) W (by omega)
   have cG := fun W => flip6_any e f (hiN e f (flN e f b)) W h1 (hi_lt _ _ _)
   have hR : hiE (e : Int) (f : Int) (flN e f b) = 0 → hiB (e : Int) (f : Int) (flN e f b) = hiN e f (flN e f b) := fun k => if_pos k
   have hR0 : ¬ hiE (e : Int) (f : Int) (flN e f b) = 0 → hiB (e : Int) (f : Int) (flN e f b) = 0 := fun k => if_neg k
   rw [hE] at hB
   rw [hE]
   generalize loB (e : Int) (f : Int) b = B at *
   clear hE g1 hP hP1 hp h0 h1 q1 q2 q3 q4
   generalize hiB (e : Int) (f : Int) (flN e f b) = R at *
   generalize hiN e f (flN e f b) = H at *
   generalize hiE (e : Int) (f : Int) (flN e f b) = E at *
   generalize flN e f b = L at *
   have HR := Lib.hid hR
   have HR0 := Lib.hid hR0
   have HB := Lib.hid hB
   clear hR hR0 hB
   go_enter Tryz.func19, Tryz.ntmps19
   go_upto_region 1 with fail
   go_wp2_with fail
   refine (cF _).mono ?_
   rintro en w1 ⟨rfl, hb1⟩
   have A1 := A0.stay hb1
   have ⟨a0, a1⟩ := A1
   have hW1 := next hW0 hb1
   clear A0 hW0 hb1 cF
   go_upto_region 4 with fail
   have hbb := Below.refl w1.heap.size w1
   go_region_held3 (fun w' => w'.cell? ⟨w.heap.size, 0, none⟩ = some (.int .i64 (e : Int)) ∧ w'.cell? ⟨w.heap.size, 1, none⟩ = some (.int .i64 (f : Int)) ∧ Below w1.heap.size w1 w')
    ((go_split_ands; refine ⟨?_, ?_, ?_⟩ <;> (first | assumption | exact Below.drew (by assumption) | exact cellStay (by assumption) hbX | exact next (by assumption) hbX | (go_keep; done))))
    (first | (go_at_call 66; (with_reducible refine (cL _).mono ?_); rintro en wX ⟨rfl, hbX⟩) | (go_at_call 17; (with_reducible refine (cH _).mono ?_); rintro en wX ⟨rfl, hbX⟩))
   all_goals go_split_ands
   all_goals
    by_cases k : E = 0
    · obtain rfl := HR.out k
      subst k
      have hB := HB.out
      rw [if_pos rfl] at hB
      subst hB
      clear HR HR0 HB
      go_wp2_with (go_at_call 66; (with_reducible refine (cG _).mono ?_); rintro en wY ⟨rfl, hbY⟩)
      refine bodyPost_ret (v := .tuple #[.int .u64 (flN e f R : Int), .int .i64 0]) (by simp [results, Tryz.results19, go_sem]) rfl ⟨rfl, next (next hW1 (by assumption)) hbY⟩
    · have hB := HB.out
      rw [if_neg k] at hB
      subst hB
      have hBB : (E != 0) = true := by simp [k]
      clear HR HR0 HB
      go_wp2
      refine bodyPost_ret (v := .tuple #[.int .u64 0, .int .i64 E]) (by simp [results, Tryz.results19, go_sem]) rfl ⟨rfl, next hW1 (by assumption)⟩
 · have hE : loE e f b = fitsE e f b := if_pos h0
   have hB : loB e f b = 0 := if_neg (by rw [hE]; exact h0)
   rw [hB, hE]
   have hBB : (fitsE e f b != 0) = true := by simp [h0]
   clear hE hB
   generalize fitsE e f b = E at *
   go_enter Tryz.func19, Tryz.ntmps19
   go_wp2_with (go_at_call 54; refine (cF _).mono ?_; rintro en w1 ⟨rfl, hb1⟩; have hW1 := next hW0 hb1)
   refine bodyPost_ret (v := .tuple #[.int .u64 0, .int .i64 E]) (by simp [results, Tryz.results19, go_sem]) rfl ⟨rfl, hW1⟩
end
end Go.Proofs.YtfjgmpfpadfknaaGreatDoor
