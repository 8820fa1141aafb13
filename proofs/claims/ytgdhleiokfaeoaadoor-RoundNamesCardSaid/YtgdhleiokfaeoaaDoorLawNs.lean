/-
  The walk of the law RoundNames (a closed statement): it answers true.
-/
import Derived.Test.YtgdhleiokfaeoaaDoorAliv5
namespace Go.Proofs.YtgdhleiokfaeoaaDoor
open Go.RowKit Go.Lb

attribute [local go_sem] Go.World.cell?_alloc_some

theorem nsA : scBits 2 1 false (limbs 1) (limbs 2) 0 false 2 = 1 ∧ scErr 2 1 false (limbs 1) (limbs 2) 2 = 0 := by decide +kernel
theorem nsB : scBits 11 52 false (limbs 1) (limbs 2) 0 false 2 = 4602678819172646912 ∧ scErr 11 52 false (limbs 1) (limbs 2) 2 = 0 := by decide +kernel
theorem nsC : scBits 2 52 false (limbs 1) (limbs 2) 0 true 2 = 2251799813685248 ∧ scErr 2 52 false (limbs 1) (limbs 2) 2 = 0 := by decide +kernel
theorem nsM : scFlags 2 1 false (limbs 7) (limbs 8) 0 0 = 1 ∧ scFlags 2 1 false (limbs 7) (limbs 8) 0 2 = 5 := by decide +kernel
theorem nsO : scBits 2 1 true (limbs 7) (limbs 2) 0 false 0 = 14 ∧ scFlags 2 1 true (limbs 7) (limbs 2) 0 0 = 3 ∧ scBits 2 1 true (limbs 7) (limbs 2) 0 false 3 = 13 ∧ scFlags 2 1 true (limbs 7) (limbs 2) 0 3 = 1 := by decide +kernel
theorem nsL : (limbs 1).length = 1 ∧ (limbs 2).length = 1 ∧ (limbs 7).length = 1 ∧ (limbs 8).length = 1 := by decide +kernel

/-- An answer of round's Ratio, its bits and flags and error told. -/
def RtA (b g : Nat) (er : Int) (W : World) (en : Ending) (w' : World) : Prop := en = .returned (.tuple #[.int .u64 (b : Int), .int .u8 (g : Int), .int .i64 er]) ∧ Below W.heap.size W w'

theorem ratio5_any (e f : Int) (s neg : Bool) (m N D : Nat) (zm : Int) (hzm : zm = (m : Int)) (a1 a2 : Option Addr) (n1 n2 c1 c2 : Nat) (w : World) (h1 : Sl w a1 n1 c1 (limbs N)) (h2 : Sl w a2 n2 c2 (limbs D)) (hT : Tab w) (l1 : (limbs N).length = 1) (l2 : (limbs D).length = 1) :
    Calls Tryd.prog 9 #[.agg #[.int .i64 e, .int .i64 f], .agg #[.bool s, .slice a1 n1 c1, .slice a2 n2 c2], .bool neg, .int .u8 zm] w (RtA (scBits e f s (limbs N) (limbs D) 0 neg m) (scFlags e f s (limbs N) (limbs D) 0 m) (scErr e f s (limbs N) (limbs D) m) w) := by
  subst hzm
  exact rdRatio_any a1 a2 n1 n2 c1 c2 m e f s neg (limbs N) (limbs D) w h1 h2 hT (by rw [← h1.len, l1]; decide) (by rw [← h2.len, l2]; decide)

theorem ns_err (e f : Int) (s : Bool) (xs ys : List Nat) (m : Nat) (h : formE e f ≠ 0) : scErr e f s xs ys m = 5 := by unfold scErr; rw [if_pos h]

set_option maxRecDepth 100000 in
set_option maxHeartbeats 8000000 in
theorem roundNames_any (w : World) (hT : Tab w) :
    Calls Tryd.prog 3 #[] w fun en w' => en = .returned (.bool true) ∧ Below w.heap.size w w' := by
  obtain ⟨l1, l2, l7, l8⟩ := nsL
  have hA := alive5_any w hT
  have fr : ∀ W, Below w.heap.size w W → ∀ (s : Bool) (a b : Nat) (za zb : Int), za = (a : Int) → zb = (b : Int) → a ≠ 0 → a < 4294967296 → b ≠ 0 → b < 4294967296 → Nat.gcd a b = 1 → Calls Tryd.prog 8 #[.bool s, .int .u32 za, .int .u32 zb] W (Rtn s a b 0 W) := fun W hW s a b za zb h1 h2 h3 h4 h5 h6 h7 => by
    have := fraction5_any s a b za zb h1 h2 h3 h4 h5 h6 W (hT.below hW)
    rwa [h7, Nat.div_one, Nat.div_one] at this
  have f1 : ∀ W, Below w.heap.size w W → Calls Tryd.prog 8 #[.bool false, .int .u32 1, .int .u32 2] W (Rtn false 1 2 0 W) := fun W hW => fr W hW false 1 2 1 2 rfl rfl (by decide) (by decide) (by decide) (by decide) (by decide)
  have f2 : ∀ W, Below w.heap.size w W → Calls Tryd.prog 8 #[.bool false, .int .u32 7, .int .u32 8] W (Rtn false 7 8 0 W) := fun W hW => fr W hW false 7 8 7 8 rfl rfl (by decide) (by decide) (by decide) (by decide) (by decide)
  have f3 : ∀ W, Below w.heap.size w W → Calls Tryd.prog 8 #[.bool true, .int .u32 7, .int .u32 2] W (Rtn true 7 2 0 W) := fun W hW => fr W hW true 7 2 7 2 rfl rfl (by decide) (by decide) (by decide) (by decide) (by decide)
  have HT := Lib.hid hT
  have HLn := Lib.hid (And.intro l1 (And.intro l2 (And.intro l7 l8)))
  clear fr hT l1 l2 l7 l8
  go_enter Tryd.func3, Tryd.ntmps3
  go_wp2_with fail
  refine hA.mono ?_
  rintro en w1 ⟨rfl, hb1⟩
  go_wp2_with fail
  refine (f1 w1 hb1).mono ?_
  rintro en w2 ⟨a1, n1, p1, a2, n2, p2, rfl, F1, F2, -, hb2⟩
  have V3 := more (next hb1 hb2) (.cells #[.bool false, .slice a1 n1 p1, .slice a2 n2 p2] 27)
  have D3 := box3_new w2 (.bool false) (.slice a1 n1 p1) (.slice a2 n2 p2) 27
  have S1 := F1.sl.alloc (.cells #[.bool false, .slice a1 n1 p1, .slice a2 n2 p2] 27)
  have S2 := F2.sl.alloc (.cells #[.bool false, .slice a1 n1 p1, .slice a2 n2 p2] 27)
  go_upto_region 3 with fail
  obtain ⟨q2, hq2⟩ : ∃ q, q = w2.heap.size := ⟨_, rfl⟩
  rw [← hq2] at D3 ⊢
  clear hq2 F1 F2 hb2 hA hb1 f1
  generalize w2.alloc (.cells #[.bool false, .slice a1 n1 p1, .slice a2 n2 p2] 27) = w3 at V3 D3 S1 S2 ⊢
  obtain ⟨W4, hW4⟩ : ∃ W4 : World, W4 = w3.alloc (.cells #[.int .i64 1, .int .i64 5, .int .i64 12, .int .i64 5, .int .i64 5, .int .i64 0, .int .i64 5, .int .i64 53, .int .i64 0, .int .i64 0, .int .i64 (-5), .int .i64 (-5)] 33) := ⟨_, rfl⟩
  have hb4 : Below w3.heap.size w3 W4 := hW4 ▸ more (Below.refl _ _) _
  have k0 : W4.cell? ⟨w3.heap.size, 0, none⟩ = some (.int .i64 1) := by rw [hW4]; simp
  have k1 : W4.cell? ⟨w3.heap.size, 1, none⟩ = some (.int .i64 5) := by rw [hW4]; simp
  have k2 : W4.cell? ⟨w3.heap.size, 2, none⟩ = some (.int .i64 12) := by rw [hW4]; simp
  have k3 : W4.cell? ⟨w3.heap.size, 3, none⟩ = some (.int .i64 5) := by rw [hW4]; simp
  have k4 : W4.cell? ⟨w3.heap.size, 4, none⟩ = some (.int .i64 5) := by rw [hW4]; simp
  have k5 : W4.cell? ⟨w3.heap.size, 5, none⟩ = some (.int .i64 0) := by rw [hW4]; simp
  have k6 : W4.cell? ⟨w3.heap.size, 6, none⟩ = some (.int .i64 5) := by rw [hW4]; simp
  have k7 : W4.cell? ⟨w3.heap.size, 7, none⟩ = some (.int .i64 53) := by rw [hW4]; simp
  have k8 : W4.cell? ⟨w3.heap.size, 8, none⟩ = some (.int .i64 0) := by rw [hW4]; simp
  have k9 : W4.cell? ⟨w3.heap.size, 9, none⟩ = some (.int .i64 0) := by rw [hW4]; simp
  have k10 : W4.cell? ⟨w3.heap.size, 10, none⟩ = some (.int .i64 (-5)) := by rw [hW4]; simp
  have k11 : W4.cell? ⟨w3.heap.size, 11, none⟩ = some (.int .i64 (-5)) := by rw [hW4]; simp
  have V4 := next V3 hb4
  have D4 := D3.stay hb4
  have U1 := S1.below hb4
  have U2 := S2.below hb4
  have cE : ∀ W e f, Below W4.heap.size W4 W → formE e f ≠ 0 → Calls Tryd.prog 9 #[.agg #[.int .i64 e, .int .i64 f], .agg #[.bool false, .slice a1 n1 p1, .slice a2 n2 p2], .bool false, .int .u8 9] W fun en w' => ∃ b g : Int, en = .returned (.tuple #[.int .u64 b, .int .u8 g, .int .i64 5]) ∧ Below W.heap.size W w' := fun W e f hW hf => by
    have := ratio5_any e f false false 9 1 2 9 rfl a1 a2 n1 n2 p1 p2 W (U1.below hW) (U2.below hW) (HT.out.below (next V4 hW)) HLn.out.1 HLn.out.2.1
    rw [ns_err e f false _ _ 9 hf] at this
    exact this.mono fun _ _ h => ⟨_, _, h.1, h.2⟩
  have HU := Lib.hid (And.intro U1 U2)
  clear S1 S2 D3 hb4 V3 U1 U2
  go_wp2
  rw [← hW4]
  obtain ⟨q3, hq3⟩ : ∃ q, q = w3.heap.size := ⟨_, rfl⟩
  rw [← hq3] at k0 k1 k2 k3 k4 k5 k6 k7 k8 k9 k10 k11 ⊢
  clear hW4 hq3
  go_loopw [47] (fun i wr => ∃ k : Nat, k ≤ 6 ∧ i = .int .i64 k ∧ Below W4.heap.size W4 wr) (fun i _ => 6 - (intOf i).toNat)
  case atStart => exact ⟨0, by omega, rfl, Below.refl _ _⟩
  case round =>
    obtain ⟨k, hk, rfl, hbr⟩ := hrel
    have hkk : k = 0 ∨ k = 1 ∨ k = 2 ∨ k = 3 ∨ k = 4 ∨ k = 5 ∨ k = 6 := by omega
    rcases hkk with rfl | rfl | rfl | rfl | rfl | rfl | rfl
    · have x0 := cellStay k0 hbr
      have x1 := cellStay k1 hbr
      have ⟨d0, d1, d2, _, _, _⟩ := D4.stay hbr
      clear k0 k1 k2 k3 k4 k5 k6 k7 k8 k9 k10 k11
      go_wp2_with fail
      refine (cE _ 1 5 (more hbr _) (by decide)).mono ?_
      rintro en w5 ⟨b, g, rfl, hb5⟩
      go_wp2
      exact ⟨⟨1, by omega, by go_num, next (more hbr _) hb5⟩, by simp [intOf]⟩
    · have x0 := cellStay k2 hbr
      have x1 := cellStay k3 hbr
      have ⟨d0, d1, d2, _, _, _⟩ := D4.stay hbr
      clear k0 k1 k2 k3 k4 k5 k6 k7 k8 k9 k10 k11
      go_wp2_with fail
      refine (cE _ 12 5 (more hbr _) (by decide)).mono ?_
      rintro en w5 ⟨b, g, rfl, hb5⟩
      go_wp2
      exact ⟨⟨2, by omega, by go_num, next (more hbr _) hb5⟩, by simp [intOf]⟩
    · have x0 := cellStay k4 hbr
      have x1 := cellStay k5 hbr
      have ⟨d0, d1, d2, _, _, _⟩ := D4.stay hbr
      clear k0 k1 k2 k3 k4 k5 k6 k7 k8 k9 k10 k11
      go_wp2_with fail
      refine (cE _ 5 0 (more hbr _) (by decide)).mono ?_
      rintro en w5 ⟨b, g, rfl, hb5⟩
      go_wp2
      exact ⟨⟨3, by omega, by go_num, next (more hbr _) hb5⟩, by simp [intOf]⟩
    · have x0 := cellStay k6 hbr
      have x1 := cellStay k7 hbr
      have ⟨d0, d1, d2, _, _, _⟩ := D4.stay hbr
      clear k0 k1 k2 k3 k4 k5 k6 k7 k8 k9 k10 k11
      go_wp2_with fail
      refine (cE _ 5 53 (more hbr _) (by decide)).mono ?_
      rintro en w5 ⟨b, g, rfl, hb5⟩
      go_wp2
      exact ⟨⟨4, by omega, by go_num, next (more hbr _) hb5⟩, by simp [intOf]⟩
    · have x0 := cellStay k8 hbr
      have x1 := cellStay k9 hbr
      have ⟨d0, d1, d2, _, _, _⟩ := D4.stay hbr
      clear k0 k1 k2 k3 k4 k5 k6 k7 k8 k9 k10 k11
      go_wp2_with fail
      refine (cE _ 0 0 (more hbr _) (by decide)).mono ?_
      rintro en w5 ⟨b, g, rfl, hb5⟩
      go_wp2
      exact ⟨⟨5, by omega, by go_num, next (more hbr _) hb5⟩, by simp [intOf]⟩
    · have x0 := cellStay k10 hbr
      have x1 := cellStay k11 hbr
      have ⟨d0, d1, d2, _, _, _⟩ := D4.stay hbr
      clear k0 k1 k2 k3 k4 k5 k6 k7 k8 k9 k10 k11
      go_wp2_with fail
      refine (cE _ (-5) (-5) (more hbr _) (by decide)).mono ?_
      rintro en w5 ⟨b, g, rfl, hb5⟩
      go_wp2
      exact ⟨⟨6, by omega, by go_num, next (more hbr _) hb5⟩, by simp [intOf]⟩
    · have V5 := next V4 hbr
      have D5 := D4.stay hbr
      have S5 := HU.out.1.below hbr
      have T5 := HU.out.2.below hbr
      obtain ⟨A1, A2⟩ := nsA
      obtain ⟨B1, B2⟩ := nsB
      obtain ⟨C1, C2⟩ := nsC
      have cA := ratio5_any 2 1 false false 2 1 2 2 rfl a1 a2 n1 n2 p1 p2 wr S5 T5 (HT.out.below V5) HLn.out.1 HLn.out.2.1
      have cB : ∀ W, Below wr.heap.size wr W → Calls Tryd.prog 9 _ W _ := fun W hW => ratio5_any 11 52 false false 2 1 2 2 rfl a1 a2 n1 n2 p1 p2 W (S5.below hW) (T5.below hW) (HT.out.below (next V5 hW)) HLn.out.1 HLn.out.2.1
      have cC : ∀ W, Below wr.heap.size wr W → Calls Tryd.prog 9 _ W _ := fun W hW => ratio5_any 2 52 false true 2 1 2 2 rfl a1 a2 n1 n2 p1 p2 W (S5.below hW) (T5.below hW) (HT.out.below (next V5 hW)) HLn.out.1 HLn.out.2.1
      rw [A1, A2] at cA
      simp only [B1, B2] at cB
      simp only [C1, C2] at cC
      generalize scFlags 2 1 false (limbs 1) (limbs 2) 0 2 = gA at cA
      generalize scFlags 11 52 false (limbs 1) (limbs 2) 0 2 = gB at cB
      generalize scFlags 2 52 false (limbs 1) (limbs 2) 0 2 = gC at cC
      clear A1 A2 B1 B2 C1 C2 k0 k1 k2 k3 k4 k5 k6 k7 k8 k9 k10 k11 cE HU S5 T5 D4
      have ⟨d0, d1, d2, _, _, _⟩ := D5
      go_wp2_with fail
      with_reducible refine cA.mono ?_
      rintro en w6 ⟨rfl, hb6⟩
      have D6 := D5.stay hb6
      clear d0 d1 d2 cA
      have ⟨d0, d1, d2, _, _, _⟩ := D6
      go_wp2_with fail
      with_reducible refine (cB w6 hb6).mono ?_
      rintro en w7 ⟨rfl, hb7⟩
      have b7 := next hb6 hb7
      have D7 := D6.stay hb7
      clear d0 d1 d2 cB D6
      have ⟨d0, d1, d2, _, _, _⟩ := D7
      go_wp2_with fail
      with_reducible refine (cC w7 b7).mono ?_
      rintro en w8 ⟨rfl, hb8⟩
      have V8 := next V5 (next b7 hb8)
      clear d0 d1 d2 cC D7 D5 b7 hb6 hb7 hb8 V5 hbr V4
      go_wp2_with fail
      refine (f2 w8 V8).mono ?_
      rintro en w9 ⟨a3, n3, p3, a4, n4, p4, rfl, F3, F4, -, hb9⟩
      have V10 := more (next V8 hb9) (.cells #[.bool false, .slice a3 n3 p3, .slice a4 n4 p4] 27)
      have D10 := box3_new w9 (.bool false) (.slice a3 n3 p3) (.slice a4 n4 p4) 27
      have S10 := F3.sl.alloc (.cells #[.bool false, .slice a3 n3 p3, .slice a4 n4 p4] 27)
      have T10 := F4.sl.alloc (.cells #[.bool false, .slice a3 n3 p3, .slice a4 n4 p4] 27)
      go_upto_region 14 with fail
      obtain ⟨q9, hq9⟩ : ∃ q, q = w9.heap.size := ⟨_, rfl⟩
      rw [← hq9] at D10 ⊢
      clear hq9 F3 F4 hb9 V8 f2
      generalize w9.alloc (.cells #[.bool false, .slice a3 n3 p3, .slice a4 n4 p4] 27) = w10 at V10 D10 S10 T10 ⊢
      go_wp2_with fail
      refine (f3 w10 V10).mono ?_
      rintro en w11 ⟨a5, n5, p5, a6, n6, p6, rfl, F5, F6, -, hb11⟩
      have V12 := more (next V10 hb11) (.cells #[.bool true, .slice a5 n5 p5, .slice a6 n6 p6] 27)
      have D12 := (D10.stay hb11).alloc (.cells #[.bool true, .slice a5 n5 p5, .slice a6 n6 p6] 27)
      have E12 := box3_new w11 (.bool true) (.slice a5 n5 p5) (.slice a6 n6 p6) 27
      have S12 := (S10.below hb11).alloc (.cells #[.bool true, .slice a5 n5 p5, .slice a6 n6 p6] 27)
      have T12 := (T10.below hb11).alloc (.cells #[.bool true, .slice a5 n5 p5, .slice a6 n6 p6] 27)
      have P12 := F5.sl.alloc (.cells #[.bool true, .slice a5 n5 p5, .slice a6 n6 p6] 27)
      have Q12 := F6.sl.alloc (.cells #[.bool true, .slice a5 n5 p5, .slice a6 n6 p6] 27)
      go_upto_region 15 with fail
      obtain ⟨q11, hq11⟩ : ∃ q, q = w11.heap.size := ⟨_, rfl⟩
      rw [← hq11] at E12 ⊢
      clear hq11 F5 F6 hb11 V10 f3 D10 S10 T10
      generalize w11.alloc (.cells #[.bool true, .slice a5 n5 p5, .slice a6 n6 p6] 27) = w12 at V12 D12 E12 S12 T12 P12 Q12 ⊢
      obtain ⟨M1, M2⟩ := nsM
      obtain ⟨O1, O2, O3, O4⟩ := nsO
      have cM := ratio5_any 2 1 false false 0 7 8 0 rfl a3 a4 n3 n4 p3 p4 w12 S12 T12 (HT.out.below V12) HLn.out.2.2.1 HLn.out.2.2.2
      have cN : ∀ W, Below w12.heap.size w12 W → Calls Tryd.prog 9 _ W _ := fun W hW => ratio5_any 2 1 false false 2 7 8 2 rfl a3 a4 n3 n4 p3 p4 W (S12.below hW) (T12.below hW) (HT.out.below (next V12 hW)) HLn.out.2.2.1 HLn.out.2.2.2
      have cO : ∀ W, Below w12.heap.size w12 W → Calls Tryd.prog 9 _ W _ := fun W hW => ratio5_any 2 1 true false 0 7 2 0 rfl a5 a6 n5 n6 p5 p6 W (P12.below hW) (Q12.below hW) (HT.out.below (next V12 hW)) HLn.out.2.2.1 HLn.out.2.1
      have cQ : ∀ W, Below w12.heap.size w12 W → Calls Tryd.prog 9 _ W _ := fun W hW => ratio5_any 2 1 true false 3 7 2 3 rfl a5 a6 n5 n6 p5 p6 W (P12.below hW) (Q12.below hW) (HT.out.below (next V12 hW)) HLn.out.2.2.1 HLn.out.2.1
      rw [M1] at cM
      simp only [M2] at cN
      simp only [O1, O2] at cO
      simp only [O3, O4] at cQ
      generalize scBits 2 1 false (limbs 7) (limbs 8) 0 false 0 = bM at cM
      generalize scErr 2 1 false (limbs 7) (limbs 8) 0 = eM at cM
      generalize scBits 2 1 false (limbs 7) (limbs 8) 0 false 2 = bN at cN
      generalize scErr 2 1 false (limbs 7) (limbs 8) 2 = eN at cN
      generalize scErr 2 1 true (limbs 7) (limbs 2) 0 = eO at cO
      generalize scErr 2 1 true (limbs 7) (limbs 2) 3 = eQ at cQ
      clear M1 M2 O1 O2 O3 O4 S12 T12 P12 Q12
      have ⟨d0, d1, d2, _, _, _⟩ := D12
      go_wp2_with fail
      with_reducible refine cM.mono ?_
      rintro en w13 ⟨rfl, hb13⟩
      have D13 := D12.stay hb13
      clear d0 d1 d2 cM
      have ⟨d0, d1, d2, _, _, _⟩ := D13
      go_wp2_with fail
      with_reducible refine (cN w13 hb13).mono ?_
      rintro en w14 ⟨rfl, hb14⟩
      have b14 := next hb13 hb14
      have E14 := E12.stay b14
      clear d0 d1 d2 cN D13 D12
      have ⟨d0, d1, d2, _, _, _⟩ := E14
      go_wp2_with fail
      with_reducible refine (cO w14 b14).mono ?_
      rintro en w15 ⟨rfl, hb15⟩
      have b15 := next b14 hb15
      have E15 := E12.stay b15
      clear d0 d1 d2 cO E14
      have ⟨d0, d1, d2, _, _, _⟩ := E15
      go_wp2_with fail
      with_reducible refine (cQ w15 b15).mono ?_
      rintro en w16 ⟨rfl, hb16⟩
      have V16 := next V12 (next b15 hb16)
      clear d0 d1 d2 cQ E15 E12 b14 b15 hb13 hb14 hb15 hb16
      go_wp2
      go_ret
      exact ⟨by first | rfl | simp, V16⟩

end Go.Proofs.YtgdhleiokfaeoaaDoor
