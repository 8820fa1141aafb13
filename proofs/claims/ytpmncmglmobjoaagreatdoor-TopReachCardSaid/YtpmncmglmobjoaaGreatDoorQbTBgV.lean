/-
  Contracts of numeral/big: Int: added, Add, Sub, Mul, QuoRem, Lsh, Rsh, Bit, Uint64, SetUint64, Abs. (Printed by wip/gen/bigY.py.) Contracts of numeral/big: Int: QuoRem, Lsh, Rsh, And, Or, Bit, Uint64, DivMod, Div. (Printed by wip/gen/bigW.py.) Contracts of numeral/big: Int: And, Or, Exp. (Printed by wip/gen/bigV.py.)
-/
import Derived.Test.YtpmncmglmobjoaaGreatDoorQbTBgK
import Derived.Test.YtpmncmglmobjoaaGreatDoorQbTBgI
import Derived.StillTailTactics
import Derived.Deep.DrawnRows
set_option maxHeartbeats 1600000
set_option maxRecDepth 100000
namespace Go.Proofs.YtpmncmglmobjoaaGreatDoor
open Go.RowKit Go.Lb
section
attribute [local go_sem ↓] Go.wp_at_zero Go.wp_at_succ
theorem bgAdded_ffS (b base : Nat) (a1 a2 : Option Addr) (n1 n2 c1 c2 N1 N2 : Nat) (w : World) (hz : Zc w b) (hb : base ≤ w.heap.size) (h1 : Sl w a1 n1 c1 (limbs N1)) (h2 : Sl w a2 n2 c2 (limbs N2)) (hn1 : n1 ≤ 536870912) (hn2 : n2 ≤ 536870912) :
 Calls Tryz.prog 168 #[.pointer (some ⟨b, 0, none⟩), .slice a1 n1 c1, .bool false, .slice a2 n2 c2, .bool false] w (StZ 40 b base (sgv false N1 + sgv false N2) w) := by
 have hbl := hz.lt
 rw [sgv_add false N1 N2, StZ_sgv]
 have hA := bgAddW_any a1 a2 n1 n2 c1 c2 (limbs N1) (limbs N2) w h1 h2 (by omega) (by omega)
 rw [val_limbs', val_limbs'] at hA
 clear h1 h2
 go_enter Tryz.func168, Tryz.ntmps168
 go_wp2_with (first
  | (go_at_call 144; refine hA.mono ?_; rintro e w1 ⟨ao, k, c, rfl, hF, hb1⟩)
  | (go_at_call 94; refine (bgSet_any b false ao k c (N1 + N2) w.heap.size _ (hz.stay hb1) hF).mono ?_; rintro e w2 ⟨rfl, rfl⟩))
 go_ret
 exact ⟨_, _, _, w1, rfl, hb1, hF.mono hb, fr_ne hF hbl, rfl⟩
theorem bgAdded_ftG (b base : Nat) (a1 a2 : Option Addr) (n1 n2 c1 c2 N1 N2 : Nat) (w : World) (hz : Zc w b) (hb : base ≤ w.heap.size) (h1 : Sl w a1 n1 c1 (limbs N1)) (h2 : Sl w a2 n2 c2 (limbs N2)) (hn1 : n1 ≤ 536870912) (_hn2 : n2 ≤ 536870912) (hle : N2 ≤ N1) :
 Calls Tryz.prog 168 #[.pointer (some ⟨b, 0, none⟩), .slice a1 n1 c1, .bool false, .slice a2 n2 c2, .bool true] w (StZ 40 b base (sgv false N1 + sgv true N2) w) := by
 have hbl := hz.lt
 rw [(sgv_sub (by decide) hle).1, StZ_sgv]
 have l1 := h1.len
 have l2 := h2.len
 have hC : Calls Tryz.prog 160 #[.slice a1 n1 c1, .slice a2 n2 c2] w fun e w' => e = .returned (.int .i64 (cmpN N1 N2)) ∧ Below w.heap.size w w' := by
  have := bgCmp_any a1 a2 n1 n2 c1 c2 (limbs N1) (limbs N2) w h1 h2 (fine_limbs _) (fine_limbs _)
  rwa [val_limbs', val_limbs'] at this
 have hm := limbs_mono (A := N1) (B := N2) (by omega)
 rw [l1, l2] at hm
 have hA : ∀ W, Below w.heap.size w W → Calls Tryz.prog 145 #[.slice a1 n1 c1, .slice a2 n2 c2] W (Wd 40 (N1 - N2) W) := fun W hW => by
  have := bgSubW_any a1 a2 n1 n2 c1 c2 (limbs N1) (limbs N2) W (h1.below hW) (h2.below hW) (by omega) hm (by rw [val_limbs', val_limbs']; omega)
  rwa [val_limbs', val_limbs'] at this
 have hc : cmpN N1 N2 ≥ 0 := by unfold cmpN; split <;> (try split) <;> omega
 generalize cmpN N1 N2 = q at *
 clear h1 h2 l1 l2 hm
 go_enter Tryz.func168, Tryz.ntmps168
 go_wp2_with (first
  | (go_at_call 160; refine hC.mono ?_; rintro e w0 ⟨rfl, hb0⟩)
  | (go_at_call 145; refine (hA _ hb0).mono ?_; rintro e w1 ⟨ao, k, c, rfl, hF, hb1⟩)
  | (go_at_call 94; refine (bgSet_any b false ao k c (N1 - N2) w0.heap.size _ ((hz.stay hb0).stay hb1) hF).mono ?_; rintro e w2 ⟨rfl, rfl⟩))
 go_ret
 exact ⟨_, _, _, w1, rfl, next hb0 hb1, hF.mono (Nat.le_trans hb hb0.size), fr_ne hF (Nat.lt_of_lt_of_le hbl hb0.size), rfl⟩
theorem bgAdded_ftL (b base : Nat) (a1 a2 : Option Addr) (n1 n2 c1 c2 N1 N2 : Nat) (w : World) (hz : Zc w b) (hb : base ≤ w.heap.size) (h1 : Sl w a1 n1 c1 (limbs N1)) (h2 : Sl w a2 n2 c2 (limbs N2)) (_hn1 : n1 ≤ 536870912) (hn2 : n2 ≤ 536870912) (hlt : N1 < N2) :
 Calls Tryz.prog 168 #[.pointer (some ⟨b, 0, none⟩), .slice a1 n1 c1, .bool false, .slice a2 n2 c2, .bool true] w (StZ 40 b base (sgv false N1 + sgv true N2) w) := by
 have hbl := hz.lt
 rw [(sgv_sub (s := true) (t := false) (by decide) (Nat.le_of_lt hlt)).2, StZ_sgv]
 have l1 := h1.len
 have l2 := h2.len
 have hC : Calls Tryz.prog 160 #[.slice a1 n1 c1, .slice a2 n2 c2] w fun e w' => e = .returned (.int .i64 (cmpN N1 N2)) ∧ Below w.heap.size w w' := by
  have := bgCmp_any a1 a2 n1 n2 c1 c2 (limbs N1) (limbs N2) w h1 h2 (fine_limbs _) (fine_limbs _)
  rwa [val_limbs', val_limbs'] at this
 have hm := limbs_mono (A := N2) (B := N1) (by omega)
 rw [l1, l2] at hm
 have hA : ∀ W, Below w.heap.size w W → Calls Tryz.prog 145 #[.slice a2 n2 c2, .slice a1 n1 c1] W (Wd 40 (N2 - N1) W) := fun W hW => by
  have := bgSubW_any a2 a1 n2 n1 c2 c1 (limbs N2) (limbs N1) W (h2.below hW) (h1.below hW) (by omega) hm (by rw [val_limbs', val_limbs']; omega)
  rwa [val_limbs', val_limbs'] at this
 have hc : ¬ cmpN N1 N2 ≥ 0 := by unfold cmpN; rw [if_pos hlt]; decide
 generalize cmpN N1 N2 = q at *
 clear h1 h2 l1 l2 hm
 go_enter Tryz.func168, Tryz.ntmps168
 go_wp2_with (first
  | (go_at_call 160; refine hC.mono ?_; rintro e w0 ⟨rfl, hb0⟩)
  | (go_at_call 145; refine (hA _ hb0).mono ?_; rintro e w1 ⟨ao, k, c, rfl, hF, hb1⟩)
  | (go_at_call 94; refine (bgSet_any b true ao k c (N2 - N1) w0.heap.size _ ((hz.stay hb0).stay hb1) hF).mono ?_; rintro e w2 ⟨rfl, rfl⟩))
 go_ret
 exact ⟨_, _, _, w1, rfl, next hb0 hb1, hF.mono (Nat.le_trans hb hb0.size), fr_ne hF (Nat.lt_of_lt_of_le hbl hb0.size), rfl⟩
theorem bgAdded_tfG (b base : Nat) (a1 a2 : Option Addr) (n1 n2 c1 c2 N1 N2 : Nat) (w : World) (hz : Zc w b) (hb : base ≤ w.heap.size) (h1 : Sl w a1 n1 c1 (limbs N1)) (h2 : Sl w a2 n2 c2 (limbs N2)) (hn1 : n1 ≤ 536870912) (_hn2 : n2 ≤ 536870912) (hle : N2 ≤ N1) :
 Calls Tryz.prog 168 #[.pointer (some ⟨b, 0, none⟩), .slice a1 n1 c1, .bool true, .slice a2 n2 c2, .bool false] w (StZ 40 b base (sgv true N1 + sgv false N2) w) := by
 have hbl := hz.lt
 rw [(sgv_sub (by decide) hle).1, StZ_sgv]
 have l1 := h1.len
 have l2 := h2.len
 have hC : Calls Tryz.prog 160 #[.slice a1 n1 c1, .slice a2 n2 c2] w fun e w' => e = .returned (.int .i64 (cmpN N1 N2)) ∧ Below w.heap.size w w' := by
  have := bgCmp_any a1 a2 n1 n2 c1 c2 (limbs N1) (limbs N2) w h1 h2 (fine_limbs _) (fine_limbs _)
  rwa [val_limbs', val_limbs'] at this
 have hm := limbs_mono (A := N1) (B := N2) (by omega)
 rw [l1, l2] at hm
 have hA : ∀ W, Below w.heap.size w W → Calls Tryz.prog 145 #[.slice a1 n1 c1, .slice a2 n2 c2] W (Wd 40 (N1 - N2) W) := fun W hW => by
  have := bgSubW_any a1 a2 n1 n2 c1 c2 (limbs N1) (limbs N2) W (h1.below hW) (h2.below hW) (by omega) hm (by rw [val_limbs', val_limbs']; omega)
  rwa [val_limbs', val_limbs'] at this
 have hc : cmpN N1 N2 ≥ 0 := by unfold cmpN; split <;> (try split) <;> omega
 generalize cmpN N1 N2 = q at *
 clear h1 h2 l1 l2 hm
 go_enter Tryz.func168, Tryz.ntmps168
 go_wp2_with (first
  | (go_at_call 160; refine hC.mono ?_; rintro e w0 ⟨rfl, hb0⟩)
  | (go_at_call 145; refine (hA _ hb0).mono ?_; rintro e w1 ⟨ao, k, c, rfl, hF, hb1⟩)
  | (go_at_call 94; refine (bgSet_any b true ao k c (N1 - N2) w0.heap.size _ ((hz.stay hb0).stay hb1) hF).mono ?_; rintro e w2 ⟨rfl, rfl⟩))
 go_ret
 exact ⟨_, _, _, w1, rfl, next hb0 hb1, hF.mono (Nat.le_trans hb hb0.size), fr_ne hF (Nat.lt_of_lt_of_le hbl hb0.size), rfl⟩
theorem bgAdded_tfL (b base : Nat) (a1 a2 : Option Addr) (n1 n2 c1 c2 N1 N2 : Nat) (w : World) (hz : Zc w b) (hb : base ≤ w.heap.size) (h1 : Sl w a1 n1 c1 (limbs N1)) (h2 : Sl w a2 n2 c2 (limbs N2)) (_hn1 : n1 ≤ 536870912) (hn2 : n2 ≤ 536870912) (hlt : N1 < N2) :
 Calls Tryz.prog 168 #[.pointer (some ⟨b, 0, none⟩), .slice a1 n1 c1, .bool true, .slice a2 n2 c2, .bool false] w (StZ 40 b base (sgv true N1 + sgv false N2) w) := by
 have hbl := hz.lt
 rw [(sgv_sub (s := false) (t := true) (by decide) (Nat.le_of_lt hlt)).2, StZ_sgv]
 have l1 := h1.len
 have l2 := h2.len
 have hC : Calls Tryz.prog 160 #[.slice a1 n1 c1, .slice a2 n2 c2] w fun e w' => e = .returned (.int .i64 (cmpN N1 N2)) ∧ Below w.heap.size w w' := by
  have := bgCmp_any a1 a2 n1 n2 c1 c2 (limbs N1) (limbs N2) w h1 h2 (fine_limbs _) (fine_limbs _)
  rwa [val_limbs', val_limbs'] at this
 have hm := limbs_mono (A := N2) (B := N1) (by omega)
 rw [l1, l2] at hm
 have hA : ∀ W, Below w.heap.size w W → Calls Tryz.prog 145 #[.slice a2 n2 c2, .slice a1 n1 c1] W (Wd 40 (N2 - N1) W) := fun W hW => by
  have := bgSubW_any a2 a1 n2 n1 c2 c1 (limbs N2) (limbs N1) W (h2.below hW) (h1.below hW) (by omega) hm (by rw [val_limbs', val_limbs']; omega)
  rwa [val_limbs', val_limbs'] at this
 have hc : ¬ cmpN N1 N2 ≥ 0 := by unfold cmpN; rw [if_pos hlt]; decide
 generalize cmpN N1 N2 = q at *
 clear h1 h2 l1 l2 hm
 go_enter Tryz.func168, Tryz.ntmps168
 go_wp2_with (first
  | (go_at_call 160; refine hC.mono ?_; rintro e w0 ⟨rfl, hb0⟩)
  | (go_at_call 145; refine (hA _ hb0).mono ?_; rintro e w1 ⟨ao, k, c, rfl, hF, hb1⟩)
  | (go_at_call 94; refine (bgSet_any b false ao k c (N2 - N1) w0.heap.size _ ((hz.stay hb0).stay hb1) hF).mono ?_; rintro e w2 ⟨rfl, rfl⟩))
 go_ret
 exact ⟨_, _, _, w1, rfl, next hb0 hb1, hF.mono (Nat.le_trans hb hb0.size), fr_ne hF (Nat.lt_of_lt_of_le hbl hb0.size), rfl⟩
theorem bgAdded_ttS (b base : Nat) (a1 a2 : Option Addr) (n1 n2 c1 c2 N1 N2 : Nat) (w : World) (hz : Zc w b) (hb : base ≤ w.heap.size) (h1 : Sl w a1 n1 c1 (limbs N1)) (h2 : Sl w a2 n2 c2 (limbs N2)) (hn1 : n1 ≤ 536870912) (hn2 : n2 ≤ 536870912) :
 Calls Tryz.prog 168 #[.pointer (some ⟨b, 0, none⟩), .slice a1 n1 c1, .bool true, .slice a2 n2 c2, .bool true] w (StZ 40 b base (sgv true N1 + sgv true N2) w) := by
 have hbl := hz.lt
 rw [sgv_add true N1 N2, StZ_sgv]
 have hA := bgAddW_any a1 a2 n1 n2 c1 c2 (limbs N1) (limbs N2) w h1 h2 (by omega) (by omega)
 rw [val_limbs', val_limbs'] at hA
 clear h1 h2
 go_enter Tryz.func168, Tryz.ntmps168
 go_wp2_with (first
  | (go_at_call 144; refine hA.mono ?_; rintro e w1 ⟨ao, k, c, rfl, hF, hb1⟩)
  | (go_at_call 94; refine (bgSet_any b true ao k c (N1 + N2) w.heap.size _ (hz.stay hb1) hF).mono ?_; rintro e w2 ⟨rfl, rfl⟩))
 go_ret
 exact ⟨_, _, _, w1, rfl, hb1, hF.mono hb, fr_ne hF hbl, rfl⟩
theorem bgAdded_any (b base : Nat) (s1 s2 : Bool) (a1 a2 : Option Addr) (n1 n2 c1 c2 N1 N2 : Nat) (w : World) (hz : Zc w b) (hb : base ≤ w.heap.size) (h1 : Sl w a1 n1 c1 (limbs N1)) (h2 : Sl w a2 n2 c2 (limbs N2)) (hn1 : n1 ≤ 536870912) (hn2 : n2 ≤ 536870912) :
 Calls Tryz.prog 168 #[.pointer (some ⟨b, 0, none⟩), .slice a1 n1 c1, .bool s1, .slice a2 n2 c2, .bool s2] w (StZ 40 b base (sgv s1 N1 + sgv s2 N2) w) := by
 cases s1 <;> cases s2
 · exact bgAdded_ffS b base a1 a2 n1 n2 c1 c2 N1 N2 w hz hb h1 h2 hn1 hn2
 · rcases Nat.lt_or_ge N1 N2 with h | h
   · exact bgAdded_ftL b base a1 a2 n1 n2 c1 c2 N1 N2 w hz hb h1 h2 hn1 hn2 h
   · exact bgAdded_ftG b base a1 a2 n1 n2 c1 c2 N1 N2 w hz hb h1 h2 hn1 hn2 h
 · rcases Nat.lt_or_ge N1 N2 with h | h
   · exact bgAdded_tfL b base a1 a2 n1 n2 c1 c2 N1 N2 w hz hb h1 h2 hn1 hn2 h
   · exact bgAdded_tfG b base a1 a2 n1 n2 c1 c2 N1 N2 w hz hb h1 h2 hn1 hn2 h
 · exact bgAdded_ttS b base a1 a2 n1 n2 c1 c2 N1 N2 w hz hb h1 h2 hn1 hn2
theorem bgIAdd_any (b base B1 B2 b1 b2 : Nat) (x y : Int) (w : World) (hz : Zc w b) (hb : base ≤ w.heap.size) (h1 : Iz 40 w B1 b1 x) (h2 : Iz 40 w B2 b2 y) (l1 : ln x.natAbs ≤ 536870912) (l2 : ln y.natAbs ≤ 536870912) :
 Calls Tryz.prog 135 #[.pointer (some ⟨b, 0, none⟩), .pointer (some ⟨b1, 0, none⟩), .pointer (some ⟨b2, 0, none⟩)] w (StZ 40 b base (x + y) w) := by
 obtain ⟨a1, n1, c1, h1⟩ := h1
 obtain ⟨a2, n2, c2, h2⟩ := h2
 have hC := bgAdded_any b base (decide (x < 0)) (decide (y < 0)) a1 a2 n1 n2 c1 c2 x.natAbs y.natAbs w.drew (hz.stay (Below.refl _ _).drew) hb (h1.stay (Below.refl _ _).drew).fr.sl (h2.stay (Below.refl _ _).drew).fr.sl (by rw [h1.len]; exact l1) (by rw [h2.len]; exact l2)
 rw [sgv_of, sgv_of] at hC
 obtain ⟨d0, d1, _, _, _, _, _⟩ := h1
 obtain ⟨e0, e1, _, _, _, _, _⟩ := h2
 clear l1 l2
 go_enter Tryz.func135, Tryz.ntmps135
 go_wp2
 go_still_tail 17, (by kernel_rfl)
 change wpList _ _ _ _ _ w.drew
 generalize hw2 : w.drew = w2 at hC
 go_wp2_with (go_at_call 168; refine hC.mono ?_; rintro e w1 hS; obtain ⟨ao, k, c, w3, rfl, hb1, hF, hne, rfl⟩ := hS)
 go_ret
 exact ⟨ao, k, c, w3, rfl, undrew (by rw [hw2]; exact hb1), hF, hne, rfl⟩
theorem bgIMul_any (b base B1 B2 b1 b2 : Nat) (x y : Int) (w : World) (hz : Zc w b) (hb : base ≤ w.heap.size) (h1 : Iz 40 w B1 b1 x) (h2 : Iz 40 w B2 b2 y) (l1 : ln x.natAbs ≤ 536870912) (l2 : ln y.natAbs ≤ 536870912) :
 Calls Tryz.prog 52 #[.pointer (some ⟨b, 0, none⟩), .pointer (some ⟨b1, 0, none⟩), .pointer (some ⟨b2, 0, none⟩)] w (StZ 40 b base (x * y) w) := by
 have hbl := hz.lt
 obtain ⟨a1, n1, c1, h1⟩ := h1
 obtain ⟨a2, n2, c2, h2⟩ := h2
 have hM : ∀ W, Below w.heap.size w W → Calls Tryz.prog 95 #[.slice a1 n1 c1, .slice a2 n2 c2] W (Wd 40 (x.natAbs * y.natAbs) W) := fun W hW => by
  have := bgMulW_any a1 a2 n1 n2 c1 c2 _ _ W (h1.stay hW).fr.sl (h2.stay hW).fr.sl (by rw [h1.len]; exact l1) (by rw [h2.len]; exact l2)
  rwa [val_limbs', val_limbs'] at this
 have hS := Lib.hid (sgn_mul x y)
 obtain ⟨d0, d1, _, _, _, _, _⟩ := h1
 obtain ⟨e0, e1, _, _, _, _, _⟩ := h2
 generalize decide (x < 0) = s1 at *
 generalize decide (y < 0) = s2 at *
 generalize x.natAbs * y.natAbs = M at *
 clear l1 l2
 go_enter Tryz.func52, Tryz.ntmps52
 go_wp2
 go_region_with (first
  | (go_at_call 95; (with_reducible refine (hM _ ?_).mono ?_); (exact (Below.refl _ _).drew); rintro e w1 ⟨ao, k, c, rfl, hF, hb1⟩; replace hb1 := undrew hb1; have f0 := cellStay d0 hb1; have f2 := cellStay e0 hb1)
  | (go_at_call 94; (with_reducible refine (bgSet_any b (!(s1 == s2)) ao k c M _ _ (hz.stay hb1) hF).mono ?_); rintro e w2 ⟨rfl, rfl⟩))
 all_goals go_wp2
 all_goals go_ret
 all_goals (unfold StZ; rw [← hS.out.1, ← hS.out.2]; exact ⟨_, _, _, w1, rfl, hb1, hF.mono hb, fr_ne hF hbl, rfl⟩)
end
section
attribute [local go_sem ↓] Go.wp_at_zero Go.wp_at_succ
theorem bgQuoRem_any (b br B1 B2 b1 b2 : Nat) (x y : Int) (w : World) (hz : Zc w b) (hr : Zc w br) (ne : br ≠ b) (h1 : Iz 40 w B1 b1 x) (h2 : Iz 40 w B2 b2 y) (hy : y ≠ 0) (l1 : ln x.natAbs ≤ 1073741824) :
 Calls Tryz.prog 169 #[.pointer (some ⟨b, 0, none⟩), .pointer (some ⟨b1, 0, none⟩), .pointer (some ⟨b2, 0, none⟩), .pointer (some ⟨br, 0, none⟩)] w (QrZ 40 b br (x.tdiv y) (x.tmod y) w) := by
 obtain ⟨a1, n1, c1, h1⟩ := h1
 obtain ⟨a2, n2, c2, h2⟩ := h2
 have hrl := hr.lt
 have hD : ∀ W, Below w.heap.size w W → Calls Tryz.prog 164 #[.slice a1 n1 c1, .slice a2 n2 c2] W (fun e w' => ∃ aq kq cq ar kr cr, e = .returned (.tuple #[.slice aq kq cq, .slice ar kr cr]) ∧ Fr 40 w' W.heap.size aq kq cq (limbs (x.natAbs / y.natAbs)) ∧ Fr 40 w' W.heap.size ar kr cr (limbs (x.natAbs % y.natAbs)) ∧ Below W.heap.size W w') := fun W hW => by
  have := bgDiv_any a1 a2 n1 n2 c1 c2 _ _ W (h1.stay hW).fr.sl (h2.stay hW).fr.sl (fine_limbs _) (fine_limbs _) (by rw [h1.len]; exact l1) (by rw [val_limbs']; omega)
  rw [val_limbs', val_limbs'] at this
  exact this
 have hS := Lib.hid (sgn_quo x y)
 obtain ⟨d0, d1, _, _, _, _, _⟩ := h1
 obtain ⟨e0, e1, _, _, _, _, _⟩ := h2
 generalize decide (x < 0) = s1 at *
 generalize decide (y < 0) = s2 at *
 generalize x.natAbs / y.natAbs = Q at *
 generalize x.natAbs % y.natAbs = R at *
 clear l1 hy
 go_enter Tryz.func169, Tryz.ntmps169
 go_wp2
 go_quiet (fail)
 go_wp2
 go_region_with (go_at_call 164; (with_reducible refine (hD _ ?_).mono ?_); (first | exact Below.refl _ _ | exact Below.drew (Below.refl _ _) | exact drewn (Below.refl _ _) _ | exact (drewn (Below.refl _ _) _).drew); rintro e w1 ⟨aq, kq, cq, ar, kr, cr, rfl, hFq, hFr, hb1⟩; have hbw : Below w.heap.size w w1 := (by first | exact hb1 | exact undrew hb1 | exact next (drewn (Below.refl _ _) _) hb1 | exact next (drewn (Below.refl _ _) _).drew hb1))
 all_goals
  go_wp2_with fail
  refine (bgSet_any br s1 ar kr cr R _ _ (hr.stay hbw) hFr).mono ?_
  rintro e w2 ⟨rfl, rfl⟩
  go_wp2_with fail
  refine (bgSet_any b (!(s1 == s2)) aq kq cq Q _ _ ((hz.stay hbw).setOther (Ne.symm ne) _ _) (fr_grown hFq (setIn_grown _ _ _ _) hrl)).mono ?_
  rintro e w2 ⟨rfl, rfl⟩
  go_wp2
  go_ret2
  obtain ⟨q1, q2, q3, q4⟩ := hS.out
  refine ⟨aq, kq, cq, ar, kr, cr, w1, rfl, hbw, ?_, ?_, ?_⟩
  · rw [← q2]; exact hFq
  · rw [← q4]; exact hFr
  · rw [← q1, ← q3]; rfl
theorem bgLsh_any (b base B1 b1 k : Nat) (x : Int) (w : World) (hz : Zc w b) (hb : base ≤ w.heap.size) (h1 : Iz 40 w B1 b1 x) (l1 : ln x.natAbs ≤ 4294967296) (hk : k ≤ 4294967296) :
 Calls Tryz.prog 85 #[.pointer (some ⟨b, 0, none⟩), .pointer (some ⟨b1, 0, none⟩), .int .u64 (k : Int)] w (StZ 40 b base (x * 2 ^ k) w) := by
 obtain ⟨a1, n1, c1, h1⟩ := h1
 have hbl := hz.lt
 have hM : ∀ (z : Int) W, z = (k : Int) → Below w.heap.size w W → Calls Tryz.prog 137 #[.slice a1 n1 c1, .int .i64 z] W (Wd 40 (x.natAbs * 2 ^ k) W) := fun z W hzk hW => by
  have := bgUp_any a1 n1 c1 k z hzk _ W (h1.stay hW).fr.sl (by rw [h1.len]; exact l1) hk
  rwa [val_limbs'] at this
 have hS := Lib.hid (sgn_shl x k)
 have hwk : IntKind.i64.wrap (k : Int) = (k : Int) := IntWalk.i64_in _ (by omega)
 obtain ⟨d0, d1, _, _, _, _, _⟩ := h1
 generalize decide (x < 0) = s1 at *
 generalize x.natAbs * 2 ^ k = M at *
 clear l1
 go_enter Tryz.func85, Tryz.ntmps85
 go_wp2
 go_region_with (first
  | (go_at_call 137; (with_reducible refine (hM _ _ (by first | rfl | omega | simp) ?_).mono ?_); (exact (Below.refl _ _).drew); rintro e w1 ⟨ao, k, c, rfl, hF, hb1⟩; replace hb1 := undrew hb1; have f0 := cellStay d0 hb1)
  | (go_at_call 94; (with_reducible refine (bgSet_any b s1 ao k c M _ _ (hz.stay hb1) hF).mono ?_); rintro e w2 ⟨rfl, rfl⟩))
 all_goals go_wp2
 all_goals go_ret
 all_goals (unfold StZ; rw [← hS.out.1, ← hS.out.2]; exact ⟨_, _, _, w1, rfl, hb1, hF.mono hb, fr_ne hF hbl, rfl⟩)
theorem bgBit0_any (base b : Nat) (x d : Nat) (w : World) (h : Iz 40 w base b (x : Int)) (hd : x % 2 = d) :
 Calls Tryz.prog 171 #[.pointer (some ⟨b, 0, none⟩), .int .i64 0] w fun e w' => e = .returned (.int .u64 (d : Int)) ∧ w = w' := by
 have HD := Lib.hid hd
 clear hd
 obtain ⟨ao, k, c, h⟩ := h
 rw [nonneg_dec (by omega), Int.natAbs_natCast] at h
 have hk := h.nil
 have hs := h.fr.sl
 obtain ⟨d0, d1, _, _, _, _, _⟩ := h
 by_cases h0 : k = 0
 · have hx : Hid (d = 0) := Lib.hid (by have := HD.out; rw [hk.2 h0] at this; omega)
   subst h0
   clear hs hk
   go_enter Tryz.func171, Tryz.ntmps171
   go_wp2
   go_ret
   rw [hx.out]
   exact ⟨rfl, rfl⟩
 · obtain ⟨b2, o, rfl, hb2, hc⟩ := hs.at_ (by omega)
   have hc0 : w.cell? ⟨b2, o, none⟩ = some (.int .u32 (nth (limbs x) 0 : Int)) := hc 0 (by omega)
   have hlt := nth_lt hs.ok 0
   have hle := hs.le
   have hcap := hs.cap
   have hx : nth (limbs x) 0 % 2 = d := by
    obtain ⟨r, hr⟩ := val_nth0 (limbs x)
    rw [val_limbs'] at hr
    have := HD.out
    omega
   generalize nth (limbs x) 0 = y at *
   have hand : bits BinOp.and IntKind.u32 (y : Int) 1 = (d : Int) := by
    have := u32_and_nat y 1 hlt (by decide)
    rw [Nat.and_one_is_mod, hx] at this
    exact this
   have hd2 : d < 2 := by omega
   clear hx
   have j1 : ¬ (0 : Int) ≥ (k : Int) := by omega
   have j2 : (0 : Int) < (k : Int) := by omega
   clear hs hk hc
   go_enter Tryz.func171, Tryz.ntmps171
   go_wp2
   go_ret
   exact ⟨rfl, rfl⟩
theorem bgUint64_any (base b : Nat) (x : Nat) (w : World) (h : Iz 40 w base b (x : Int)) (hx : x < 18446744073709551616) :
 Calls Tryz.prog 149 #[.pointer (some ⟨b, 0, none⟩)] w fun e w' => e = .returned (.int .u64 (x : Int)) ∧ w = w' := by
 obtain ⟨ao, k, c, h⟩ := h
 rw [nonneg_dec (by omega), Int.natAbs_natCast] at h
 have hs := h.fr.sl
 have hv := small_words (ok_limbs x) (ln_small2 hx)
 rw [val_limbs'] at hv
 have hC := bgToUint_any ao k c (limbs x) w hs
 rw [← hv] at hC
 obtain ⟨d0, d1, _, _, _, _, _⟩ := h
 clear hs hv
 go_enter Tryz.func149, Tryz.ntmps149
 go_wp2_with (go_at_call 166; refine hC.mono ?_; rintro e w1 ⟨rfl, rfl⟩)
 go_ret
 exact ⟨rfl, rfl⟩
theorem bgNewZ_any (x : Int) (w : World) (hx : -9223372036854775808 ≤ x ∧ x ≤ 9223372036854775807) :
 Calls Tryz.prog 51 #[.int .i64 x] w (MkZ 40 x w) :=
 (bgNewInt_any x w hx).mono fun _ _ h => h.z rfl rfl
theorem bgSetZ_any (b base B1 b1 : Nat) (x : Int) (w : World) (hz : Zc w b) (hb : base ≤ w.heap.size) (h1 : Iz 40 w B1 b1 x) (l1 : ln x.natAbs ≤ 4294967296) :
 Calls Tryz.prog 89 #[.pointer (some ⟨b, 0, none⟩), .pointer (some ⟨b1, 0, none⟩)] w (StZ 40 b base x w) := by
 obtain ⟨a1, n1, c1, h1⟩ := h1
 have := bgISet_any b base B1 b1 _ a1 n1 c1 _ w hz hb h1 (by rw [h1.len]; exact l1)
 rwa [nzB_nat _ _ rfl] at this
theorem bgSignZ_any (b base : Nat) (x : Int) (w : World) (h : Iz 40 w base b x) :
 Calls Tryz.prog 90 #[.pointer (some ⟨b, 0, none⟩)] w fun e w' => e = .returned (.int .i64 x.sign) ∧ w = w' := by
 obtain ⟨a1, n1, c1, h⟩ := h
 have := bgSign_any b base _ a1 n1 c1 _ w h
 rwa [sgnI_z] at this
theorem bgCmpN_any (B1 B2 b1 b2 : Nat) (x y : Nat) (w : World) (h1 : Iz 40 w B1 b1 (x : Int)) (h2 : Iz 40 w B2 b2 (y : Int)) :
 Calls Tryz.prog 126 #[.pointer (some ⟨b1, 0, none⟩), .pointer (some ⟨b2, 0, none⟩)] w fun e w' => e = .returned (.int .i64 (cmpN x y)) ∧ Below w.heap.size w w' := by
 obtain ⟨a1, n1, c1, h1⟩ := iz_nat h1
 obtain ⟨a2, n2, c2, h2⟩ := iz_nat h2
 exact bgICmp_any B1 B2 b1 b2 a1 a2 n1 n2 c1 c2 x y w h1 h2
theorem bgBitLenZ_any (b base : Nat) (x : Int) (w : World) (h : Iz 40 w base b x) (l : ln x.natAbs ≤ 4294967296) :
 Calls Tryz.prog 49 #[.pointer (some ⟨b, 0, none⟩)] w fun e w' => e = .returned (.int .i64 (szN (limbs x.natAbs) : Int)) ∧ w = w' := by
 obtain ⟨a1, n1, c1, h⟩ := h
 exact bgIBitLen_any b base _ a1 n1 c1 _ w h (by rw [h.len]; exact l)
end
section
attribute [local go_sem ↓] Go.wp_at_zero Go.wp_at_succ
theorem bgOrLow_any (b base B1 B2 b1 b2 : Nat) (x y : Nat) (w : World) (hz : Zc w b) (hb : base ≤ w.heap.size) (h1 : Iz 40 w B1 b1 (x : Int)) (h2 : Iz 40 w B2 b2 (y : Int)) (hx : x % 4294967296 = 0) (hy : y < 4294967296) (l1 : ln x ≤ 1073741824) :
 Calls Tryz.prog 86 #[.pointer (some ⟨b, 0, none⟩), .pointer (some ⟨b1, 0, none⟩), .pointer (some ⟨b2, 0, none⟩)] w (StZ 40 b base ((x + y : Nat) : Int) w) := by
 obtain ⟨i0, hi0, hz0, hz1, hz2⟩ := info_parts u32_infoL
 have hsz : (Tryz.prog.info? 40).map (·.size) = some 1 := by kernel_rfl
 obtain ⟨a1, n1, c1, h1⟩ := iz_nat h1
 obtain ⟨a2, n2, c2, h2⟩ := iz_nat h2
 have hbl := hz.lt
 have hnn : (0 : Int) ≤ ((x + y : Nat) : Int) := Int.natCast_nonneg _
 unfold StZ
 rw [nonneg_dec hnn, Int.natAbs_natCast]
 clear hnn
 have s1 := h1.fr.sl
 have s2 := h2.fr.sl
 have hn1 : n1 ≤ 1073741824 := by rw [h1.len]; exact l1
 have hn2 : n2 ≤ 1 := by rw [h2.len]; exact ln_small hy
 have hnil := h2.nil
 have hlen := s1.len
 obtain ⟨d0, d1, _, _, _, _, _⟩ := h1
 obtain ⟨e0, e1, _, _, _, _, _⟩ := h2
 have hcap1 := s1.cap
 have hle1 := s1.le
 have hcap2 := s2.cap
 have hle2 := s2.le
 obtain ⟨n, hn⟩ : ∃ n, n = max n1 n2 := ⟨_, rfl⟩
 have j0 : max (n1 : Int) (n2 : Int) = (n : Int) := by omega
 have k1 : n1 ≤ n := by omega
 have k2 : n2 ≤ n := by omega
 have k3 : n ≤ 1073741824 := by omega
 clear hn
 obtain ⟨zs0, hzs0⟩ : ∃ zs0, zs0 = limbs x ++ List.replicate (n - n1) 0 := ⟨_, rfl⟩
 have hzl : zs0.length = n := by rw [hzs0]; simp [hlen]; omega
 have hzok : Ok zs0 := by rw [hzs0]; exact ok_append (ok_limbs _) (ok_replicate _)
 have hzv : val zs0 = x := by rw [hzs0, val_append, val_replicate, val_limbs']; omega
 have hsp : splice (lvs (List.replicate n 0)) 0 (lvs (limbs x)) = lvs zs0 := by
  rw [hzs0]
  simp [splice, lvs, hlen]
 have hz00 : nth zs0 0 = 0 := by
  obtain ⟨r, hr⟩ := val_nth0 zs0
  have := nth_lt hzok 0
  rw [hzv] at hr
  omega
 have HC1 : Hid ((lvs (limbs x)).length = Nat.min n1 n) := Lib.hid (by show _ = min n1 n; simp only [lvs, List.length_map]; rw [hlen]; omega)
 have HC2 : Hid (0 < (lvs (limbs x)).length → 0 < n1) := Lib.hid (by simp only [lvs, List.length_map]; rw [hlen]; exact id)
 have HC3 : Hid (0 + (lvs (limbs x)).length ≤ (lvs (List.replicate n 0)).length) := Lib.hid (by simp only [lvs, List.length_map, List.length_replicate]; rw [hlen]; omega)
 have Hsp := Lib.hid hsp
 have HLEN := Lib.hid hlen
 have HZL := Lib.hid hzl
 have HZV := Lib.hid hzv
 have HX := Lib.hid hx
 clear hsp hzs0 hlen hx l1 hzl hzv
 go_enter Tryz.func86, Tryz.ntmps86
 go_wp2
 go_still_tail 11, (by kernel_rfl)
 change wpList _ _ _ _ _ w.drew
 generalize hwq : w.drew = wq
 have hbq : Below w.heap.size w wq := hwq ▸ (Below.refl _ _).drew
 have HSQ : Hid (wq.heap.size = w.heap.size) := Lib.hid (by rw [← hwq]; rfl)
 clear hwq
 go_wp2_with (first
  | (at_make; refine wpList_make_full _ rfl _ _ 25 rfl wq.heap.size 40 i0 _ 1 Tryz.underlying25 hi0 hz0 hz1 _ _ _ _ (n) rfl rfl rfl rfl (by rw [hz2]; omega) (by unfold maxLen; omega) (Nat.le_refl _) ?_; intro w1 hown hg1; rw [made_lvs] at hown; have hb1 := (Below.refl wq.heap.size wq).grown hg1 (Nat.le_refl _) (by simp); have hbw := next hbq hb1; have f1 := cellStay d1 hbw; have f2 := cellStay e1 hbw)
  | (refine wpList_copy_splice rfl (.tmp 22) (.tmp 26) 25 25 rfl 40 Tryz.underlying25 hsz (some ⟨wq.heap.size, 0, none⟩) a1 n n n1 c1 rfl rfl wq.heap.size 0 (lvs (List.replicate n 0)) _ (block_own hown) (lvs (limbs x)) HC1.out (fun hp => ⟨rfl, lvs_cell (s1.below hbw) (HC2.out hp)⟩) HC3.out (lvs_oneCell (limbs x)) wq.heap.size wq hb1 (Nat.le_refl _) ?_; intro w2 hw2 hb2; have hbw2 := next hbq hb2; have f2 := cellStay e1 hbw2))
 have hw3 := hw2.out
 rw [Hsp.out] at hw3
 have ho2 := own_block (base := wq.heap.size) hw3 (Nat.le_refl _) HZL.out (by unfold maxLen; omega)
 clear hw2 hw3 hown hg1 hb1
 by_cases h20 : n2 = 0
 · have hy0 : y = 0 := hnil.2 h20
   subst h20
   have hv0 : Hid (val zs0 = x + y) := Lib.hid (by rw [HZV.out, hy0]; rfl)
   clear hy0 hnil
   go_loopw [33] (fun iv wr => iv = .int .i64 0 ∧ wr = w2) (fun _ _ => 0)
   case atStart => exact ⟨rfl, rfl⟩
   case round =>
    obtain ⟨rfl, rfl⟩ := hrel
    go_wp2_with fail
    with_reducible refine (bgTrim_own _ ho2 hzok).mono ?_
    rintro e w3 ⟨k, rfl, hF, rfl⟩
    rw [hv0.out] at hF
    go_wp2_with fail
    with_reducible refine (bgSet_any b false _ k n (x + y) _ _ (hz.stay hbw2) hF).mono ?_
    rintro e w3 ⟨rfl, rfl⟩
    go_wp2
    go_ret
    exact ⟨_, _, _, _, rfl, hbw2, hF.mono (by rw [HSQ.out]; exact hb), fr_ne hF (by rw [HSQ.out]; exact hbl), rfl⟩
 · obtain rfl : n2 = 1 := by omega
   obtain ⟨g2, o2, rfl, hg2', hc2⟩ := s2.at_ (by decide)
   have hx2 : w.cell? ⟨g2, o2, none⟩ = some (.int .u32 (y : Int)) := by
    have := hc2 0 (by omega)
    have hv := val_nth0 (limbs y)
    obtain ⟨r, hr⟩ := hv
    rw [val_limbs'] at hr
    have hlt := nth_lt (ok_limbs y) 0
    rw [show nth (limbs y) 0 = y by omega] at this
    exact this
   have f4 := cellStay hx2 hbw2
   have hst : w2.cell? ⟨wq.heap.size, 0, none⟩ = some (.int .u32 0) := by
    have := own_cell ho2 (j := 0) (by omega)
    rw [hz00] at this
    exact this
   have hfz := ho2.frozenAt 0
   have hor : bits BinOp.or IntKind.u32 0 (y : Int) = (y : Int) := by
    show IntKind.u32.wrap ((BitVec.ofInt 32 0 ||| BitVec.ofInt 32 (y : Int)).toNat : Int) = _
    rw [BitVec.toNat_or, show (BitVec.ofInt 32 (y : Int)).toNat = y by rw [BitVec.ofInt_natCast, BitVec.toNat_ofNat]; exact Nat.mod_eq_of_lt (by omega), show (BitVec.ofInt 32 0).toNat = 0 by decide, Nat.zero_or, show ∀ n : Int, IntKind.u32.wrap n = n % 4294967296 from fun n => by simp [IntKind.wrap, IntKind.signed, IntKind.bits]]
    omega
   have hv1 : Hid (val (zs0.set 0 y) = x + y) := Lib.hid (by
    have := val_set (zs := zs0) (p := 0) (by rw [HZL.out]; omega) y
    rw [hz00, HZV.out] at this
    omega)
   obtain ⟨p1, r1⟩ := ho2.stored 0 (lv y)
   rw [bgLvs_set] at p1
   have hb3 := hbw2.grown r1 hbw2.size (by simp [HSQ.out])
   have P1 := Lib.hid p1
   have B3 := Lib.hid hb3
   have j4 : 0 < n := by omega
   have j5 : (0 : Int) < (n : Int) := by omega
   clear hc2 hnil r1 p1 hb3
   go_loopw [33] (fun iv wr => iv = .int .i64 0 ∧ wr = w2 ∨ iv = .int .i64 1 ∧ wr = w2.setCell ⟨wq.heap.size, 0, none⟩ (lv y)) (fun iv _ => 1 - (intOf iv).toNat)
   case atStart => exact .inl ⟨rfl, rfl⟩
   case round =>
    rcases hrel with ⟨rfl, rfl⟩ | ⟨rfl, rfl⟩
    · go_wp2
      exact ⟨.inr ⟨rfl, rfl⟩, by simp [intOf]⟩
    · have hbr := B3.out
      have ho := P1.out
      generalize w2.setCell ⟨wq.heap.size, 0, none⟩ (lv y) = wr at *
      go_wp2_with fail
      with_reducible refine (bgTrim_own _ ho (ok_set hzok hy 0)).mono ?_
      rintro e w3 ⟨k, rfl, hF, rfl⟩
      rw [hv1.out] at hF
      go_wp2_with fail
      with_reducible refine (bgSet_any b false _ k n (x + y) _ _ (hz.stay hbr) hF).mono ?_
      rintro e w3 ⟨rfl, rfl⟩
      go_wp2
      go_ret
      exact ⟨_, _, _, _, rfl, hbr, hF.mono (by rw [HSQ.out]; exact hb), fr_ne hF (by rw [HSQ.out]; exact hbl), rfl⟩
theorem bgExp_any (b base B1 B2 b1 b2 : Nat) (x y : Nat) (w : World) (hz : Zc w b) (hb : base ≤ w.heap.size) (h1 : Iz 40 w B1 b1 (x : Int)) (h2 : Iz 40 w B2 b2 (y : Int)) (l1 : y * ln x ≤ 16777216) (l2 : ln x ≤ 16777216) (l3 : ln y ≤ 16777216) :
 Calls Tryz.prog 50 #[.pointer (some ⟨b, 0, none⟩), .pointer (some ⟨b1, 0, none⟩), .pointer (some ⟨b2, 0, none⟩), .pointer none] w (StZ 40 b base ((x ^ y : Nat) : Int) w) := by
 have hbl := hz.lt
 have hlp : ∀ k, k ≤ y → ln (x ^ k) ≤ 16777217 := fun k hk => Nat.le_trans (ln_pow x k) (by have := Nat.mul_le_mul_right (ln x) hk; omega)
 obtain ⟨W1, hW1⟩ : ∃ W1 : World, W1 = w.alloc (.cells #[.bool false, .slice none 0 0] 86) := ⟨_, rfl⟩
 have hb1 : Below w.heap.size w W1 := hW1 ▸ more (Below.refl _ _) _
 have hw0 : w.heap.size < W1.heap.size := by rw [hW1]; simp
 have hby : W1.cell? ⟨w.heap.size, 1, none⟩ = some (.slice none 0 0) := by rw [hW1]; simp
 have HN : Hid (∀ W, Calls Tryz.prog 51 #[.int .i64 1] W (MkZ 40 1 W)) := Lib.hid (fun W => bgNewZ_any 1 W (by decide))
 have HLP := Lib.hid hlp
 have L2 := Lib.hid l2
 have L3 := Lib.hid l3
 clear l1 hlp l2 l3
 go_enter Tryz.func50, Tryz.ntmps50
 go_wp2_with fail
 rw [← hW1]
 clear hW1
 refine (HN.out _).mono ?_
 rintro e w2 ⟨bo, rfl, hO, hb2⟩
 have W2 := next hb1 hb2
 have g1 := cellStay hby hb2
 have hOl := hO.le
 go_wp2_with fail
 obtain ⟨W3, hW3⟩ : ∃ W3 : World, W3 = w2.alloc (.cells #[.bool false, .slice none 0 0] 86) := ⟨_, rfl⟩
 have W3b : Below w.heap.size w W3 := hW3 ▸ more W2 _
 have hSet := bgSetZ_any w2.heap.size w2.heap.size B1 b1 (x : Int) W3 (hW3 ▸ zc_new _ _ _ _) (by rw [hW3]; simp) (h1.stay W3b) (by rw [Int.natAbs_natCast]; have := L2.out; omega)
 rw [← hW3]
 refine hSet.mono ?_
 rintro e w3 hS
 have hb3 : Below w2.heap.size w2 w3 := hS.below (hW3 ▸ more (Below.refl _ _) _) (by rw [hW3]; simp) (Nat.le_refl _)
 obtain ⟨rfl, hB, _⟩ := hS.in_ (hW3 ▸ zc_new _ _ _ _) (Nat.le_refl _)
 have W4 := next W2 hb3
 have g2 := cellStay g1 hb3
 have hO3 := hO.stay hb3
 have hol := hO.lt
 clear hSet hW3 g1 hO hS hby W3b
 have hSg := bgSignZ_any b2 B2 (y : Int) w3 (h2.stay W4)
 by_cases hy : y = 0
 · subst hy
   go_wp2_with fail
   refine hSg.mono ?_
   rintro e w4 ⟨rfl, rfl⟩
   have hone := bgSetZ_any b base W1.heap.size bo 1 w3 (hz.stay W4) (Nat.le_trans hb W4.size) hO3 (by decide)
   clear hSg h1 h2
   go_wp2_with fail
   refine hone.mono ?_
   rintro e w4 hS
   have hE : StZ 40 b base ((x ^ 0 : Nat) : Int) w e w4 := by
    obtain ⟨ao, k, c, w5, he, hb5, hr⟩ := hS
    exact ⟨ao, k, c, w5, he, next W4 hb5, hr⟩
   obtain rfl := hS.en
   go_wp2
   go_ret
   exact hE
 · have hsg : (y : Int).sign = 1 := Int.sign_eq_one_of_pos (by omega)
   rw [hsg] at hSg
   obtain ⟨a2, n, c2, h2'⟩ := iz_nat (h2.stay W4)
   have hn4 : n ≤ 16777216 := by rw [h2'.len]; exact L3.out
   have hs2 := h2'.fr.sl
   have hn0 : n ≠ 0 := fun hh => hy (h2'.nil.2 hh)
   obtain ⟨e0, e1, _, _, _, _, _⟩ := h2'
   have hyl : y / 2 ^ (32 * n) = 0 := by
    have := ln_lt y
    rw [show ln y = n from hs2.len, show (4294967296 : Nat) = 2 ^ 32 from rfl, ← Nat.pow_mul] at this
    exact Nat.div_eq_of_lt this
   have HYL := Lib.hid hyl
   clear hsg hy hyl h2
   go_wp2_with fail
   refine hSg.mono ?_
   rintro e w4 ⟨rfl, rfl⟩
   clear hSg
   go_wp2_with fail
   refine (bgCopied_any a2 n c2 _ _ hs2 (by omega)).mono ?_
   rintro e w4 ⟨g, rfl, ho, hb4⟩
   have hG := fr_copied ho hs2 (fine_limbs _)
   rw [val_limbs'] at hG
   have W5 := next W4 hb4
   have g4 := cellStay g2 hb4
   have o4 := hO3.stay hb4
   have B4 := hB.stay hb4
   clear hO3 hB ho g2 e0 e1 hs2
   go_wp2_with fail
   go_loopw [13] (fun iv wr => ∃ j : Nat, j ≤ 32 * n ∧ iv = .int .i64 ((j : Int) - 1) ∧ Iz 40 wr W1.heap.size bo ((x ^ (y / 2 ^ j) : Nat) : Int) ∧ Iz 40 wr w2.heap.size w2.heap.size (x : Int) ∧ Fr 40 wr w3.heap.size (some ⟨g, 0, none⟩) n n (limbs y) ∧ wr.cell? ⟨w.heap.size, 1, none⟩ = some (.slice none 0 0) ∧ Below w.heap.size w wr) (fun iv _ => (intOf iv + 1).toNat)
   case atStart => exact ⟨32 * n, Nat.le_refl _, by go_num, by rw [HYL.out, Nat.pow_zero]; exact o4, B4, hG, g4, W5⟩
   case round =>
    obtain ⟨j, hj, rfl, hO, hB, hF, hc, hW⟩ := hrel
    clear g4 o4 B4 hG W5
    by_cases hj0 : j = 0
    · subst hj0
      rw [Nat.pow_zero, Nat.div_one] at hO
      have hset := bgSetZ_any b base W1.heap.size bo _ wr (hz.stay hW) (Nat.le_trans hb hW.size) hO (by rw [Int.natAbs_natCast]; have := HLP.out y (Nat.le_refl _); omega)
      have j1 : ¬ ((0 : Nat) : Int) - 1 ≥ 0 := by decide
      go_wp2_with fail
      refine hset.mono ?_
      rintro e w5 hS
      obtain rfl := hS.en
      go_wp2
      go_ret
      exact hS.pre hW
    · obtain ⟨t, rfl⟩ : ∃ t, j = t + 1 := ⟨j - 1, by omega⟩
      have ej : ((t + 1 : Nat) : Int) - 1 = (t : Int) := by omega
      rw [ej]
      have hq1 : y / 2 ^ (t + 1) ≤ y := Nat.div_le_self _ _
      have hq2 : 2 * (y / 2 ^ (t + 1)) ≤ y := Nat.le_trans (by have := half_step y t; omega) (Nat.div_le_self y (2 ^ t))
      have hq3 : y / 2 ^ t ≤ y := Nat.div_le_self _ _
      have hst := half_step y t
      obtain ⟨g', o', hgo, hgl, hcc⟩ := hF.sl.at_ (by omega)
      cases hgo
      have hcell : wr.cell? ⟨g, t / 32, none⟩ = some (.int .u32 (nth (limbs y) (t / 32) : Int)) := by
       have := hcc (t / 32) (by omega)
       rwa [Nat.zero_add] at this
      have hlt := nth_lt (ok_limbs y) (t / 32)
      have hbit := bitL_eq (ok_limbs y) t
      unfold bitL at hbit
      rw [val_limbs'] at hbit
      have HS1 := Lib.hid hst
      have HF1 := hF
      generalize hdd : y / 2 ^ t % 2 = d at *
      have k3 : (t : Int) / 32 = ((t / 32 : Nat) : Int) := by omega
      have k4 : (t : Int).tdiv 32 = ((t / 32 : Nat) : Int) := by rw [Int.tdiv_eq_ediv_of_nonneg (by omega)]; exact k3
      have k5 : (t : Int) % 32 = ((t % 32 : Nat) : Int) := by omega
      have k6 : (t : Int).tmod 32 = ((t % 32 : Nat) : Int) := by rw [Int.tmod_eq_emod_of_nonneg (by omega)]; exact k5
      obtain ⟨q, hq⟩ : ∃ q, q = t / 32 := ⟨_, rfl⟩
      obtain ⟨m, hm⟩ : ∃ m, m = t % 32 := ⟨_, rfl⟩
      rw [← hq] at hcell k3 k4 hlt hbit
      rw [← hm] at k5 k6 hbit
      have hqn : q < n := by omega
      have hm32 : m < 32 := by omega
      generalize nth (limbs y) q = v at *
      have hd2 : d < 2 := by omega
      have hM := bgIMul_any bo W1.heap.size W1.heap.size W1.heap.size bo bo _ _ wr hO.zc (Nat.le_trans hOl (Nat.le_of_lt hO.lt)) hO hO (by rw [Int.natAbs_natCast]; have := HLP.out _ hq1; omega) (by rw [Int.natAbs_natCast]; have := HLP.out _ hq1; omega)
      rw [pow_sq] at hM
      have hand : bits BinOp.and IntKind.u32 ((v : Int) / 2 ^ m) 1 = (d : Int) := by
       have hvm : v / 2 ^ m < 4294967296 := Nat.lt_of_le_of_lt (Nat.div_le_self _ _) hlt
       have := u32_and_nat (v / 2 ^ m) 1 hvm (by decide)
       rw [Nat.and_one_is_mod, hbit] at this
       simpa using this
      have HL2 : Hid (ln (x ^ (2 * (y / 2 ^ (t + 1)))) ≤ 16777217) := Lib.hid (HLP.out _ hq2)
      have HT : Hid (t + 1 ≤ 32 * n) := Lib.hid hj
      have w1 : IntKind.i64.wrap (q : Int) = (q : Int) := IntWalk.i64_in _ (by constructor <;> omega)
      have w2' : IntKind.i64.wrap (m : Int) = (m : Int) := IntWalk.i64_in _ (by constructor <;> omega)
      have w3' : IntKind.u64.wrap (m : Int) = (m : Int) := by rw [IntKind.wrap_u64]; omega
      have i1 : (0 : Int) ≤ (q : Int) := by omega
      have i2 : (q : Int) < (n : Int) := by omega
      have i3 : (t : Int) ≥ 0 := by omega
      have i4 : (t : Int) ≤ 536870912 := by omega
      have hzo := hO.zc
      have hbo0 : w.heap.size ≤ bo := by omega
      have hbo3 : bo < w3.heap.size := Nat.lt_of_lt_of_le hol hb3.size
      clear hbit hj hj0 hq1 hq2 hq3 hst hF hcc hdd hq hm k3 k5 ej hgl
      generalize 2 * (y / 2 ^ (t + 1)) = Z at *
      go_wp2_with fail
      refine hM.mono ?_
      rintro e w5 hS
      obtain ⟨rfl, hO5, hg5⟩ := hS.in_ hzo hOl
      have W5 := hS.below hW hW.size hbo0
      have hB5 := hB.older hg5 hol
      have F5 := fr_grown HF1 hg5 hbo3
      have c5 := hg5.cell hc (fun e => by injection e with e; have e2 : w.heap.size = bo := e; omega)
      have cell5 := hg5.cell hcell (fun e => by have := (fr_lt HF1 (g := g) rfl).1; injection e with e; have e2 : g = bo := e; omega)
      clear hS hM hB HF1 hc hcell hO
      by_cases hd : d = 1
      · subst hd
        have HZ := HS1
        have hM := bgIMul_any bo W1.heap.size W1.heap.size w2.heap.size bo w2.heap.size _ _ w5 hO5.zc (Nat.le_trans hOl (Nat.le_of_lt hO5.lt)) hO5 hB5 (by rw [Int.natAbs_natCast]; have := HL2.out; omega) (by rw [Int.natAbs_natCast]; have := L2.out; omega)
        rw [pow_one_more] at hM
        have hzo5 := hO5.zc
        go_wp2_with fail
        refine hM.mono ?_
        rintro e w6 hS
        obtain ⟨rfl, hO6, hg6⟩ := hS.in_ hzo5 hOl
        have W6 := hS.below W5 W5.size hbo0
        have hB6 := hB5.older hg6 hol
        have F6 := fr_grown F5 hg6 hbo3
        have c6 := hg6.cell c5 (fun e => by injection e with e; have e2 : w.heap.size = bo := e; omega)
        rw [← HZ.out] at hO6
        clear hS hM hB5 F5 c5 cell5 hO5
        go_wp2
        exact ⟨⟨t, by have := HT.out; omega, rfl, hO6, hB6, F6, c6, W6⟩, by simp [intOf] <;> omega⟩
      · obtain rfl : d = 0 := by omega
        have HZ := HS1
        rw [Nat.add_zero] at HZ
        rw [← HZ.out] at hO5
        go_wp2
        exact ⟨⟨t, by have := HT.out; omega, rfl, hO5, hB5, F5, c5, W5⟩, by simp [intOf] <;> omega⟩
end
end Go.Proofs.YtpmncmglmobjoaaGreatDoor
