/-
  Contracts of numeral/numeralbig: Int: added, Add, Sub, Mul, QuoRem, Lsh, Rsh, Bit, Uint64, SetUint64, Abs. (Printed by wip/gen/bigY.py.) Contracts of numeral/numeralbig: Int: QuoRem, Lsh, Rsh, And, Or, Bit, Uint64, DivMod, Div. (Printed by wip/gen/bigW.py.) Contracts of numeral/numeralbig: Int: And, Or, Exp. (Printed by wip/gen/bigV.py.)
-/
import Derived.Test.YtoiifhmepniniaaGreatDoorQbCNbK
import Derived.Test.YtoiifhmepniniaaGreatDoorQbCMC19
import Derived.StillTailTactics
import Derived.Deep.DrawnRows
set_option maxHeartbeats 1600000
set_option maxRecDepth 100000
namespace Go.Proofs.YtoiifhmepniniaaGreatDoor
open Go.RowKit Go.Lb
section
attribute [local go_sem ↓] Go.wp_at_zero Go.wp_at_succ
theorem nbAdded_ffS (b base : Nat) (a1 a2 : Option Addr) (n1 n2 c1 c2 N1 N2 : Nat) (w : World) (hz : Zc w b) (hb : base ≤ w.heap.size) (h1 : Sl w a1 n1 c1 (limbs N1)) (h2 : Sl w a2 n2 c2 (limbs N2)) (hn1 : n1 ≤ 536870912) (hn2 : n2 ≤ 536870912) :
 Calls Tryz.prog 195 #[.pointer (some ⟨b, 0, none⟩), .slice a1 n1 c1, .bool false, .slice a2 n2 c2, .bool false] w (StZ 23 b base (sgv false N1 + sgv false N2) w) := by
 have hbl := hz.lt
 rw [sgv_add false N1 N2, StZ_sgv]
 have hA := nbAddW_any a1 a2 n1 n2 c1 c2 (limbs N1) (limbs N2) w h1 h2 (by omega) (by omega)
 rw [val_limbs', val_limbs'] at hA
 clear h1 h2
 go_enter Tryz.func195, Tryz.ntmps195
 go_wp2_with (first
  | (go_at_call 158; refine hA.mono ?_; rintro e w1 ⟨ao, k, c, rfl, hF, hb1⟩)
  | (go_at_call 154; refine (nbSet_any b false ao k c (N1 + N2) w.heap.size _ (hz.stay hb1) hF).mono ?_; rintro e w2 ⟨rfl, rfl⟩))
 go_ret
 exact ⟨_, _, _, w1, rfl, hb1, hF.mono hb, fr_ne hF hbl, rfl⟩
theorem nbAdded_ftG (b base : Nat) (a1 a2 : Option Addr) (n1 n2 c1 c2 N1 N2 : Nat) (w : World) (hz : Zc w b) (hb : base ≤ w.heap.size) (h1 : Sl w a1 n1 c1 (limbs N1)) (h2 : Sl w a2 n2 c2 (limbs N2)) (hn1 : n1 ≤ 536870912) (_hn2 : n2 ≤ 536870912) (hle : N2 ≤ N1) :
 Calls Tryz.prog 195 #[.pointer (some ⟨b, 0, none⟩), .slice a1 n1 c1, .bool false, .slice a2 n2 c2, .bool true] w (StZ 23 b base (sgv false N1 + sgv true N2) w) := by
 have hbl := hz.lt
 rw [(sgv_sub (by decide) hle).1, StZ_sgv]
 have l1 := h1.len
 have l2 := h2.len
 have hC : Calls Tryz.prog 160 #[.slice a1 n1 c1, .slice a2 n2 c2] w fun e w' => e = .returned (.int .i64 (cmpN N1 N2)) ∧ Below w.heap.size w w' := by
  have := nbCmp_any a1 a2 n1 n2 c1 c2 (limbs N1) (limbs N2) w h1 h2 (fine_limbs _) (fine_limbs _)
  rwa [val_limbs', val_limbs'] at this
 have hm := limbs_mono (A := N1) (B := N2) (by omega)
 rw [l1, l2] at hm
 have hA : ∀ W, Below w.heap.size w W → Calls Tryz.prog 233 #[.slice a1 n1 c1, .slice a2 n2 c2] W (Wd 23 (N1 - N2) W) := fun W hW => by
  have := nbSubW_any a1 a2 n1 n2 c1 c2 (limbs N1) (limbs N2) W (h1.below hW) (h2.below hW) (by omega) hm (by rw [val_limbs', val_limbs']; omega)
  rwa [val_limbs', val_limbs'] at this
 have hc : cmpN N1 N2 ≥ 0 := by unfold cmpN; split <;> (try split) <;> omega
 generalize cmpN N1 N2 = q at *
 clear h1 h2 l1 l2 hm
 go_enter Tryz.func195, Tryz.ntmps195
 go_wp2_with (first
  | (go_at_call 160; refine hC.mono ?_; rintro e w0 ⟨rfl, hb0⟩)
  | (go_at_call 233; refine (hA _ hb0).mono ?_; rintro e w1 ⟨ao, k, c, rfl, hF, hb1⟩)
  | (go_at_call 154; refine (nbSet_any b false ao k c (N1 - N2) w0.heap.size _ ((hz.stay hb0).stay hb1) hF).mono ?_; rintro e w2 ⟨rfl, rfl⟩))
 go_ret
 exact ⟨_, _, _, w1, rfl, next hb0 hb1, hF.mono (Nat.le_trans hb hb0.size), fr_ne hF (Nat.lt_of_lt_of_le hbl hb0.size), rfl⟩
theorem nbAdded_ftL (b base : Nat) (a1 a2 : Option Addr) (n1 n2 c1 c2 N1 N2 : Nat) (w : World) (hz : Zc w b) (hb : base ≤ w.heap.size) (h1 : Sl w a1 n1 c1 (limbs N1)) (h2 : Sl w a2 n2 c2 (limbs N2)) (_hn1 : n1 ≤ 536870912) (hn2 : n2 ≤ 536870912) (hlt : N1 < N2) :
 Calls Tryz.prog 195 #[.pointer (some ⟨b, 0, none⟩), .slice a1 n1 c1, .bool false, .slice a2 n2 c2, .bool true] w (StZ 23 b base (sgv false N1 + sgv true N2) w) := by
 have hbl := hz.lt
 rw [(sgv_sub (s := true) (t := false) (by decide) (Nat.le_of_lt hlt)).2, StZ_sgv]
 have l1 := h1.len
 have l2 := h2.len
 have hC : Calls Tryz.prog 160 #[.slice a1 n1 c1, .slice a2 n2 c2] w fun e w' => e = .returned (.int .i64 (cmpN N1 N2)) ∧ Below w.heap.size w w' := by
  have := nbCmp_any a1 a2 n1 n2 c1 c2 (limbs N1) (limbs N2) w h1 h2 (fine_limbs _) (fine_limbs _)
  rwa [val_limbs', val_limbs'] at this
 have hm := limbs_mono (A := N2) (B := N1) (by omega)
 rw [l1, l2] at hm
 have hA : ∀ W, Below w.heap.size w W → Calls Tryz.prog 233 #[.slice a2 n2 c2, .slice a1 n1 c1] W (Wd 23 (N2 - N1) W) := fun W hW => by
  have := nbSubW_any a2 a1 n2 n1 c2 c1 (limbs N2) (limbs N1) W (h2.below hW) (h1.below hW) (by omega) hm (by rw [val_limbs', val_limbs']; omega)
  rwa [val_limbs', val_limbs'] at this
 have hc : ¬ cmpN N1 N2 ≥ 0 := by unfold cmpN; rw [if_pos hlt]; decide
 generalize cmpN N1 N2 = q at *
 clear h1 h2 l1 l2 hm
 go_enter Tryz.func195, Tryz.ntmps195
 go_wp2_with (first
  | (go_at_call 160; refine hC.mono ?_; rintro e w0 ⟨rfl, hb0⟩)
  | (go_at_call 233; refine (hA _ hb0).mono ?_; rintro e w1 ⟨ao, k, c, rfl, hF, hb1⟩)
  | (go_at_call 154; refine (nbSet_any b true ao k c (N2 - N1) w0.heap.size _ ((hz.stay hb0).stay hb1) hF).mono ?_; rintro e w2 ⟨rfl, rfl⟩))
 go_ret
 exact ⟨_, _, _, w1, rfl, next hb0 hb1, hF.mono (Nat.le_trans hb hb0.size), fr_ne hF (Nat.lt_of_lt_of_le hbl hb0.size), rfl⟩
theorem nbAdded_tfG (b base : Nat) (a1 a2 : Option Addr) (n1 n2 c1 c2 N1 N2 : Nat) (w : World) (hz : Zc w b) (hb : base ≤ w.heap.size) (h1 : Sl w a1 n1 c1 (limbs N1)) (h2 : Sl w a2 n2 c2 (limbs N2)) (hn1 : n1 ≤ 536870912) (_hn2 : n2 ≤ 536870912) (hle : N2 ≤ N1) :
 Calls Tryz.prog 195 #[.pointer (some ⟨b, 0, none⟩), .slice a1 n1 c1, .bool true, .slice a2 n2 c2, .bool false] w (StZ 23 b base (sgv true N1 + sgv false N2) w) := by
 have hbl := hz.lt
 rw [(sgv_sub (by decide) hle).1, StZ_sgv]
 have l1 := h1.len
 have l2 := h2.len
 have hC : Calls Tryz.prog 160 #[.slice a1 n1 c1, .slice a2 n2 c2] w fun e w' => e = .returned (.int .i64 (cmpN N1 N2)) ∧ Below w.heap.size w w' := by
  have := nbCmp_any a1 a2 n1 n2 c1 c2 (limbs N1) (limbs N2) w h1 h2 (fine_limbs _) (fine_limbs _)
  rwa [val_limbs', val_limbs'] at this
 have hm := limbs_mono (A := N1) (B := N2) (by omega)
 rw [l1, l2] at hm
 have hA : ∀ W, Below w.heap.size w W → Calls Tryz.prog 233 #[.slice a1 n1 c1, .slice a2 n2 c2] W (Wd 23 (N1 - N2) W) := fun W hW => by
  have := nbSubW_any a1 a2 n1 n2 c1 c2 (limbs N1) (limbs N2) W (h1.below hW) (h2.below hW) (by omega) hm (by rw [val_limbs', val_limbs']; omega)
  rwa [val_limbs', val_limbs'] at this
 have hc : cmpN N1 N2 ≥ 0 := by unfold cmpN; split <;> (try split) <;> omega
 generalize cmpN N1 N2 = q at *
 clear h1 h2 l1 l2 hm
 go_enter Tryz.func195, Tryz.ntmps195
 go_wp2_with (first
  | (go_at_call 160; refine hC.mono ?_; rintro e w0 ⟨rfl, hb0⟩)
  | (go_at_call 233; refine (hA _ hb0).mono ?_; rintro e w1 ⟨ao, k, c, rfl, hF, hb1⟩)
  | (go_at_call 154; refine (nbSet_any b true ao k c (N1 - N2) w0.heap.size _ ((hz.stay hb0).stay hb1) hF).mono ?_; rintro e w2 ⟨rfl, rfl⟩))
 go_ret
 exact ⟨_, _, _, w1, rfl, next hb0 hb1, hF.mono (Nat.le_trans hb hb0.size), fr_ne hF (Nat.lt_of_lt_of_le hbl hb0.size), rfl⟩
theorem nbAdded_tfL (b base : Nat) (a1 a2 : Option Addr) (n1 n2 c1 c2 N1 N2 : Nat) (w : World) (hz : Zc w b) (hb : base ≤ w.heap.size) (h1 : Sl w a1 n1 c1 (limbs N1)) (h2 : Sl w a2 n2 c2 (limbs N2)) (_hn1 : n1 ≤ 536870912) (hn2 : n2 ≤ 536870912) (hlt : N1 < N2) :
 Calls Tryz.prog 195 #[.pointer (some ⟨b, 0, none⟩), .slice a1 n1 c1, .bool true, .slice a2 n2 c2, .bool false] w (StZ 23 b base (sgv true N1 + sgv false N2) w) := by
 have hbl := hz.lt
 rw [(sgv_sub (s := false) (t := true) (by decide) (Nat.le_of_lt hlt)).2, StZ_sgv]
 have l1 := h1.len
 have l2 := h2.len
 have hC : Calls Tryz.prog 160 #[.slice a1 n1 c1, .slice a2 n2 c2] w fun e w' => e = .returned (.int .i64 (cmpN N1 N2)) ∧ Below w.heap.size w w' := by
  have := nbCmp_any a1 a2 n1 n2 c1 c2 (limbs N1) (limbs N2) w h1 h2 (fine_limbs _) (fine_limbs _)
  rwa [val_limbs', val_limbs'] at this
 have hm := limbs_mono (A := N2) (B := N1) (by omega)
 rw [l1, l2] at hm
 have hA : ∀ W, Below w.heap.size w W → Calls Tryz.prog 233 #[.slice a2 n2 c2, .slice a1 n1 c1] W (Wd 23 (N2 - N1) W) := fun W hW => by
  have := nbSubW_any a2 a1 n2 n1 c2 c1 (limbs N2) (limbs N1) W (h2.below hW) (h1.below hW) (by omega) hm (by rw [val_limbs', val_limbs']; omega)
  rwa [val_limbs', val_limbs'] at this
 have hc : ¬ cmpN N1 N2 ≥ 0 := by unfold cmpN; rw [if_pos hlt]; decide
 generalize cmpN N1 N2 = q at *
 clear h1 h2 l1 l2 hm
 go_enter Tryz.func195, Tryz.ntmps195
 go_wp2_with (first
  | (go_at_call 160; refine hC.mono ?_; rintro e w0 ⟨rfl, hb0⟩)
  | (go_at_call 233; refine (hA _ hb0).mono ?_; rintro e w1 ⟨ao, k, c, rfl, hF, hb1⟩)
  | (go_at_call 154; refine (nbSet_any b false ao k c (N2 - N1) w0.heap.size _ ((hz.stay hb0).stay hb1) hF).mono ?_; rintro e w2 ⟨rfl, rfl⟩))
 go_ret
 exact ⟨_, _, _, w1, rfl, next hb0 hb1, hF.mono (Nat.le_trans hb hb0.size), fr_ne hF (Nat.lt_of_lt_of_le hbl hb0.size), rfl⟩
theorem nbAdded_ttS (b base : Nat) (a1 a2 : Option Addr) (n1 n2 c1 c2 N1 N2 : Nat) (w : World) (hz : Zc w b) (hb : base ≤ w.heap.size) (h1 : Sl w a1 n1 c1 (limbs N1)) (h2 : Sl w a2 n2 c2 (limbs N2)) (hn1 : n1 ≤ 536870912) (hn2 : n2 ≤ 536870912) :
 Calls Tryz.prog 195 #[.pointer (some ⟨b, 0, none⟩), .slice a1 n1 c1, .bool true, .slice a2 n2 c2, .bool true] w (StZ 23 b base (sgv true N1 + sgv true N2) w) := by
 have hbl := hz.lt
 rw [sgv_add true N1 N2, StZ_sgv]
 have hA := nbAddW_any a1 a2 n1 n2 c1 c2 (limbs N1) (limbs N2) w h1 h2 (by omega) (by omega)
 rw [val_limbs', val_limbs'] at hA
 clear h1 h2
 go_enter Tryz.func195, Tryz.ntmps195
 go_wp2_with (first
  | (go_at_call 158; refine hA.mono ?_; rintro e w1 ⟨ao, k, c, rfl, hF, hb1⟩)
  | (go_at_call 154; refine (nbSet_any b true ao k c (N1 + N2) w.heap.size _ (hz.stay hb1) hF).mono ?_; rintro e w2 ⟨rfl, rfl⟩))
 go_ret
 exact ⟨_, _, _, w1, rfl, hb1, hF.mono hb, fr_ne hF hbl, rfl⟩
theorem nbAdded_any (b base : Nat) (s1 s2 : Bool) (a1 a2 : Option Addr) (n1 n2 c1 c2 N1 N2 : Nat) (w : World) (hz : Zc w b) (hb : base ≤ w.heap.size) (h1 : Sl w a1 n1 c1 (limbs N1)) (h2 : Sl w a2 n2 c2 (limbs N2)) (hn1 : n1 ≤ 536870912) (hn2 : n2 ≤ 536870912) :
 Calls Tryz.prog 195 #[.pointer (some ⟨b, 0, none⟩), .slice a1 n1 c1, .bool s1, .slice a2 n2 c2, .bool s2] w (StZ 23 b base (sgv s1 N1 + sgv s2 N2) w) := by
 cases s1 <;> cases s2
 · exact nbAdded_ffS b base a1 a2 n1 n2 c1 c2 N1 N2 w hz hb h1 h2 hn1 hn2
 · rcases Nat.lt_or_ge N1 N2 with h | h
   · exact nbAdded_ftL b base a1 a2 n1 n2 c1 c2 N1 N2 w hz hb h1 h2 hn1 hn2 h
   · exact nbAdded_ftG b base a1 a2 n1 n2 c1 c2 N1 N2 w hz hb h1 h2 hn1 hn2 h
 · rcases Nat.lt_or_ge N1 N2 with h | h
   · exact nbAdded_tfL b base a1 a2 n1 n2 c1 c2 N1 N2 w hz hb h1 h2 hn1 hn2 h
   · exact nbAdded_tfG b base a1 a2 n1 n2 c1 c2 N1 N2 w hz hb h1 h2 hn1 hn2 h
 · exact nbAdded_ttS b base a1 a2 n1 n2 c1 c2 N1 N2 w hz hb h1 h2 hn1 hn2
theorem nbIAdd_any (b base B1 B2 b1 b2 : Nat) (x y : Int) (w : World) (hz : Zc w b) (hb : base ≤ w.heap.size) (h1 : Iz 23 w B1 b1 x) (h2 : Iz 23 w B2 b2 y) (l1 : ln x.natAbs ≤ 536870912) (l2 : ln y.natAbs ≤ 536870912) :
 Calls Tryz.prog 141 #[.pointer (some ⟨b, 0, none⟩), .pointer (some ⟨b1, 0, none⟩), .pointer (some ⟨b2, 0, none⟩)] w (StZ 23 b base (x + y) w) := by
 obtain ⟨a1, n1, c1, h1⟩ := h1
 obtain ⟨a2, n2, c2, h2⟩ := h2
 have hC := nbAdded_any b base (decide (x < 0)) (decide (y < 0)) a1 a2 n1 n2 c1 c2 x.natAbs y.natAbs w.drew (hz.stay (Below.refl _ _).drew) hb (h1.stay (Below.refl _ _).drew).fr.sl (h2.stay (Below.refl _ _).drew).fr.sl (by rw [h1.len]; exact l1) (by rw [h2.len]; exact l2)
 rw [sgv_of, sgv_of] at hC
 obtain ⟨d0, d1, _, _, _, _, _⟩ := h1
 obtain ⟨e0, e1, _, _, _, _, _⟩ := h2
 clear l1 l2
 go_enter Tryz.func141, Tryz.ntmps141
 go_wp2
 go_still_tail 17, (by kernel_rfl)
 change wpList _ _ _ _ _ w.drew
 generalize hw2 : w.drew = w2 at hC
 go_wp2_with (go_at_call 195; refine hC.mono ?_; rintro e w1 hS; obtain ⟨ao, k, c, w3, rfl, hb1, hF, hne, rfl⟩ := hS)
 go_ret
 exact ⟨ao, k, c, w3, rfl, undrew (by rw [hw2]; exact hb1), hF, hne, rfl⟩
theorem nbISub_any (b base B1 B2 b1 b2 : Nat) (x y : Int) (w : World) (hz : Zc w b) (hb : base ≤ w.heap.size) (h1 : Iz 23 w B1 b1 x) (h2 : Iz 23 w B2 b2 y) (l1 : ln x.natAbs ≤ 536870912) (l2 : ln y.natAbs ≤ 536870912) :
 Calls Tryz.prog 232 #[.pointer (some ⟨b, 0, none⟩), .pointer (some ⟨b1, 0, none⟩), .pointer (some ⟨b2, 0, none⟩)] w (StZ 23 b base (x - y) w) := by
 obtain ⟨a1, n1, c1, h1⟩ := h1
 obtain ⟨a2, n2, c2, h2⟩ := h2
 have hC := nbAdded_any b base (decide (x < 0)) (!decide (y < 0)) a1 a2 n1 n2 c1 c2 x.natAbs y.natAbs w.drew (hz.stay (Below.refl _ _).drew) hb (h1.stay (Below.refl _ _).drew).fr.sl (h2.stay (Below.refl _ _).drew).fr.sl (by rw [h1.len]; exact l1) (by rw [h2.len]; exact l2)
 rw [sgv_of, sgv_not, ← Int.sub_eq_add_neg] at hC
 obtain ⟨d0, d1, _, _, _, _, _⟩ := h1
 obtain ⟨e0, e1, _, _, _, _, _⟩ := h2
 clear l1 l2
 go_enter Tryz.func232, Tryz.ntmps232
 go_wp2
 go_still_tail 18, (by kernel_rfl)
 change wpList _ _ _ _ _ w.drew
 generalize hw2 : w.drew = w2 at hC
 go_wp2_with (go_at_call 195; refine hC.mono ?_; rintro e w1 hS; obtain ⟨ao, k, c, w3, rfl, hb1, hF, hne, rfl⟩ := hS)
 go_ret
 exact ⟨ao, k, c, w3, rfl, undrew (by rw [hw2]; exact hb1), hF, hne, rfl⟩
end
section
attribute [local go_sem ↓] Go.wp_at_zero Go.wp_at_succ
theorem nbQuoRem_any (b br B1 B2 b1 b2 : Nat) (x y : Int) (w : World) (hz : Zc w b) (hr : Zc w br) (ne : br ≠ b) (h1 : Iz 23 w B1 b1 x) (h2 : Iz 23 w B2 b2 y) (hy : y ≠ 0) (l1 : ln x.natAbs ≤ 1073741824) :
 Calls Tryz.prog 231 #[.pointer (some ⟨b, 0, none⟩), .pointer (some ⟨b1, 0, none⟩), .pointer (some ⟨b2, 0, none⟩), .pointer (some ⟨br, 0, none⟩)] w (QrZ 23 b br (x.tdiv y) (x.tmod y) w) := by
 obtain ⟨a1, n1, c1, h1⟩ := h1
 obtain ⟨a2, n2, c2, h2⟩ := h2
 have hrl := hr.lt
 have hD : ∀ W, Below w.heap.size w W → Calls Tryz.prog 250 #[.slice a1 n1 c1, .slice a2 n2 c2] W (fun e w' => ∃ aq kq cq ar kr cr, e = .returned (.tuple #[.slice aq kq cq, .slice ar kr cr]) ∧ Fr 23 w' W.heap.size aq kq cq (limbs (x.natAbs / y.natAbs)) ∧ Fr 23 w' W.heap.size ar kr cr (limbs (x.natAbs % y.natAbs)) ∧ Below W.heap.size W w') := fun W hW => by
  have := nbDiv_any a1 a2 n1 n2 c1 c2 _ _ W (h1.stay hW).fr.sl (h2.stay hW).fr.sl (fine_limbs _) (fine_limbs _) (by rw [h1.len]; exact l1) (by rw [val_limbs']; omega)
  rw [val_limbs', val_limbs'] at this
  exact this
 have hS := Lib.hid (sgn_quo x y)
 obtain ⟨d0, d1, _, _, _, _, _⟩ := h1
 obtain ⟨e0, e1, _, _, _, _, _⟩ := h2
 generalize decide (x < 0) = s1 at *
 generalize decide (y < 0) = s2 at *
 generalize x.natAbs / y.natAbs = Q at *
 generalize x.natAbs % y.natAbs = R at *
 clear l1 hy
 go_enter Tryz.func231, Tryz.ntmps231
 go_wp2
 go_quiet (fail)
 go_wp2
 go_region_with (go_at_call 250; (with_reducible refine (hD _ ?_).mono ?_); (first | exact Below.refl _ _ | exact Below.drew (Below.refl _ _) | exact drewn (Below.refl _ _) _ | exact (drewn (Below.refl _ _) _).drew); rintro e w1 ⟨aq, kq, cq, ar, kr, cr, rfl, hFq, hFr, hb1⟩; have hbw : Below w.heap.size w w1 := (by first | exact hb1 | exact undrew hb1 | exact next (drewn (Below.refl _ _) _) hb1 | exact next (drewn (Below.refl _ _) _).drew hb1))
 all_goals
  go_wp2_with fail
  refine (nbSet_any br s1 ar kr cr R _ _ (hr.stay hbw) hFr).mono ?_
  rintro e w2 ⟨rfl, rfl⟩
  go_wp2_with fail
  refine (nbSet_any b (!(s1 == s2)) aq kq cq Q _ _ ((hz.stay hbw).setOther (Ne.symm ne) _ _) (fr_grown hFq (setIn_grown _ _ _ _) hrl)).mono ?_
  rintro e w2 ⟨rfl, rfl⟩
  go_wp2
  go_ret2
  obtain ⟨q1, q2, q3, q4⟩ := hS.out
  refine ⟨aq, kq, cq, ar, kr, cr, w1, rfl, hbw, ?_, ?_, ?_⟩
  · rw [← q2]; exact hFq
  · rw [← q4]; exact hFr
  · rw [← q1, ← q3]; rfl
theorem nbLsh_any (b base B1 b1 k : Nat) (x : Int) (w : World) (hz : Zc w b) (hb : base ≤ w.heap.size) (h1 : Iz 23 w B1 b1 x) (l1 : ln x.natAbs ≤ 4294967296) (hk : k ≤ 4294967296) :
 Calls Tryz.prog 101 #[.pointer (some ⟨b, 0, none⟩), .pointer (some ⟨b1, 0, none⟩), .int .u64 (k : Int)] w (StZ 23 b base (x * 2 ^ k) w) := by
 obtain ⟨a1, n1, c1, h1⟩ := h1
 have hbl := hz.lt
 have hM : ∀ (z : Int) W, z = (k : Int) → Below w.heap.size w W → Calls Tryz.prog 155 #[.slice a1 n1 c1, .int .i64 z] W (Wd 23 (x.natAbs * 2 ^ k) W) := fun z W hzk hW => by
  have := nbUp_any a1 n1 c1 k z hzk _ W (h1.stay hW).fr.sl (by rw [h1.len]; exact l1) hk
  rwa [val_limbs'] at this
 have hS := Lib.hid (sgn_shl x k)
 have hwk : IntKind.i64.wrap (k : Int) = (k : Int) := IntWalk.i64_in _ (by omega)
 obtain ⟨d0, d1, _, _, _, _, _⟩ := h1
 generalize decide (x < 0) = s1 at *
 generalize x.natAbs * 2 ^ k = M at *
 clear l1
 go_enter Tryz.func101, Tryz.ntmps101
 go_wp2
 go_region_with (first
  | (go_at_call 155; (with_reducible refine (hM _ _ (by first | rfl | omega | simp) ?_).mono ?_); (exact (Below.refl _ _).drew); rintro e w1 ⟨ao, k, c, rfl, hF, hb1⟩; replace hb1 := undrew hb1; have f0 := cellStay d0 hb1)
  | (go_at_call 154; (with_reducible refine (nbSet_any b s1 ao k c M _ _ (hz.stay hb1) hF).mono ?_); rintro e w2 ⟨rfl, rfl⟩))
 all_goals go_wp2
 all_goals go_ret
 all_goals (unfold StZ; rw [← hS.out.1, ← hS.out.2]; exact ⟨_, _, _, w1, rfl, hb1, hF.mono hb, fr_ne hF hbl, rfl⟩)
theorem nbRsh_any (b base B1 b1 k : Nat) (x : Nat) (w : World) (hz : Zc w b) (hb : base ≤ w.heap.size) (h1 : Iz 23 w B1 b1 (x : Int)) (l1 : ln x ≤ 4294967296) (hk : k ≤ 4294967296) :
 Calls Tryz.prog 102 #[.pointer (some ⟨b, 0, none⟩), .pointer (some ⟨b1, 0, none⟩), .int .u64 (k : Int)] w (StZ 23 b base ((x / 2 ^ k : Nat) : Int) w) := by
 obtain ⟨a1, n1, c1, h1⟩ := h1
 rw [nonneg_dec (by omega), Int.natAbs_natCast] at h1
 have hbl := hz.lt
 have hM : ∀ (z : Int), z = (k : Int) → Calls Tryz.prog 156 #[.slice a1 n1 c1, .int .i64 z] w (Wd 23 (x / 2 ^ k) w) := fun z hzk => by
  have := nbDown_any a1 n1 c1 k z hzk _ w h1.fr.sl (by rw [h1.len]; exact l1) (by omega)
  rwa [val_limbs'] at this
 have hwk : IntKind.i64.wrap (k : Int) = (k : Int) := IntWalk.i64_in _ (by omega)
 have hnn : (0 : Int) ≤ ((x / 2 ^ k : Nat) : Int) := Int.natCast_nonneg _
 unfold StZ
 rw [nonneg_dec hnn, Int.natAbs_natCast]
 clear hnn
 obtain ⟨d0, d1, _, _, _, _, _⟩ := h1
 generalize x / 2 ^ k = M at *
 clear l1
 go_enter Tryz.func102, Tryz.ntmps102
 go_wp2_with (first
  | (go_at_call 156; (with_reducible refine (hM _ (by first | rfl | omega | simp)).mono ?_); rintro e w1 ⟨ao, k, c, rfl, hF, hb1⟩; have f0 := cellStay d0 hb1; have f1 := cellStay d1 hb1)
  | (go_at_call 154; (with_reducible refine (nbSet_any b false ao k c M _ _ (hz.stay hb1) hF).mono ?_); rintro e w2 ⟨rfl, rfl⟩))
 go_ret
 exact ⟨_, _, _, w1, rfl, hb1, hF.mono hb, fr_ne hF hbl, rfl⟩
theorem nbUint64_any (base b : Nat) (x : Nat) (w : World) (h : Iz 23 w base b (x : Int)) (hx : x < 18446744073709551616) :
 Calls Tryz.prog 107 #[.pointer (some ⟨b, 0, none⟩)] w fun e w' => e = .returned (.int .u64 (x : Int)) ∧ w = w' := by
 obtain ⟨ao, k, c, h⟩ := h
 rw [nonneg_dec (by omega), Int.natAbs_natCast] at h
 have hs := h.fr.sl
 have hv := small_words (ok_limbs x) (ln_small2 hx)
 rw [val_limbs'] at hv
 have hC := nbToUint_any ao k c (limbs x) w hs
 rw [← hv] at hC
 obtain ⟨d0, d1, _, _, _, _, _⟩ := h
 clear hs hv
 go_enter Tryz.func107, Tryz.ntmps107
 go_wp2_with (go_at_call 161; refine hC.mono ?_; rintro e w1 ⟨rfl, rfl⟩)
 go_ret
 exact ⟨rfl, rfl⟩
theorem nbNewZ_any (x : Int) (w : World) (hx : -9223372036854775808 ≤ x ∧ x ≤ 9223372036854775807) :
 Calls Tryz.prog 100 #[.int .i64 x] w (MkZ 23 x w) :=
 (nbNewInt_any x w hx).mono fun _ _ h => h.z rfl rfl
theorem nbSetZ_any (b base B1 b1 : Nat) (x : Int) (w : World) (hz : Zc w b) (hb : base ≤ w.heap.size) (h1 : Iz 23 w B1 b1 x) (l1 : ln x.natAbs ≤ 4294967296) :
 Calls Tryz.prog 192 #[.pointer (some ⟨b, 0, none⟩), .pointer (some ⟨b1, 0, none⟩)] w (StZ 23 b base x w) := by
 obtain ⟨a1, n1, c1, h1⟩ := h1
 have := nbISet_any b base B1 b1 _ a1 n1 c1 _ w hz hb h1 (by rw [h1.len]; exact l1)
 rwa [nzB_nat _ _ rfl] at this
theorem nbNegZ_any (b base B1 b1 : Nat) (x : Int) (w : World) (hz : Zc w b) (hb : base ≤ w.heap.size) (h1 : Iz 23 w B1 b1 x) (l1 : ln x.natAbs ≤ 4294967296) :
 Calls Tryz.prog 103 #[.pointer (some ⟨b, 0, none⟩), .pointer (some ⟨b1, 0, none⟩)] w (StZ 23 b base (-x) w) := by
 obtain ⟨a1, n1, c1, h1⟩ := h1
 have := nbNeg_any b base B1 b1 _ a1 n1 c1 _ w hz hb h1 (by rw [h1.len]; exact l1)
 unfold StZ
 rw [← (nzB_neg x).1, ← (nzB_neg x).2]
 exact this
theorem nbSignZ_any (b base : Nat) (x : Int) (w : World) (h : Iz 23 w base b x) :
 Calls Tryz.prog 105 #[.pointer (some ⟨b, 0, none⟩)] w fun e w' => e = .returned (.int .i64 x.sign) ∧ w = w' := by
 obtain ⟨a1, n1, c1, h⟩ := h
 have := nbSign_any b base _ a1 n1 c1 _ w h
 rwa [sgnI_z] at this
theorem nbCmpN_any (B1 B2 b1 b2 : Nat) (x y : Nat) (w : World) (h1 : Iz 23 w B1 b1 (x : Int)) (h2 : Iz 23 w B2 b2 (y : Int)) :
 Calls Tryz.prog 104 #[.pointer (some ⟨b1, 0, none⟩), .pointer (some ⟨b2, 0, none⟩)] w fun e w' => e = .returned (.int .i64 (cmpN x y)) ∧ Below w.heap.size w w' := by
 obtain ⟨a1, n1, c1, h1⟩ := iz_nat h1
 obtain ⟨a2, n2, c2, h2⟩ := iz_nat h2
 exact nbICmp_any B1 B2 b1 b2 a1 a2 n1 n2 c1 c2 x y w h1 h2
end
section
attribute [local go_sem ↓] Go.wp_at_zero Go.wp_at_succ
end
end Go.Proofs.YtoiifhmepniniaaGreatDoor
