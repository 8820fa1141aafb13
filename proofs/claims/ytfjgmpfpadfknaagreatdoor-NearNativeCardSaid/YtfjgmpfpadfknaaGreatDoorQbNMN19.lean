/-
  Contracts of numeral/big: Int: added, Add, Sub, Mul, QuoRem, Lsh, Rsh, Bit, Uint64, SetUint64, Abs. (Printed by wip/gen/bigY.py.) Contracts of numeral/big: Int: QuoRem, Lsh, Rsh, And, Or, Bit, Uint64, DivMod, Div. (Printed by wip/gen/bigW.py.) Contracts of numeral/big: Int: And, Or, Exp. (Printed by wip/gen/bigV.py.)
-/
import Derived.Test.YtfjgmpfpadfknaaGreatDoorQbNBgK
import Derived.Test.YtfjgmpfpadfknaaGreatDoorQbNBgI
import Derived.StillTailTactics
import Derived.Deep.DrawnRows
import Derived.Test.YtfjgmpfpadfknaaGreatDoorQbNMN13
import Derived.Laws.EntriesVeiled
import Derived.Outline
set_option maxHeartbeats 1600000
set_option maxRecDepth 100000
namespace Go.Proofs.YtfjgmpfpadfknaaGreatDoor
open Go.RowKit Go.Lb
section
attribute [local go_sem ↓] Go.wp_at_zero Go.wp_at_succ
theorem bgAdded_ffS (b base : Nat) (a1 a2 : Option Addr) (n1 n2 c1 c2 N1 N2 : Nat) (w : World) (hz : Zc w b) (hb : base ≤ w.heap.size) (h1 : Sl w a1 n1 c1 (limbs N1)) (h2 : Sl w a2 n2 c2 (limbs N2)) (hn1 : n1 ≤ 536870912) (hn2 : n2 ≤ 536870912) :
 Calls Tryz.prog 230 #[.pointer (some ⟨b, 0, none⟩), .slice a1 n1 c1, .bool false, .slice a2 n2 c2, .bool false] w (StZ 75 b base (sgv false N1 + sgv false N2) w) := by
 have hbl := hz.lt
 rw [sgv_add false N1 N2, StZ_sgv]
 have hA := bgAddW_any a1 a2 n1 n2 c1 c2 (limbs N1) (limbs N2) w h1 h2 (by omega) (by omega)
 rw [val_limbs', val_limbs'] at hA
 clear h1 h2
 go_enter Tryz.func230, Tryz.ntmps230
 go_wp2_with (first
  | (go_at_call 190; refine hA.mono ?_; rintro e w1 ⟨ao, k, c, rfl, hF, hb1⟩)
  | (go_at_call 152; refine (bgSet_any b false ao k c (N1 + N2) w.heap.size _ (hz.stay hb1) hF).mono ?_; rintro e w2 ⟨rfl, rfl⟩))
 go_ret
 exact ⟨_, _, _, w1, rfl, hb1, hF.mono hb, fr_ne hF hbl, rfl⟩
theorem bgAdded_ftG (b base : Nat) (a1 a2 : Option Addr) (n1 n2 c1 c2 N1 N2 : Nat) (w : World) (hz : Zc w b) (hb : base ≤ w.heap.size) (h1 : Sl w a1 n1 c1 (limbs N1)) (h2 : Sl w a2 n2 c2 (limbs N2)) (hn1 : n1 ≤ 536870912) (_hn2 : n2 ≤ 536870912) (hle : N2 ≤ N1) :
 Calls Tryz.prog 230 #[.pointer (some ⟨b, 0, none⟩), .slice a1 n1 c1, .bool false, .slice a2 n2 c2, .bool true] w (StZ 75 b base (sgv false N1 + sgv true N2) w) := by
 have hbl := hz.lt
 rw [(sgv_sub (by decide) hle).1, StZ_sgv]
 have l1 := h1.len
 have l2 := h2.len
 have hC : Calls Tryz.prog 135 #[.slice a1 n1 c1, .slice a2 n2 c2] w fun e w' => e = .returned (.int .i64 (cmpN N1 N2)) ∧ Below w.heap.size w w' := by
  have := bgCmp_any a1 a2 n1 n2 c1 c2 (limbs N1) (limbs N2) w h1 h2 (fine_limbs _) (fine_limbs _)
  rwa [val_limbs', val_limbs'] at this
 have hm := limbs_mono (A := N1) (B := N2) (by omega)
 rw [l1, l2] at hm
 have hA : ∀ W, Below w.heap.size w W → Calls Tryz.prog 191 #[.slice a1 n1 c1, .slice a2 n2 c2] W (Wd 75 (N1 - N2) W) := fun W hW => by
  have := bgSubW_any a1 a2 n1 n2 c1 c2 (limbs N1) (limbs N2) W (h1.below hW) (h2.below hW) (by omega) hm (by rw [val_limbs', val_limbs']; omega)
  rwa [val_limbs', val_limbs'] at this
 have hc : cmpN N1 N2 ≥ 0 := by unfold cmpN; split <;> (try split) <;> omega
 generalize cmpN N1 N2 = q at *
 clear h1 h2 l1 l2 hm
 go_enter Tryz.func230, Tryz.ntmps230
 go_wp2_with (first
  | (go_at_call 135; refine hC.mono ?_; rintro e w0 ⟨rfl, hb0⟩)
  | (go_at_call 191; refine (hA _ hb0).mono ?_; rintro e w1 ⟨ao, k, c, rfl, hF, hb1⟩)
  | (go_at_call 152; refine (bgSet_any b false ao k c (N1 - N2) w0.heap.size _ ((hz.stay hb0).stay hb1) hF).mono ?_; rintro e w2 ⟨rfl, rfl⟩))
 go_ret
 exact ⟨_, _, _, w1, rfl, next hb0 hb1, hF.mono (Nat.le_trans hb hb0.size), fr_ne hF (Nat.lt_of_lt_of_le hbl hb0.size), rfl⟩
theorem bgAdded_ftL (b base : Nat) (a1 a2 : Option Addr) (n1 n2 c1 c2 N1 N2 : Nat) (w : World) (hz : Zc w b) (hb : base ≤ w.heap.size) (h1 : Sl w a1 n1 c1 (limbs N1)) (h2 : Sl w a2 n2 c2 (limbs N2)) (_hn1 : n1 ≤ 536870912) (hn2 : n2 ≤ 536870912) (hlt : N1 < N2) :
 Calls Tryz.prog 230 #[.pointer (some ⟨b, 0, none⟩), .slice a1 n1 c1, .bool false, .slice a2 n2 c2, .bool true] w (StZ 75 b base (sgv false N1 + sgv true N2) w) := by
 have hbl := hz.lt
 rw [(sgv_sub (s := true) (t := false) (by decide) (Nat.le_of_lt hlt)).2, StZ_sgv]
 have l1 := h1.len
 have l2 := h2.len
 have hC : Calls Tryz.prog 135 #[.slice a1 n1 c1, .slice a2 n2 c2] w fun e w' => e = .returned (.int .i64 (cmpN N1 N2)) ∧ Below w.heap.size w w' := by
  have := bgCmp_any a1 a2 n1 n2 c1 c2 (limbs N1) (limbs N2) w h1 h2 (fine_limbs _) (fine_limbs _)
  rwa [val_limbs', val_limbs'] at this
 have hm := limbs_mono (A := N2) (B := N1) (by omega)
 rw [l1, l2] at hm
 have hA : ∀ W, Below w.heap.size w W → Calls Tryz.prog 191 #[.slice a2 n2 c2, .slice a1 n1 c1] W (Wd 75 (N2 - N1) W) := fun W hW => by
  have := bgSubW_any a2 a1 n2 n1 c2 c1 (limbs N2) (limbs N1) W (h2.below hW) (h1.below hW) (by omega) hm (by rw [val_limbs', val_limbs']; omega)
  rwa [val_limbs', val_limbs'] at this
 have hc : ¬ cmpN N1 N2 ≥ 0 := by unfold cmpN; rw [if_pos hlt]; decide
 generalize cmpN N1 N2 = q at *
 clear h1 h2 l1 l2 hm
 go_enter Tryz.func230, Tryz.ntmps230
 go_wp2_with (first
  | (go_at_call 135; refine hC.mono ?_; rintro e w0 ⟨rfl, hb0⟩)
  | (go_at_call 191; refine (hA _ hb0).mono ?_; rintro e w1 ⟨ao, k, c, rfl, hF, hb1⟩)
  | (go_at_call 152; refine (bgSet_any b true ao k c (N2 - N1) w0.heap.size _ ((hz.stay hb0).stay hb1) hF).mono ?_; rintro e w2 ⟨rfl, rfl⟩))
 go_ret
 exact ⟨_, _, _, w1, rfl, next hb0 hb1, hF.mono (Nat.le_trans hb hb0.size), fr_ne hF (Nat.lt_of_lt_of_le hbl hb0.size), rfl⟩
theorem bgAdded_tfG (b base : Nat) (a1 a2 : Option Addr) (n1 n2 c1 c2 N1 N2 : Nat) (w : World) (hz : Zc w b) (hb : base ≤ w.heap.size) (h1 : Sl w a1 n1 c1 (limbs N1)) (h2 : Sl w a2 n2 c2 (limbs N2)) (hn1 : n1 ≤ 536870912) (_hn2 : n2 ≤ 536870912) (hle : N2 ≤ N1) :
 Calls Tryz.prog 230 #[.pointer (some ⟨b, 0, none⟩), .slice a1 n1 c1, .bool true, .slice a2 n2 c2, .bool false] w (StZ 75 b base (sgv true N1 + sgv false N2) w) := by
 have hbl := hz.lt
 rw [(sgv_sub (by decide) hle).1, StZ_sgv]
 have l1 := h1.len
 have l2 := h2.len
 have hC : Calls Tryz.prog 135 #[.slice a1 n1 c1, .slice a2 n2 c2] w fun e w' => e = .returned (.int .i64 (cmpN N1 N2)) ∧ Below w.heap.size w w' := by
  have := bgCmp_any a1 a2 n1 n2 c1 c2 (limbs N1) (limbs N2) w h1 h2 (fine_limbs _) (fine_limbs _)
  rwa [val_limbs', val_limbs'] at this
 have hm := limbs_mono (A := N1) (B := N2) (by omega)
 rw [l1, l2] at hm
 have hA : ∀ W, Below w.heap.size w W → Calls Tryz.prog 191 #[.slice a1 n1 c1, .slice a2 n2 c2] W (Wd 75 (N1 - N2) W) := fun W hW => by
  have := bgSubW_any a1 a2 n1 n2 c1 c2 (limbs N1) (limbs N2) W (h1.below hW) (h2.below hW) (by omega) hm (by rw [val_limbs', val_limbs']; omega)
  rwa [val_limbs', val_limbs'] at this
 have hc : cmpN N1 N2 ≥ 0 := by unfold cmpN; split <;> (try split) <;> omega
 generalize cmpN N1 N2 = q at *
 clear h1 h2 l1 l2 hm
 go_enter Tryz.func230, Tryz.ntmps230
 go_wp2_with (first
  | (go_at_call 135; refine hC.mono ?_; rintro e w0 ⟨rfl, hb0⟩)
  | (go_at_call 191; refine (hA _ hb0).mono ?_; rintro e w1 ⟨ao, k, c, rfl, hF, hb1⟩)
  | (go_at_call 152; refine (bgSet_any b true ao k c (N1 - N2) w0.heap.size _ ((hz.stay hb0).stay hb1) hF).mono ?_; rintro e w2 ⟨rfl, rfl⟩))
 go_ret
 exact ⟨_, _, _, w1, rfl, next hb0 hb1, hF.mono (Nat.le_trans hb hb0.size), fr_ne hF (Nat.lt_of_lt_of_le hbl hb0.size), rfl⟩
theorem bgAdded_tfL (b base : Nat) (a1 a2 : Option Addr) (n1 n2 c1 c2 N1 N2 : Nat) (w : World) (hz : Zc w b) (hb : base ≤ w.heap.size) (h1 : Sl w a1 n1 c1 (limbs N1)) (h2 : Sl w a2 n2 c2 (limbs N2)) (_hn1 : n1 ≤ 536870912) (hn2 : n2 ≤ 536870912) (hlt : N1 < N2) :
 Calls Tryz.prog 230 #[.pointer (some ⟨b, 0, none⟩), .slice a1 n1 c1, .bool true, .slice a2 n2 c2, .bool false] w (StZ 75 b base (sgv true N1 + sgv false N2) w) := by
 have hbl := hz.lt
 rw [(sgv_sub (s := false) (t := true) (by decide) (Nat.le_of_lt hlt)).2, StZ_sgv]
 have l1 := h1.len
 have l2 := h2.len
 have hC : Calls Tryz.prog 135 #[.slice a1 n1 c1, .slice a2 n2 c2] w fun e w' => e = .returned (.int .i64 (cmpN N1 N2)) ∧ Below w.heap.size w w' := by
  have := bgCmp_any a1 a2 n1 n2 c1 c2 (limbs N1) (limbs N2) w h1 h2 (fine_limbs _) (fine_limbs _)
  rwa [val_limbs', val_limbs'] at this
 have hm := limbs_mono (A := N2) (B := N1) (by omega)
 rw [l1, l2] at hm
 have hA : ∀ W, Below w.heap.size w W → Calls Tryz.prog 191 #[.slice a2 n2 c2, .slice a1 n1 c1] W (Wd 75 (N2 - N1) W) := fun W hW => by
  have := bgSubW_any a2 a1 n2 n1 c2 c1 (limbs N2) (limbs N1) W (h2.below hW) (h1.below hW) (by omega) hm (by rw [val_limbs', val_limbs']; omega)
  rwa [val_limbs', val_limbs'] at this
 have hc : ¬ cmpN N1 N2 ≥ 0 := by unfold cmpN; rw [if_pos hlt]; decide
 generalize cmpN N1 N2 = q at *
 clear h1 h2 l1 l2 hm
 go_enter Tryz.func230, Tryz.ntmps230
 go_wp2_with (first
  | (go_at_call 135; refine hC.mono ?_; rintro e w0 ⟨rfl, hb0⟩)
  | (go_at_call 191; refine (hA _ hb0).mono ?_; rintro e w1 ⟨ao, k, c, rfl, hF, hb1⟩)
  | (go_at_call 152; refine (bgSet_any b false ao k c (N2 - N1) w0.heap.size _ ((hz.stay hb0).stay hb1) hF).mono ?_; rintro e w2 ⟨rfl, rfl⟩))
 go_ret
 exact ⟨_, _, _, w1, rfl, next hb0 hb1, hF.mono (Nat.le_trans hb hb0.size), fr_ne hF (Nat.lt_of_lt_of_le hbl hb0.size), rfl⟩
theorem bgAdded_ttS (b base : Nat) (a1 a2 : Option Addr) (n1 n2 c1 c2 N1 N2 : Nat) (w : World) (hz : Zc w b) (hb : base ≤ w.heap.size) (h1 : Sl w a1 n1 c1 (limbs N1)) (h2 : Sl w a2 n2 c2 (limbs N2)) (hn1 : n1 ≤ 536870912) (hn2 : n2 ≤ 536870912) :
 Calls Tryz.prog 230 #[.pointer (some ⟨b, 0, none⟩), .slice a1 n1 c1, .bool true, .slice a2 n2 c2, .bool true] w (StZ 75 b base (sgv true N1 + sgv true N2) w) := by
 have hbl := hz.lt
 rw [sgv_add true N1 N2, StZ_sgv]
 have hA := bgAddW_any a1 a2 n1 n2 c1 c2 (limbs N1) (limbs N2) w h1 h2 (by omega) (by omega)
 rw [val_limbs', val_limbs'] at hA
 clear h1 h2
 go_enter Tryz.func230, Tryz.ntmps230
 go_wp2_with (first
  | (go_at_call 190; refine hA.mono ?_; rintro e w1 ⟨ao, k, c, rfl, hF, hb1⟩)
  | (go_at_call 152; refine (bgSet_any b true ao k c (N1 + N2) w.heap.size _ (hz.stay hb1) hF).mono ?_; rintro e w2 ⟨rfl, rfl⟩))
 go_ret
 exact ⟨_, _, _, w1, rfl, hb1, hF.mono hb, fr_ne hF hbl, rfl⟩
theorem bgAdded_any (b base : Nat) (s1 s2 : Bool) (a1 a2 : Option Addr) (n1 n2 c1 c2 N1 N2 : Nat) (w : World) (hz : Zc w b) (hb : base ≤ w.heap.size) (h1 : Sl w a1 n1 c1 (limbs N1)) (h2 : Sl w a2 n2 c2 (limbs N2)) (hn1 : n1 ≤ 536870912) (hn2 : n2 ≤ 536870912) :
 Calls Tryz.prog 230 #[.pointer (some ⟨b, 0, none⟩), .slice a1 n1 c1, .bool s1, .slice a2 n2 c2, .bool s2] w (StZ 75 b base (sgv s1 N1 + sgv s2 N2) w) := by
 cases s1 <;> cases s2
 · exact bgAdded_ffS b base a1 a2 n1 n2 c1 c2 N1 N2 w hz hb h1 h2 hn1 hn2
 · rcases Nat.lt_or_ge N1 N2 with h | h
   · exact bgAdded_ftL b base a1 a2 n1 n2 c1 c2 N1 N2 w hz hb h1 h2 hn1 hn2 h
   · exact bgAdded_ftG b base a1 a2 n1 n2 c1 c2 N1 N2 w hz hb h1 h2 hn1 hn2 h
 · rcases Nat.lt_or_ge N1 N2 with h | h
   · exact bgAdded_tfL b base a1 a2 n1 n2 c1 c2 N1 N2 w hz hb h1 h2 hn1 hn2 h
   · exact bgAdded_tfG b base a1 a2 n1 n2 c1 c2 N1 N2 w hz hb h1 h2 hn1 hn2 h
 · exact bgAdded_ttS b base a1 a2 n1 n2 c1 c2 N1 N2 w hz hb h1 h2 hn1 hn2
theorem bgIAdd_any (b base B1 B2 b1 b2 : Nat) (x y : Int) (w : World) (hz : Zc w b) (hb : base ≤ w.heap.size) (h1 : Iz 75 w B1 b1 x) (h2 : Iz 75 w B2 b2 y) (l1 : ln x.natAbs ≤ 536870912) (l2 : ln y.natAbs ≤ 536870912) :
 Calls Tryz.prog 198 #[.pointer (some ⟨b, 0, none⟩), .pointer (some ⟨b1, 0, none⟩), .pointer (some ⟨b2, 0, none⟩)] w (StZ 75 b base (x + y) w) := by
 obtain ⟨a1, n1, c1, h1⟩ := h1
 obtain ⟨a2, n2, c2, h2⟩ := h2
 have hC := bgAdded_any b base (decide (x < 0)) (decide (y < 0)) a1 a2 n1 n2 c1 c2 x.natAbs y.natAbs w.drew (hz.stay (Below.refl _ _).drew) hb (h1.stay (Below.refl _ _).drew).fr.sl (h2.stay (Below.refl _ _).drew).fr.sl (by rw [h1.len]; exact l1) (by rw [h2.len]; exact l2)
 rw [sgv_of, sgv_of] at hC
 obtain ⟨d0, d1, _, _, _, _, _⟩ := h1
 obtain ⟨e0, e1, _, _, _, _, _⟩ := h2
 clear l1 l2
 go_enter Tryz.func198, Tryz.ntmps198
 go_wp2
 go_still_tail 17, (by kernel_rfl)
 change wpList _ _ _ _ _ w.drew
 generalize hw2 : w.drew = w2 at hC
 go_wp2_with (go_at_call 230; refine hC.mono ?_; rintro e w1 hS; obtain ⟨ao, k, c, w3, rfl, hb1, hF, hne, rfl⟩ := hS)
 go_ret
 exact ⟨ao, k, c, w3, rfl, undrew (by rw [hw2]; exact hb1), hF, hne, rfl⟩
end
section
attribute [local go_sem ↓] Go.wp_at_zero Go.wp_at_succ
theorem bgNewZ_any (x : Int) (w : World) (hx : -9223372036854775808 ≤ x ∧ x ≤ 9223372036854775807) :
 Calls Tryz.prog 100 #[.int .i64 x] w (MkZ 75 x w) :=
 (bgNewInt_any x w hx).mono fun _ _ h => h.z rfl rfl
theorem bgSetZ_any (b base B1 b1 : Nat) (x : Int) (w : World) (hz : Zc w b) (hb : base ≤ w.heap.size) (h1 : Iz 75 w B1 b1 x) (l1 : ln x.natAbs ≤ 4294967296) :
 Calls Tryz.prog 146 #[.pointer (some ⟨b, 0, none⟩), .pointer (some ⟨b1, 0, none⟩)] w (StZ 75 b base x w) := by
 obtain ⟨a1, n1, c1, h1⟩ := h1
 have := bgISet_any b base B1 b1 _ a1 n1 c1 _ w hz hb h1 (by rw [h1.len]; exact l1)
 rwa [nzB_nat _ _ rfl] at this
end
section
attribute [local go_sem ↓] Go.wp_at_zero Go.wp_at_succ
end
def sgQ' (s : Bool) (N D : Nat) : Rat := mkRat (if s = true then -(N : Int) else (N : Int)) D
theorem mk_low {s : Bool} {N D : Nat} (hD : D ≠ 0) (hG : Nat.gcd N D = 1) (hs : s = true → N ≠ 0) : (sgQ' s N D).num.natAbs = N ∧ (sgQ' s N D).den = D ∧ decide ((sgQ' s N D).num < 0) = s := by
 have hz : (if s = true then -(N : Int) else (N : Int)).natAbs = N := by cases s <;> simp
 obtain ⟨e1, e2, e3⟩ := mk_parts (if s = true then -(N : Int) else (N : Int)) hD
 rw [hz, hG, Nat.div_one] at e1 e2
 refine ⟨e1, e2, Eq.trans e3 ?_⟩
 cases s
 · exact decide_eq_false (by simp)
 · have := hs rfl
   exact decide_eq_true (by simp; omega)
def upN (M : Nat) (X : Int) : Nat := M * 2 ^ X.toNat
def upD (X : Int) : Nat := 2 ^ (-X).toNat
theorem upD_pos (X : Int) : upD X ≠ 0 := Nat.ne_of_gt (Nat.two_pow_pos _)
end Go.Proofs.YtfjgmpfpadfknaaGreatDoor
