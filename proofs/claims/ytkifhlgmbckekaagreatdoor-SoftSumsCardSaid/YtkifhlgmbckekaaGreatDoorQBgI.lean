/-
  Contracts of numeral/big: Int: set, SetWords, Sign, Cmp, SetInt64, NewInt, GCD, Neg, Set, BitLen. (Printed by wip/gen/bigH.py.) Contracts of numeral/big: Rat: set, SetFrac, Num, below, Denom, Sign. (Printed by wip/gen/bigH.py.)
-/
import Derived.Test.YtkifhlgmbckekaaGreatDoorBgE
import Derived.Test.YtkifhlgmbckekaaGreatDoorBigL
import Derived.Deep.CutRange
import Derived.Deep.RegionWith
namespace Go.Proofs.YtkifhlgmbckekaaGreatDoor

open Go.RowKit Go.Lb

set_option maxRecDepth 100000 in
set_option maxHeartbeats 1600000 in
theorem bgSet_any (b : Nat) (s : Bool) (ao : Option Addr) (n c N base : Nat) (w : World) (hz : Zc w b) (hf : Fr 150 w base ao n c (limbs N)) :
    Calls Tryz.prog 332 #[.pointer (some ⟨b, 0, none⟩), .bool s, .slice ao n c] w fun e w' => e = .returned (.pointer (some ⟨b, 0, none⟩)) ∧ w' = setIn w b (nzB s N) (.slice ao n c) := by
  have hnil : ao = none → c = 0 := fun h => by
    rcases hf.blk with ⟨_, _, h1⟩ | ⟨g, cur, h1, _⟩
    · exact h1
    · rw [h1] at h; cases h
  have hk : Hid (n = (limbs (val (limbs N))).length) := Lib.hid (by rw [val_limbs']; exact hf.sl.len.symm)
  have hs := hf.sl
  obtain ⟨c0, c1, z0, z1⟩ := hz
  by_cases hN : N = 0
  · have hn : n = 0 := by rw [← hs.len, hN, limbs_zero]; rfl
    have hd : Hid ((nzB s N) = false) := Lib.hid (by simp [nzB, hN])
    clear hN
    subst hn
    cases s
    all_goals
      go_enter Tryz.func332, Tryz.ntmps332
      go_wp2_with (go_at_call 334; (with_reducible refine (bgTrim_len ao (0 : Nat) c (0 : Nat) (limbs N) _ hs hk hnil).mono ?_); rintro e w1 ⟨rfl, rfl⟩)
      go_ret
      exact ⟨rfl, by rw [hd.out]; rfl⟩
  · have hn : 0 < n := by
      rw [← hs.len]
      exact List.length_pos_iff.2 fun h => hN (by have := val_limbs' N; rw [h] at this; exact this.symm)
    have hd : Hid (∀ t : Bool, nzB t N = t) := Lib.hid (by intro t; simp [nzB, hN])
    have hn1 : (n : Int) > 0 := by omega
    clear hN
    cases s
    all_goals
      go_enter Tryz.func332, Tryz.ntmps332
      go_wp2_with (go_at_call 334; (with_reducible refine (bgTrim_len ao n c n (limbs N) _ hs hk hnil).mono ?_); rintro e w1 ⟨rfl, rfl⟩)
      go_ret
      exact ⟨rfl, by rw [hd.out]; rfl⟩

set_option maxHeartbeats 1600000 in
theorem bgSign_any (b base : Nat) (s : Bool) (ao : Option Addr) (k c N : Nat) (w : World) (h : In 150 w base b s ao k c N) :
    Calls Tryz.prog 185 #[.pointer (some ⟨b, 0, none⟩)] w fun e w' => e = .returned (.int .i64 (sgnI s N)) ∧ w = w' := by
  have hnil := h.nil
  obtain ⟨c0, c1, z0, z1, hf, hne, hb⟩ := h
  by_cases hk : k = 0
  · have hs : Hid (sgnI s N = 0) := Lib.hid (by unfold sgnI; rw [if_pos (hnil.2 hk)])
    subst hk
    clear hf hnil
    go_enter Tryz.func185, Tryz.ntmps185
    go_wp2
    go_ret
    exact ⟨by rw [hs.out]; rfl, rfl⟩
  · have hN : ¬ N = 0 := fun hh => hk (hnil.1 hh)
    have hk1 : ((k : Int) == 0) = false := by simp [hk]
    cases s
    · have hs : Hid (sgnI false N = 1) := Lib.hid (by unfold sgnI; rw [if_neg hN]; rfl)
      clear hf hnil hN
      go_enter Tryz.func185, Tryz.ntmps185
      go_wp2
      go_ret
      exact ⟨by rw [hs.out]; rfl, rfl⟩
    · have hs : Hid (sgnI true N = -1) := Lib.hid (by unfold sgnI; rw [if_neg hN]; rfl)
      clear hf hnil hN
      go_enter Tryz.func185, Tryz.ntmps185
      go_wp2
      go_ret
      exact ⟨by rw [hs.out]; rfl, rfl⟩

set_option maxHeartbeats 1600000 in
theorem bgSetInt64_any (b base : Nat) (x : Int) (w : World) (hz : Zc w b) (hb : base ≤ w.heap.size) (hx : -9223372036854775808 ≤ x ∧ x ≤ 9223372036854775807) :
    Calls Tryz.prog 274 #[.pointer (some ⟨b, 0, none⟩), .int .i64 x] w (StI 150 b base (decide (x < 0)) x.natAbs w) := by
  have hbl := hz.lt
  obtain ⟨hx1, hx2⟩ := hx
  by_cases h0 : x < 0
  · have hd : Hid (nzB true x.natAbs = decide (x < 0)) := Lib.hid (by unfold nzB; rw [decide_eq_true h0, decide_eq_true (by omega)]; rfl)
    have hx3 : x.natAbs < 18446744073709551616 := by omega
    have hx4 : IntKind.u64.wrap (-(IntKind.u64.wrap x)) = (x.natAbs : Int) := by rw [IntKind.wrap_u64, IntKind.wrap_u64]; omega
    have H4 := Lib.hid hx4
    clear hx4
    go_enter Tryz.func274, Tryz.ntmps274
    go_wp2_with (first
      | (go_at_call 335; refine (bgFromUint_any x.natAbs _ (by first | exact H4.out | (have := H4.out; simp only [IntKind.wrap_u64] at this ⊢; omega)) _ hx3).mono ?_; rintro e w1 ⟨ao, k, c, rfl, hF, hb1⟩)
      | (go_at_call 332; refine (bgSet_any b true ao k c x.natAbs w.heap.size _ (hz.stay hb1) hF).mono ?_; rintro e w2 ⟨rfl, rfl⟩))
    go_ret
    exact ⟨_, _, _, w1, rfl, hb1, hF.mono hb, fr_ne hF hbl, by rw [hd.out]⟩
  · have hd : Hid (decide (x < 0) = false) := Lib.hid (decide_eq_false h0)
    have hx3 : x.natAbs < 18446744073709551616 := by omega
    have hx4 : IntKind.u64.wrap x = (x.natAbs : Int) := by rw [IntKind.wrap_u64]; omega
    have H4 := Lib.hid hx4
    clear hx4
    go_enter Tryz.func274, Tryz.ntmps274
    go_wp2_with (first
      | (go_at_call 335; refine (bgFromUint_any x.natAbs _ (by first | exact H4.out | (have := H4.out; simp only [IntKind.wrap_u64] at this ⊢; omega)) _ hx3).mono ?_; rintro e w1 ⟨ao, k, c, rfl, hF, hb1⟩)
      | (go_at_call 332; refine (bgSet_any b false ao k c x.natAbs w.heap.size _ (hz.stay hb1) hF).mono ?_; rintro e w2 ⟨rfl, rfl⟩))
    go_ret
    exact ⟨_, _, _, w1, rfl, hb1, hF.mono hb, fr_ne hF hbl, by rw [hd.out]; rfl⟩

set_option maxHeartbeats 1600000 in
theorem bgNewInt_any (x : Int) (w : World) (hx : -9223372036854775808 ≤ x ∧ x ≤ 9223372036854775807) :
    Calls Tryz.prog 177 #[.int .i64 x] w (MkI 150 (decide (x < 0)) x.natAbs w) := by
  go_enter Tryz.func177, Tryz.ntmps177
  go_wp2_with (go_at_call 274; refine (bgSetInt64_any w.heap.size w.heap.size x _ (zc_new _ _ _ _) (by simp) hx).mono ?_; rintro e w2 hS; obtain ⟨b, ao, k, c, rfl, hI, hb⟩ := hS.mk)
  go_ret
  exact ⟨b, ao, k, c, rfl, hI, hb⟩

set_option maxRecDepth 100000 in
set_option maxHeartbeats 1600000 in
theorem bgICmp_any (B1 B2 b1 b2 : Nat) (a1 a2 : Option Addr) (n1 n2 c1 c2 N1 N2 : Nat) (w : World) (h1 : In 150 w B1 b1 false a1 n1 c1 N1) (h2 : In 150 w B2 b2 false a2 n2 c2 N2) :
    Calls Tryz.prog 282 #[.pointer (some ⟨b1, 0, none⟩), .pointer (some ⟨b2, 0, none⟩)] w fun e w' => e = .returned (.int .i64 (cmpN N1 N2)) ∧ Below w.heap.size w w' := by
  have hC : ∀ W, Below w.heap.size w W → Calls Tryz.prog 345 #[.slice a1 n1 c1, .slice a2 n2 c2] W fun e w' => e = .returned (.int .i64 (cmpN N1 N2)) ∧ Below W.heap.size W w' := fun W hW => by
    have := bgCmp_any a1 a2 n1 n2 c1 c2 (limbs N1) (limbs N2) W (h1.fr.sl.below hW) (h2.fr.sl.below hW) (fine_limbs _) (fine_limbs _)
    rwa [val_limbs', val_limbs'] at this
  obtain ⟨d0, d1, _, _, _, _, _⟩ := h1
  obtain ⟨e0, e1, _, _, _, _, _⟩ := h2
  go_enter Tryz.func282, Tryz.ntmps282
  go_wp2
  go_quiet (fail)
  go_wp2
  go_region_with (go_at_call 345; refine (hC _ (by first | exact Below.refl _ _ | exact Below.drew (Below.refl _ _) | exact Below.drew (Below.drew (Below.refl _ _)) | exact drewn (Below.refl _ _) _ | exact (drewn (Below.refl _ _) _).drew)).mono ?_; rintro e w1 ⟨rfl, hb1⟩; replace hb1 : Below w.heap.size w w1 := (by first | exact hb1 | exact undrew hb1 | exact next (drewn (Below.refl _ _) _) hb1 | exact next (drewn (Below.refl _ _) _).drew hb1))
  all_goals go_wp2
  all_goals go_ret
  all_goals exact ⟨rfl, hb1⟩

set_option maxHeartbeats 1600000 in
theorem bgIBitLen_any (b base : Nat) (s : Bool) (ao : Option Addr) (k c N : Nat) (w : World) (h : In 150 w base b s ao k c N) (hk : k ≤ 4294967296) :
    Calls Tryz.prog 180 #[.pointer (some ⟨b, 0, none⟩)] w fun e w' => e = .returned (.int .i64 (szN (limbs N) : Int)) ∧ w = w' := by
  have hs := h.fr.sl
  obtain ⟨c0, c1, _, _, _, _, _⟩ := h
  go_enter Tryz.func180, Tryz.ntmps180
  go_wp2_with (go_at_call 275; refine (bgBitLen_any ao k c (limbs N) _ hs hk).mono ?_; rintro e w1 ⟨rfl, rfl⟩)
  go_ret
  exact ⟨rfl, rfl⟩

end Go.Proofs.YtkifhlgmbckekaaGreatDoor

namespace Go.Proofs.YtkifhlgmbckekaaGreatDoor

open Go.RowKit Go.Lb

end Go.Proofs.YtkifhlgmbckekaaGreatDoor

