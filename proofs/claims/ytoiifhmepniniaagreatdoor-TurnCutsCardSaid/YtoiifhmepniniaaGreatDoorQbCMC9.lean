/-
  Contracts of numeral/big: Int: set, SetWords, Sign, Cmp, SetInt64, NewInt, GCD, Neg, Set, BitLen. (Printed by wip/gen/bigH.py.) Contracts of numeral/big: Rat: set, SetFrac, Num, below, Denom, Sign. (Printed by wip/gen/bigH.py.)
-/
import Derived.Test.YtoiifhmepniniaaGreatDoorQbCBgG
import Derived.Deep.RegionWith
set_option maxHeartbeats 4000000
set_option maxRecDepth 100000
namespace Go.Proofs.YtoiifhmepniniaaGreatDoor
open Go.RowKit Go.Lb
theorem bgSet_any (b : Nat) (s : Bool) (ao : Option Addr) (n c N base : Nat) (w : World) (hz : Zc w b) (hf : Fr 23 w base ao n c (limbs N)) :
 Calls Tryz.prog 205 #[.pointer (some ⟨b, 0, none⟩), .bool s, .slice ao n c] w fun e w' => e = .returned (.pointer (some ⟨b, 0, none⟩)) ∧ w' = setIn w b (nzB s N) (.slice ao n c) := by
 have hnil : ao = none → c = 0 := fun h => by
  rcases hf.blk with ⟨_, _, h1⟩ | ⟨g, cur, h1, _⟩
  · exact h1
  · rw [h1] at h; cases h
 have hk : Hid (n = (limbs (val (limbs N))).length) := Lib.hid (by rw [val_limbs']; exact hf.sl.len.symm)
 have hs := hf.sl
 obtain ⟨c0, c1, z0, z1⟩ := hz
 by_cases hN : N = 0
 · have hn : n = 0 := by rw [← hs.len, hN, limbs_zero]; rfl
   have hd : Hid ((nzB s N) = false) := Lib.hid (by simp [nzB, hN])
   clear hN
   subst hn
   cases s
   all_goals
    go_enter Tryz.func205, Tryz.ntmps205
    go_wp2_with (go_at_call 207; (with_reducible refine (bgTrim_len ao (0 : Nat) c (0 : Nat) (limbs N) _ hs hk hnil).mono ?_); rintro e w1 ⟨rfl, rfl⟩)
    go_ret
    exact ⟨rfl, by rw [hd.out]; rfl⟩
 · have hn : 0 < n := by
    rw [← hs.len]
    exact List.length_pos_iff.2 fun h => hN (by have := val_limbs' N; rw [h] at this; exact this.symm)
   have hd : Hid (∀ t : Bool, nzB t N = t) := Lib.hid (by intro t; simp [nzB, hN])
   have hn1 : (n : Int) > 0 := by omega
   clear hN
   cases s
   all_goals
    go_enter Tryz.func205, Tryz.ntmps205
    go_wp2_with (go_at_call 207; (with_reducible refine (bgTrim_len ao n c n (limbs N) _ hs hk hnil).mono ?_); rintro e w1 ⟨rfl, rfl⟩)
    go_ret
    exact ⟨rfl, by rw [hd.out]; rfl⟩
theorem bgSetWords_any (b : Nat) (ao : Option Addr) (n c base : Nat) (xs : List Nat) (w : World) (hz : Zc w b) (h : Sl w ao n c xs) (hf : Fine xs) (hn : n ≤ 4294967296) (hb : base ≤ w.heap.size) :
 Calls Tryz.prog 255 #[.pointer (some ⟨b, 0, none⟩), .slice ao n c] w (StI 23 b base false (val xs) w) := by
 have hbl := hz.lt
 go_enter Tryz.func255, Tryz.ntmps255
 go_wp2_with (first
  | (go_at_call 226; refine (bgCopied_any ao n c xs _ h hn).mono ?_; rintro e w1 ⟨g, rfl, ho, hb1⟩; have hF := fr_copied ho h hf)
  | (go_at_call 205; refine (bgSet_any b false (some ⟨g, 0, none⟩) n n (val xs) w.heap.size _ (hz.stay hb1) hF).mono ?_; rintro e w2 ⟨rfl, rfl⟩))
 go_ret
 exact ⟨_, _, _, w1, rfl, hb1, hF.mono hb, fr_ne hF hbl, rfl⟩
theorem bgSign_any (b base : Nat) (s : Bool) (ao : Option Addr) (k c N : Nat) (w : World) (h : In 23 w base b s ao k c N) :
 Calls Tryz.prog 126 #[.pointer (some ⟨b, 0, none⟩)] w fun e w' => e = .returned (.int .i64 (sgnI s N)) ∧ w = w' := by
 have hnil := h.nil
 obtain ⟨c0, c1, z0, z1, hf, hne, hb⟩ := h
 by_cases hk : k = 0
 · have hs : Hid (sgnI s N = 0) := Lib.hid (by unfold sgnI; rw [if_pos (hnil.2 hk)])
   subst hk
   clear hf hnil
   go_enter Tryz.func126, Tryz.ntmps126
   go_wp2
   go_ret
   exact ⟨by rw [hs.out]; rfl, rfl⟩
 · have hN : ¬ N = 0 := fun hh => hk (hnil.1 hh)
   have hk1 : ((k : Int) == 0) = false := by simp [hk]
   cases s
   · have hs : Hid (sgnI false N = 1) := Lib.hid (by unfold sgnI; rw [if_neg hN]; rfl)
     clear hf hnil hN
     go_enter Tryz.func126, Tryz.ntmps126
     go_wp2
     go_ret
     exact ⟨by rw [hs.out]; rfl, rfl⟩
   · have hs : Hid (sgnI true N = -1) := Lib.hid (by unfold sgnI; rw [if_neg hN]; rfl)
     clear hf hnil hN
     go_enter Tryz.func126, Tryz.ntmps126
     go_wp2
     go_ret
     exact ⟨by rw [hs.out]; rfl, rfl⟩
theorem bgSetInt64_any (b base : Nat) (x : Int) (w : World) (hz : Zc w b) (hb : base ≤ w.heap.size) (hx : -9223372036854775808 ≤ x ∧ x ≤ 9223372036854775807) :
 Calls Tryz.prog 173 #[.pointer (some ⟨b, 0, none⟩), .int .i64 x] w (StI 23 b base (decide (x < 0)) x.natAbs w) := by
 have hbl := hz.lt
 obtain ⟨hx1, hx2⟩ := hx
 by_cases h0 : x < 0
 · have hd : Hid (nzB true x.natAbs = decide (x < 0)) := Lib.hid (by unfold nzB; rw [decide_eq_true h0, decide_eq_true (by omega)]; rfl)
   have hx3 : x.natAbs < 18446744073709551616 := by omega
   have hx4 : IntKind.u64.wrap (-(IntKind.u64.wrap x)) = (x.natAbs : Int) := by rw [IntKind.wrap_u64, IntKind.wrap_u64]; omega
   have H4 := Lib.hid hx4
   clear hx4
   go_enter Tryz.func173, Tryz.ntmps173
   go_wp2_with (first
    | (go_at_call 208; refine (bgFromUint_any x.natAbs _ (by first | exact H4.out | (have := H4.out; simp only [IntKind.wrap_u64] at this ⊢; omega)) _ hx3).mono ?_; rintro e w1 ⟨ao, k, c, rfl, hF, hb1⟩)
    | (go_at_call 205; refine (bgSet_any b true ao k c x.natAbs w.heap.size _ (hz.stay hb1) hF).mono ?_; rintro e w2 ⟨rfl, rfl⟩))
   go_ret
   exact ⟨_, _, _, w1, rfl, hb1, hF.mono hb, fr_ne hF hbl, by rw [hd.out]⟩
 · have hd : Hid (decide (x < 0) = false) := Lib.hid (decide_eq_false h0)
   have hx3 : x.natAbs < 18446744073709551616 := by omega
   have hx4 : IntKind.u64.wrap x = (x.natAbs : Int) := by rw [IntKind.wrap_u64]; omega
   have H4 := Lib.hid hx4
   clear hx4
   go_enter Tryz.func173, Tryz.ntmps173
   go_wp2_with (first
    | (go_at_call 208; refine (bgFromUint_any x.natAbs _ (by first | exact H4.out | (have := H4.out; simp only [IntKind.wrap_u64] at this ⊢; omega)) _ hx3).mono ?_; rintro e w1 ⟨ao, k, c, rfl, hF, hb1⟩)
    | (go_at_call 205; refine (bgSet_any b false ao k c x.natAbs w.heap.size _ (hz.stay hb1) hF).mono ?_; rintro e w2 ⟨rfl, rfl⟩))
   go_ret
   exact ⟨_, _, _, w1, rfl, hb1, hF.mono hb, fr_ne hF hbl, by rw [hd.out]; rfl⟩
theorem bgNewInt_any (x : Int) (w : World) (hx : -9223372036854775808 ≤ x ∧ x ≤ 9223372036854775807) :
 Calls Tryz.prog 118 #[.int .i64 x] w (MkI 23 (decide (x < 0)) x.natAbs w) := by
 go_enter Tryz.func118, Tryz.ntmps118
 go_wp2_with (go_at_call 173; refine (bgSetInt64_any w.heap.size w.heap.size x _ (zc_new _ _ _ _) (by simp) hx).mono ?_; rintro e w2 hS; obtain ⟨b, ao, k, c, rfl, hI, hb⟩ := hS.mk)
 go_ret
 exact ⟨b, ao, k, c, rfl, hI, hb⟩
theorem bgICmp_any (B1 B2 b1 b2 : Nat) (a1 a2 : Option Addr) (n1 n2 c1 c2 N1 N2 : Nat) (w : World) (h1 : In 23 w B1 b1 false a1 n1 c1 N1) (h2 : In 23 w B2 b2 false a2 n2 c2 N2) :
 Calls Tryz.prog 181 #[.pointer (some ⟨b1, 0, none⟩), .pointer (some ⟨b2, 0, none⟩)] w fun e w' => e = .returned (.int .i64 (cmpN N1 N2)) ∧ Below w.heap.size w w' := by
 have hC : ∀ W, Below w.heap.size w W → Calls Tryz.prog 219 #[.slice a1 n1 c1, .slice a2 n2 c2] W fun e w' => e = .returned (.int .i64 (cmpN N1 N2)) ∧ Below W.heap.size W w' := fun W hW => by
  have := bgCmp_any a1 a2 n1 n2 c1 c2 (limbs N1) (limbs N2) W (h1.fr.sl.below hW) (h2.fr.sl.below hW) (fine_limbs _) (fine_limbs _)
  rwa [val_limbs', val_limbs'] at this
 obtain ⟨d0, d1, _, _, _, _, _⟩ := h1
 obtain ⟨e0, e1, _, _, _, _, _⟩ := h2
 go_enter Tryz.func181, Tryz.ntmps181
 go_wp2
 go_quiet (fail)
 go_wp2
 go_region_with (go_at_call 219; refine (hC _ (by first | exact Below.refl _ _ | exact Below.drew (Below.refl _ _) | exact Below.drew (Below.drew (Below.refl _ _)) | exact drewn (Below.refl _ _) _ | exact (drewn (Below.refl _ _) _).drew)).mono ?_; rintro e w1 ⟨rfl, hb1⟩; replace hb1 : Below w.heap.size w w1 := (by first | exact hb1 | exact undrew hb1 | exact next (drewn (Below.refl _ _) _) hb1 | exact next (drewn (Below.refl _ _) _).drew hb1))
 all_goals go_wp2
 all_goals go_ret
 all_goals exact ⟨rfl, hb1⟩
theorem bgIBitLen_any (b base : Nat) (s : Bool) (ao : Option Addr) (k c N : Nat) (w : World) (h : In 23 w base b s ao k c N) (hk : k ≤ 4294967296) :
 Calls Tryz.prog 121 #[.pointer (some ⟨b, 0, none⟩)] w fun e w' => e = .returned (.int .i64 (szN (limbs N) : Int)) ∧ w = w' := by
 have hs := h.fr.sl
 obtain ⟨c0, c1, _, _, _, _, _⟩ := h
 go_enter Tryz.func121, Tryz.ntmps121
 go_wp2_with (go_at_call 174; refine (bgBitLen_any ao k c (limbs N) _ hs hk).mono ?_; rintro e w1 ⟨rfl, rfl⟩)
 go_ret
 exact ⟨rfl, rfl⟩
theorem bgNeg_any (b base B1 b1 : Nat) (s1 : Bool) (a1 : Option Addr) (n1 c1 N1 : Nat) (w : World) (hz : Zc w b) (hb : base ≤ w.heap.size) (h1 : In 23 w B1 b1 s1 a1 n1 c1 N1) (hn1 : n1 ≤ 4294967296) :
 Calls Tryz.prog 213 #[.pointer (some ⟨b, 0, none⟩), .pointer (some ⟨b1, 0, none⟩)] w (StI 23 b base (nzB (!s1) N1) N1 w) := by
 have hbl := hz.lt
 have hC : ∀ W, Below w.heap.size w W → Calls Tryz.prog 226 #[.slice a1 n1 c1] W (fun e w' => ∃ g, e = .returned (.slice (some ⟨g, 0, none⟩) n1 n1) ∧ Fr 23 w' W.heap.size (some ⟨g, 0, none⟩) n1 n1 (limbs N1) ∧ Below W.heap.size W w') := fun W hW => by
  refine (bgCopied_any a1 n1 c1 (limbs N1) W (h1.fr.sl.below hW) hn1).mono ?_
  rintro e w' ⟨g, rfl, ho, hb1⟩
  have := fr_copied ho h1.fr.sl (fine_limbs N1)
  rw [val_limbs'] at this
  exact ⟨g, rfl, this, hb1⟩
 obtain ⟨d0, d1, _, _, _, _, _⟩ := h1
 go_enter Tryz.func213, Tryz.ntmps213
 go_wp2
 go_region_with (first
  | (go_at_call 226; refine (hC _ (by first | exact Below.refl _ _ | exact Below.drew (Below.refl _ _))).mono ?_; rintro e w1 ⟨g, rfl, hF, hb1⟩; (try replace hb1 := undrew hb1); have f0 := cellStay d0 hb1; have f1 := cellStay d1 hb1)
  | (go_at_call 205; refine (bgSet_any b (!s1) (some ⟨g, 0, none⟩) n1 n1 N1 w.heap.size _ (hz.stay hb1) hF).mono ?_; rintro e w2 ⟨rfl, rfl⟩))
 all_goals go_wp2
 all_goals go_ret
 all_goals exact ⟨_, _, _, w1, rfl, hb1, hF.mono hb, fr_ne hF hbl, rfl⟩
theorem bgISet_any (b base B1 b1 : Nat) (s1 : Bool) (a1 : Option Addr) (n1 c1 N1 : Nat) (w : World) (hz : Zc w b) (hb : base ≤ w.heap.size) (h1 : In 23 w B1 b1 s1 a1 n1 c1 N1) (hn1 : n1 ≤ 4294967296) :
 Calls Tryz.prog 184 #[.pointer (some ⟨b, 0, none⟩), .pointer (some ⟨b1, 0, none⟩)] w (StI 23 b base (nzB s1 N1) N1 w) := by
 have hbl := hz.lt
 have hC : ∀ W, Below w.heap.size w W → Calls Tryz.prog 226 #[.slice a1 n1 c1] W (fun e w' => ∃ g, e = .returned (.slice (some ⟨g, 0, none⟩) n1 n1) ∧ Fr 23 w' W.heap.size (some ⟨g, 0, none⟩) n1 n1 (limbs N1) ∧ Below W.heap.size W w') := fun W hW => by
  refine (bgCopied_any a1 n1 c1 (limbs N1) W (h1.fr.sl.below hW) hn1).mono ?_
  rintro e w' ⟨g, rfl, ho, hb1⟩
  have := fr_copied ho h1.fr.sl (fine_limbs N1)
  rw [val_limbs'] at this
  exact ⟨g, rfl, this, hb1⟩
 obtain ⟨d0, d1, _, _, _, _, _⟩ := h1
 go_enter Tryz.func184, Tryz.ntmps184
 go_wp2
 go_region_with (first
  | (go_at_call 226; refine (hC _ (by first | exact Below.refl _ _ | exact Below.drew (Below.refl _ _))).mono ?_; rintro e w1 ⟨g, rfl, hF, hb1⟩; (try replace hb1 := undrew hb1); have f0 := cellStay d0 hb1; have f1 := cellStay d1 hb1)
  | (go_at_call 205; refine (bgSet_any b s1 (some ⟨g, 0, none⟩) n1 n1 N1 w.heap.size _ (hz.stay hb1) hF).mono ?_; rintro e w2 ⟨rfl, rfl⟩))
 all_goals go_wp2
 all_goals go_ret
 all_goals exact ⟨_, _, _, w1, rfl, hb1, hF.mono hb, fr_ne hF hbl, rfl⟩
theorem bgBy_fr (B : Nat) (a1 a2 : Option Addr) (n1 n2 c1 c2 N G : Nat) (w : World) (h1 : Fr 23 w B a1 n1 c1 (limbs N)) (h2 : Sl w a2 n2 c2 (limbs G)) (hn : n1 ≤ 1073741824) (h0 : G ≠ 0) (hB : B ≤ w.heap.size) :
 Calls Tryz.prog 257 #[.slice a1 n1 c1, .slice a2 n2 c2] w fun e w' => ∃ ao k c, e = .returned (.slice ao k c) ∧ Fr 23 w' B ao k c (limbs (N / G)) ∧ Below w.heap.size w w' := by
 have hG : val (limbs G) = G := val_limbs' G
 have hN : val (limbs N) = N := val_limbs' N
 refine (bgBy_any a1 a2 n1 n2 c1 c2 (limbs N) (limbs G) w h1.sl h2 (fine_limbs _) (fine_limbs _) hn (by rw [hG]; exact h0)).mono ?_
 rintro e w' ⟨ao, k, c, rfl, hS, hor, hb⟩
 rw [hN, hG] at hS hor
 refine ⟨ao, k, c, rfl, ?_, hb⟩
 rcases hor with ⟨rfl, rfl, rfl, h1'⟩ | hF
 · rw [h1', Nat.div_one]
   exact h1.below hb
 · exact hF.mono hB
theorem bgRSet_any (b base B : Nat) (s : Bool) (a1 a2 : Option Addr) (n1 n2 c1 c2 N D : Nat) (w : World) (hr : Res3 w b) (h1 : Fr 23 w B a1 n1 c1 (limbs N)) (h2 : Fr 23 w B a2 n2 c2 (limbs D)) (hD : D ≠ 0) (hB : b < B) (hBs : B ≤ w.heap.size) (hbb : base ≤ b) (hn1 : n1 ≤ 67108864) (hn2 : n2 ≤ 67108864) (hT : Tab w) :
 Calls Tryz.prog 241 #[.pointer (some ⟨b, 0, none⟩), .bool s, .slice a1 n1 c1, .slice a2 n2 c2] w (StR 23 b base (nzB s N) (N / Nat.gcd N D) (D / Nat.gcd N D) w) := by
 have nil1 : a1 = none → c1 = 0 := fun h => by
  rcases h1.blk with ⟨_, _, hh⟩ | ⟨g, cur, hh, _⟩
  · exact hh
  · rw [hh] at h; cases h
 have nil2 : a2 = none → c2 = 0 := fun h => by
  rcases h2.blk with ⟨_, _, hh⟩ | ⟨g, cur, hh, _⟩
  · exact hh
  · rw [hh] at h; cases h
 have hk1 : Hid (n1 = (limbs (val (limbs N))).length) := Lib.hid (by rw [val_limbs']; exact h1.sl.len.symm)
 have hk2 : Hid (n2 = (limbs (val (limbs D))).length) := Lib.hid (by rw [val_limbs']; exact h2.sl.len.symm)
 have s1 := h1.sl
 have s2 := h2.sl
 by_cases hN : N = 0
 · subst hN
   have hn : n1 = 0 := by rw [← s1.len, limbs_zero]; rfl
   subst hn
   have hd : Hid (nzB s 0 = false) := Lib.hid (by simp [nzB])
   have hq1 : Hid (0 / Nat.gcd 0 D = 0) := Lib.hid (Nat.zero_div _)
   have hq2 : Hid (D / Nat.gcd 0 D = 1) := Lib.hid (by rw [Nat.gcd_zero_left]; exact Nat.div_self (Nat.pos_of_ne_zero hD))
   have hFn : Fr 23 w base none 0 0 (limbs 0) := fr_nil _ _ _
   have hc2 := (hr.setIn (nzB false 0) (.slice none 0 0)).c2
   have hz2 := (hr.setIn (nzB false 0) (.slice none 0 0)).z2
   rw [hd.out, hq1.out, hq2.out]
   go_enter Tryz.func241, Tryz.ntmps241
   go_wp2_with (first
    | (go_at_call 207; (with_reducible refine (bgTrim_len a1 (0 : Nat) c1 (0 : Nat) (limbs 0) _ s1 hk1 nil1).mono ?_); rintro e w1 ⟨rfl, rfl⟩)
    | (go_at_call 207; (with_reducible refine (bgTrim_len a2 n2 c2 n2 (limbs D) _ s2 hk2 nil2).mono ?_); rintro e w1 ⟨rfl, rfl⟩)
    | (go_at_call 205; refine (bgSet_any b false none 0 0 0 base _ hr.zc hFn).mono ?_; rintro e w2 ⟨rfl, rfl⟩))
   go_ret
   have hI := setIn_in (e := 23) hr.zc false hFn (by simp [blkOf]) hbb
   have hR := hr.setIn false (.slice none 0 0)
   refine ⟨rfl, ?_, grown_trans (setIn_grown _ _ _ _) (grown_set _ _ _ _)⟩
   exact ra_of hI hR (ds := []) (fr_nil _ _ _) ⟨by omega, .inr ⟨rfl, rfl⟩⟩ (by simp [blkOf])
 · have hn : 0 < n1 := by
    rw [← s1.len]
    exact List.length_pos_iff.2 fun h => hN (by have := val_limbs' N; rw [h] at this; exact this.symm)
   have hg0 : Nat.gcd N D ≠ 0 := Nat.ne_of_gt (Nat.gcd_pos_of_pos_right _ (Nat.pos_of_ne_zero hD))
   have hd : Hid (nzB s (N / Nat.gcd N D) = nzB s N) := Lib.hid (by
    have : N / Nat.gcd N D ≠ 0 := Nat.ne_of_gt (Nat.div_pos (Nat.le_of_dvd (Nat.pos_of_ne_zero hN) (Nat.gcd_dvd_left N D)) (Nat.pos_of_ne_zero hg0))
    simp [nzB, hN, this])
   have hd2 : D / Nat.gcd N D ≠ 0 := Nat.ne_of_gt (Nat.div_pos (Nat.le_of_dvd (Nat.pos_of_ne_zero hD) (Nat.gcd_dvd_right N D)) (Nat.pos_of_ne_zero hg0))
   have hC : Calls Tryz.prog 256 #[.slice a1 n1 c1, .slice a2 n2 c2] w (Wd 23 (Nat.gcd N D) w) := by
    have := bgCommon_any a1 a2 n1 n2 c1 c2 (limbs N) (limbs D) w s1 s2 (fine_limbs _) (fine_limbs _) hn1 hn2 hT
    rwa [val_limbs', val_limbs'] at this
   generalize hG : Nat.gcd N D = G at *
   have HD2 := Lib.hid hd2
   have HG0 := Lib.hid hg0
   have hk0 : ((n1 : Int) == 0) = false := by simp; omega
   clear hd2 hg0 hG hN hD
   go_enter Tryz.func241, Tryz.ntmps241
   go_wp2_with (first
    | (go_at_call 207; (with_reducible refine (bgTrim_len a1 n1 c1 n1 (limbs N) _ s1 hk1 nil1).mono ?_); rintro e w1 ⟨rfl, rfl⟩)
    | (go_at_call 207; (with_reducible refine (bgTrim_len a2 n2 c2 n2 (limbs D) _ s2 hk2 nil2).mono ?_); rintro e w1 ⟨rfl, rfl⟩)
    | (go_at_call 256; refine hC.mono ?_; rintro e w1 ⟨ag, kg, cg, rfl, hFg, hb1⟩))
   go_region_with (first
    | (go_at_call 257; refine (bgBy_fr B a1 ag n1 kg c1 cg N G _ (h1.below hb1).drew hFg.sl.drew (by omega) HG0.out (Nat.le_trans hBs hb1.size)).mono ?_; rintro e w2 ⟨aq, kq, cq, rfl, hFq, hb2⟩; (try replace hb2 := undrew hb2); have W2 := next hb1 hb2; have R2 := hr.stay W2)
    | (go_at_call 205; refine (bgSet_any b s aq kq cq (N / G) B _ R2.zc hFq).mono ?_; rintro e w3 ⟨rfl, rfl⟩))
   all_goals
    rw [hd.out]
    have hI := setIn_in (e := 23) R2.zc (nzB s N) (hFq.mono (Nat.le_trans hbb (Nat.le_of_lt hB))) (fr_ne hFq hB) hbb
    have G3 := setIn_grown w2 b (nzB s N) (.slice aq kq cq)
    have R3 := R2.setIn (nzB s N) (.slice aq kq cq)
    have F3 := fr_grown (h2.below W2) G3 hB
    have g3 := fr_grown (hFg.below hb2) G3 (hr.lt)
    generalize setIn w2 b (nzB s N) (.slice aq kq cq) = w3 at *
    go_wp2_with (go_at_call 257; refine (bgBy_fr B a2 ag n2 kg c2 cg D G _ F3 g3.sl (by omega) HG0.out (Nat.le_trans hBs (Nat.le_trans W2.size G3.size))).mono ?_; rintro e w4 ⟨ad, kd, cd, rfl, hFd, hb4⟩; have R4 := R3.stay hb4; have cc2 := R4.c2; have cz2 := R4.z2)
    go_ret
    refine ⟨rfl, ?_, grown_trans (grown_trans (grown_below W2 _) (grown_trans G3 (grown_below hb4 _))) (grown_set _ _ _ _)⟩
    exact ra_of (hI.stay hb4) R4 (hFd.mono (Nat.le_trans hbb (Nat.le_of_lt hB))) (DenW.limbs HD2.out) (fr_ne hFd hB)
theorem bgSetFrac_any (b base B1 B2 b1 b2 : Nat) (s1 s2 : Bool) (a1 a2 : Option Addr) (n1 n2 c1 c2 N D : Nat) (w : World) (hr : Res3 w b) (h1 : In 23 w B1 b1 s1 a1 n1 c1 N) (h2 : In 23 w B2 b2 s2 a2 n2 c2 D) (ne1 : b1 ≠ b) (ne2 : b2 ≠ b) (hD : D ≠ 0) (hbb : base ≤ b) (hn1 : n1 ≤ 67108864) (hn2 : n2 ≤ 67108864) (hT : Tab w) :
 Calls Tryz.prog 214 #[.pointer (some ⟨b, 0, none⟩), .pointer (some ⟨b1, 0, none⟩), .pointer (some ⟨b2, 0, none⟩)] w (StR 23 b base (nzB (s1 != s2) N) (N / Nat.gcd N D) (D / Nat.gcd N D) w) := by
 have hbl := hr.lt
 have hC1 : ∀ W, Below w.heap.size w W → Calls Tryz.prog 226 #[.slice a1 n1 c1] W (fun e w' => ∃ g, e = .returned (.slice (some ⟨g, 0, none⟩) n1 n1) ∧ Fr 23 w' w.heap.size (some ⟨g, 0, none⟩) n1 n1 (limbs N) ∧ Below W.heap.size W w') := fun W hW => by
  refine (bgCopied_any a1 n1 c1 (limbs N) W (h1.fr.sl.below hW) (by omega)).mono ?_
  rintro e w' ⟨g, rfl, ho, hb1⟩
  have := fr_copied ho h1.fr.sl (fine_limbs N)
  rw [val_limbs'] at this
  exact ⟨g, rfl, this.mono hW.size, hb1⟩
 have hC2 : ∀ W, Below w.heap.size w W → Calls Tryz.prog 226 #[.slice a2 n2 c2] W (fun e w' => ∃ g, e = .returned (.slice (some ⟨g, 0, none⟩) n2 n2) ∧ Fr 23 w' w.heap.size (some ⟨g, 0, none⟩) n2 n2 (limbs D) ∧ Below W.heap.size W w') := fun W hW => by
  refine (bgCopied_any a2 n2 c2 (limbs D) W (h2.fr.sl.below hW) (by omega)).mono ?_
  rintro e w' ⟨g, rfl, ho, hb1⟩
  have := fr_copied ho h2.fr.sl (fine_limbs D)
  rw [val_limbs'] at this
  exact ⟨g, rfl, this.mono hW.size, hb1⟩
 have hR : ∀ W g1 g2, Below w.heap.size w W → Fr 23 W w.heap.size (some ⟨g1, 0, none⟩) n1 n1 (limbs N) → Fr 23 W w.heap.size (some ⟨g2, 0, none⟩) n2 n2 (limbs D) →
  Calls Tryz.prog 241 #[.pointer (some ⟨b, 0, none⟩), .bool (!(s1 == s2)), .slice (some ⟨g1, 0, none⟩) n1 n1, .slice (some ⟨g2, 0, none⟩) n2 n2] W (StR 23 b base (nzB (s1 != s2) N) (N / Nat.gcd N D) (D / Nat.gcd N D) W) :=
  fun W g1 g2 hW f1 f2 => bgRSet_any b base w.heap.size (s1 != s2) _ _ n1 n2 n1 n2 N D W (hr.stay hW) f1 f2 hD hbl hW.size hbb hn1 hn2 (hT.below hW)
 have hK : SfK w w b b1 b2 (.bool s1) (.slice a1 n1 c1) (.bool s2) (.slice a2 n2 c2) := ⟨h1.c0, h1.c1, h2.c0, h2.c1, grown_refl _ _, hr, ne1, ne2⟩
 clear hn1 hn2 hD hT hbb
 go_enter Tryz.func214, Tryz.ntmps214
 go_wp2
 go_region_held3 (fun w' => w'.cell? ⟨b1, 0, none⟩ = some (.bool s1) ∧ w'.cell? ⟨b1, 1, none⟩ = some (.slice a1 n1 c1) ∧ w'.cell? ⟨b2, 0, none⟩ = some (.bool s2) ∧ w'.cell? ⟨b2, 1, none⟩ = some (.slice a2 n2 c2) ∧ SfK w w' b b1 b2 (.bool s1) (.slice a1 n1 c1) (.bool s2) (.slice a2 n2 c2))
  ((first | exact SfK.conj hK.drew | exact SfK.conj hK | (go_split_ands; exact SfK.conj (SfK.stay (by assumption) hbB)) | (go_split_ands; exact SfK.conj (SfK.write (by assumption) hgB hrB)) | (go_keep; done)))
  (first
    | (go_at_call 226; (with_reducible refine (hC1 _ ?_).mono ?_); (exact Below.drew (Below.refl _ _)); rintro en wA ⟨g1, rfl, hF1, hbB⟩; have hWA : Below w.heap.size w wA := (by first | exact hbB | exact undrew hbB))
    | (go_at_call 226; (with_reducible refine (hC2 _ ?_).mono ?_); (exact hWA); rintro en wB ⟨g2, rfl, hF2, hbB⟩; have hWB := next hWA hbB; have hF1B := hF1.below hbB)
    | (go_at_call 241; (with_reducible refine (hR _ g1 g2 ?_ ?_ ?_).mono ?_); (exact hWB); (exact hF1B); (exact hF2); rintro en wC ⟨rfl, hRa, hgB⟩; have hrB := hRa.res))
 all_goals go_wp2
 all_goals go_ret
 all_goals exact ⟨rfl, hRa, grown_trans (grown_below hWB _) hgB⟩
theorem bgRNum_any (b base : Nat) (s : Bool) (N D : Nat) (w : World) (h : Ra 23 w base b s N D) (hl : (limbs N).length ≤ 4294967296) :
 Calls Tryz.prog 243 #[.pointer (some ⟨b, 0, none⟩)] w (MkI 23 (nzB s N) N w) := by
 obtain ⟨⟨ao, k, c, hi⟩, _, _⟩ := h
 have hk : k ≤ 4294967296 := by rw [← hi.fr.sl.len]; exact hl
 clear hl
 go_enter Tryz.func243, Tryz.ntmps243
 go_wp2_with (go_at_call 184; refine (bgISet_any w.heap.size w.heap.size base b s ao k c N _ (zc_new _ _ _ _) (by simp) (hi.stay (more (Below.refl _ _) _)) hk).mono ?_; rintro e w2 hS; obtain ⟨b2, ao2, k2, c2, rfl, hI, hb⟩ := hS.mk)
 go_ret
 exact ⟨b2, ao2, k2, c2, rfl, hI, hb⟩
theorem bgRSign_any (b base : Nat) (s : Bool) (N D : Nat) (w : World) (h : Ra 23 w base b s N D) :
 Calls Tryz.prog 244 #[.pointer (some ⟨b, 0, none⟩)] w fun e w' => e = .returned (.int .i64 (sgnI s N)) ∧ w = w' := by
 obtain ⟨⟨ao, k, c, hi⟩, _, _⟩ := h
 go_enter Tryz.func244, Tryz.ntmps244
 go_wp2_with (go_at_call 126; refine (bgSign_any b base s ao k c N _ hi).mono ?_; rintro e w2 ⟨rfl, rfl⟩)
 go_ret
 exact ⟨rfl, rfl⟩
theorem bgRbelow_any (b base : Nat) (s : Bool) (N D : Nat) (w : World) (h : Ra 23 w base b s N D) :
 Calls Tryz.prog 246 #[.pointer (some ⟨b, 0, none⟩)] w fun e w' => ∃ ao k c, e = .returned (.slice ao k c) ∧ Sl w' ao k c (limbs D) ∧ Below w.heap.size w w' := by
 obtain ⟨_, ⟨ad, kd, cd, ds, h2, hf, ⟨hD, hd⟩, hn⟩, _⟩ := h
 by_cases hk : kd = 0
 · have hl : ds = [] := List.length_eq_zero_iff.1 (by rw [hf.sl.len]; exact hk)
   have hD1 : D = 1 := by
    rcases hd with hd | ⟨_, hd⟩
    · have := val_limbs' D
      rw [← hd, hl] at this
      exact absurd this (by simp [val]; omega)
    · exact hd
   subst hk
   have hl1 : Hid (limbs D = [1]) := Lib.hid (by rw [hD1]; decide)
   have ho := own_sl (bgOwn_one w 1) (by intro x hx; simp at hx; omega)
   clear hf hd hl hD1
   go_enter Tryz.func246, Tryz.ntmps246
   go_wp2
   go_ret
   exact ⟨_, _, _, rfl, by rw [hl1.out]; exact ho, more (Below.refl _ _) _⟩
 · have hk1 : ((kd : Int) == 0) = false := by simp [hk]
   have hds : ds = limbs D := by
    rcases hd with hd | ⟨hd, _⟩
    · exact hd
    · exact absurd (by rw [← hf.sl.len, hd]; rfl) hk
   subst hds
   have hs := hf.sl
   clear hf hd hk
   go_enter Tryz.func246, Tryz.ntmps246
   go_wp2
   go_ret
   exact ⟨_, _, _, rfl, hs, Below.refl _ _⟩
theorem bgRDenom_any (b base : Nat) (s : Bool) (N D : Nat) (w : World) (h : Ra 23 w base b s N D) (hl : (limbs D).length ≤ 4294967296) :
 Calls Tryz.prog 217 #[.pointer (some ⟨b, 0, none⟩)] w (MkI 23 false D w) := by
 have hR := h.stay (more (Below.refl _ _) (.cells #[.bool false, .slice none 0 0] 221))
 have Hl := Lib.hid hl
 clear hl
 go_enter Tryz.func217, Tryz.ntmps217
 go_wp2_with (first
  | (go_at_call 246; refine (bgRbelow_any b base s N D _ hR).mono ?_; rintro e w1 ⟨ao, k, c, rfl, hS, hb1⟩; have Hk : Hid (k ≤ 4294967296) := Lib.hid (by rw [← hS.len]; exact Hl.out))
  | (go_at_call 226; refine (bgCopied_any ao k c (limbs D) _ hS Hk.out).mono ?_; rintro e w2 ⟨g, rfl, ho, hb2⟩; have hF := fr_copied (base := w.heap.size) (own_mono ho (by have := hb1.size; simp at this; omega)) hS (fine_limbs D); rw [val_limbs'] at hF; have hF' := fr_copied (base := w.heap.size + 1) (own_mono ho (by have := hb1.size; simp at this; omega)) hS (fine_limbs D); have hZ := ((zc_new w _ (.bool false) (.slice none 0 0)).stay hb1).stay hb2)
  | (go_at_call 205; refine (bgSet_any w.heap.size false (some ⟨g, 0, none⟩) k k D w.heap.size _ hZ hF).mono ?_; rintro e w3 ⟨rfl, rfl⟩))
 go_ret
 obtain ⟨b2, ao2, k2, c2, he, hI, hb⟩ := StI.mk (t := 221) (u := .bool false) (v := .slice none 0 0) (w := w) ⟨_, _, _, _, rfl, next hb1 hb2, hF, fr_ne hF' (Nat.lt_succ_self _), rfl⟩
 exact ⟨b2, ao2, k2, c2, he, hI, hb⟩
end Go.Proofs.YtoiifhmepniniaaGreatDoor
namespace Go.Lb
open Go.RowKit Go.Proofs.YtoiifhmepniniaaGreatDoor
structure At (zs ys : List Nat) (p i : Nat) (ws : List Nat) (c : Nat) : Prop where
 ok : Ok ws
 len : ws.length = zs.length
 one : c ≤ 1
 eq : val ws + 4294967296 ^ (p + i) * c = val zs + 4294967296 ^ p * val (ys.take i)
theorem at_zero {zs : List Nat} (h : Ok zs) (ys : List Nat) (p : Nat) : At zs ys p 0 zs 0 := ⟨h, rfl, by decide, by simp [val]⟩
theorem At.next {zs ys ws : List Nat} {p i c : Nat} (h : At zs ys p i ws c) (hy : Ok ys) (hp : p + i < zs.length) :
 At zs ys p (i + 1) (ws.set (p + i) ((nth ws (p + i) + c + nth ys i) % 4294967296)) ((nth ws (p + i) + c + nth ys i) / 4294967296) := by
 have h1 := nth_lt h.ok (p + i)
 have h2 := nth_lt hy i
 have h3 := h.one
 refine ⟨ok_set h.ok (by omega) _, by rw [List.length_set]; exact h.len, by omega, ?_⟩
 have hv := val_set (zs := ws) (p := p + i) (by rw [h.len]; exact hp) ((nth ws (p + i) + c + nth ys i) % 4294967296)
 have he := h.eq
 have e2 : 4294967296 ^ p * val (ys.take (i + 1)) = 4294967296 ^ p * val (ys.take i) + 4294967296 ^ (p + i) * nth ys i := by rw [val_take_next, Nat.mul_add, ← Nat.mul_assoc, ← Nat.pow_add]
 have e3 : 4294967296 ^ (p + (i + 1)) = 4294967296 ^ (p + i) * 4294967296 := by rw [← Nat.add_assoc, Nat.pow_succ]
 rw [e2, e3, ← Nat.add_assoc, ← he]
 have hm := Nat.div_add_mod (nth ws (p + i) + c + nth ys i) 4294967296
 generalize 4294967296 ^ (p + i) = B at *
 generalize (nth ws (p + i) + c + nth ys i) / 4294967296 = q at *
 generalize (nth ws (p + i) + c + nth ys i) % 4294967296 = r at *
 have e1 : B * (4294967296 * q + r) = B * (nth ws (p + i) + c + nth ys i) := by rw [hm]
 rw [Nat.mul_add, Nat.mul_add, Nat.mul_add, ← Nat.mul_assoc] at e1
 generalize B * 4294967296 * q = X at *
 generalize B * r = Y at *
 generalize B * nth ws (p + i) = Z at *
 generalize B * c = V at *
 generalize B * nth ys i = U at *
 omega
theorem At.room {zs ys ws : List Nat} {p i c : Nat} (h : At zs ys p i ws c) (hf : val zs + 4294967296 ^ p * val ys < 4294967296 ^ zs.length) (hc : c ≠ 0) (hi : ys.length ≤ i) : p + i < zs.length := by
 rcases Nat.lt_or_ge (p + i) zs.length with h1 | h1
 · exact h1
 · exfalso
   have he := h.eq
   rw [List.take_of_length_le hi] at he
   have hp : 4294967296 ^ zs.length ≤ 4294967296 ^ (p + i) := Nat.pow_le_pow_right (by decide) h1
   have h2 := Nat.mul_le_mul hp (Nat.one_le_iff_ne_zero.2 hc)
   omega
theorem At.done {zs ys ws : List Nat} {p i : Nat} (h : At zs ys p i ws 0) (hi : ys.length ≤ i) : val ws = val zs + 4294967296 ^ p * val ys := by
 have he := h.eq
 rw [List.take_of_length_le hi] at he
 simpa using he
theorem val_cut (xs : List Nat) (h : Nat) (hh : h ≤ xs.length) : val xs = val (xs.take h) + 4294967296 ^ h * val (xs.drop h) := by
 conv => lhs; rw [← List.take_append_drop h xs, val_append]
 rw [List.length_take, Nat.min_eq_left hh]
theorem kara (a b c d B : Nat) : a * c + B * ((a + b) * (c + d) - a * c - b * d) + B * B * (b * d) = (a + B * b) * (c + B * d) := by
 have e : (a + b) * (c + d) - a * c - b * d = a * d + b * c := by
  rw [Nat.add_mul, Nat.mul_add, Nat.mul_add]
  omega
 rw [e, Nat.add_mul, Nat.mul_add, Nat.mul_add, Nat.mul_add]
 have e1 : B * b * (B * d) = B * B * (b * d) := by rw [Nat.mul_mul_mul_comm]
 have e2 : a * (B * d) = B * (a * d) := by rw [Nat.mul_left_comm]
 have e3 : B * b * c = B * (b * c) := Nat.mul_assoc ..
 omega
theorem sl_take {w : World} {ao : Option Addr} {n c k : Nat} {xs : List Nat} (h : Sl w ao n c xs) (hk : k ≤ n) : Sl w ao k c (xs.take k) := by
 refine ⟨by rw [List.length_take, h.len]; omega, by have := h.le; omega, h.cap, ok_take h.ok k, fun h0 => ?_⟩
 obtain ⟨b, o, e, hb, hc⟩ := h.at_ (by omega)
 refine ⟨b, o, e, hb, fun j hj => ?_⟩
 rw [hc j (by omega)]
 unfold nth
 rw [List.getD_eq_getElem?_getD, List.getD_eq_getElem?_getD, List.getElem?_take, if_pos hj]
theorem sl_part {w : World} {b o n c : Nat} {xs : List Nat} (h : Sl w (some ⟨b, o, none⟩) n c xs) {i j : Nat} (hi : i < n) (hj : j ≤ n) : Sl w (some ⟨b, o + i, none⟩) (j - i) (c - i) ((xs.drop i).take (j - i)) := sl_take (h.drop hi) (by omega)
theorem len_add {m n h : Nat} (hm : m < 4294967296 ^ h) (hn : n < 4294967296 ^ h) : (limbs (m + n)).length ≤ h + 1 := by
 refine limbs_length_le ?_
 rw [Nat.pow_succ]
 omega
theorem sl_tail {w : World} {b o n c h : Nat} {xs : List Nat} (hs : Sl w (some ⟨b, o, none⟩) n c xs) (hh : h ≤ n) : Sl w (if c = h then some ⟨b, o, none⟩ else some ⟨b, o + h, none⟩) (n - h) (c - h) (xs.drop h) := by
 have hle := hs.le
 have hcap := hs.cap
 by_cases hn : h < n
 · rw [if_neg (by omega)]
   exact hs.drop hn
 · exact ⟨by rw [List.length_drop, hs.len], by omega, by omega, ok_drop hs.ok h, fun h0 => absurd h0 (by omega)⟩
theorem mul_part (xs : List Nat) (p e Y : Nat) (h1 : p ≤ e) (h2 : e ≤ xs.length) : val (xs.take p) * Y + 4294967296 ^ p * (val ((xs.drop p).take (e - p)) * Y) = val (xs.take e) * Y := by
 have hc := val_cut (xs.take e) p (by rw [List.length_take]; omega)
 rw [List.take_take, Nat.min_eq_left h1, List.drop_take] at hc
 rw [hc, Nat.add_mul, Nat.mul_assoc]
theorem mul_lt {xs ys : List Nat} (hx : Ok xs) (hy : Ok ys) {n : Nat} (hn : xs.length + ys.length < n) : val xs * val ys < 4294967296 ^ n := by
 have h1 := val_lt hx
 have h2 := val_lt hy
 have h3 : val xs * val ys ≤ 4294967296 ^ xs.length * 4294967296 ^ ys.length := Nat.mul_le_mul (Nat.le_of_lt h1) (Nat.le_of_lt h2)
 rw [← Nat.pow_add] at h3
 exact Nat.lt_of_le_of_lt h3 (Nat.pow_lt_pow_right (by decide) hn)
theorem len_mul {xs ys : List Nat} (hx : Ok xs) (hy : Ok ys) : (limbs (val xs * val ys)).length ≤ xs.length + ys.length := by
 have h1 := val_lt hx
 have h2 := val_lt hy
 by_cases h0 : val ys = 0
 · rw [h0, Nat.mul_zero, limbs_zero]; exact Nat.zero_le _
 · refine limbs_length_le ?_
   rw [Nat.pow_add]
   exact Nat.lt_of_lt_of_le (Nat.mul_lt_mul_of_pos_right h1 (Nat.pos_of_ne_zero h0)) (Nat.mul_le_mul_left _ (Nat.le_of_lt h2))
theorem room_at {p n m : Nat} (hp : p ≤ n) (h : 4294967296 ^ p * m < 4294967296 ^ n) : p + (limbs m).length ≤ n := by
 have h1 : m < 4294967296 ^ (n - p) := by
  have e : 4294967296 ^ n = 4294967296 ^ p * 4294967296 ^ (n - p) := by rw [← Nat.pow_add, show p + (n - p) = n by omega]
  rw [e] at h
  exact Nat.lt_of_mul_lt_mul_left h
 have := limbs_length_le h1
 omega
theorem kara_fit {a b c d h n : Nat} (hT : (a + 4294967296 ^ h * b) * (c + 4294967296 ^ h * d) < 4294967296 ^ n) (hn : 2 * h ≤ n) :
 (limbs (a * c)).length ≤ n ∧ h + (limbs ((a + b) * (c + d) - a * c - b * d)).length ≤ n ∧ 2 * h + (limbs (b * d)).length ≤ n ∧ a * c < 4294967296 ^ n ∧
 a * c + 4294967296 ^ h * ((a + b) * (c + d) - a * c - b * d) < 4294967296 ^ n ∧
 a * c + 4294967296 ^ h * ((a + b) * (c + d) - a * c - b * d) + 4294967296 ^ (2 * h) * (b * d) = (a + 4294967296 ^ h * b) * (c + 4294967296 ^ h * d) := by
 have hk := kara a b c d (4294967296 ^ h)
 have e2 : 4294967296 ^ (2 * h) = 4294967296 ^ h * 4294967296 ^ h := by rw [← Nat.pow_add, show h + h = 2 * h by omega]
 rw [e2]
 refine ⟨?_, ?_, ?_, by omega, by omega, hk⟩
 · have := room_at (p := 0) (n := n) (m := a * c) (by omega) (by rw [Nat.pow_zero, Nat.one_mul]; omega)
   omega
 · exact room_at (by omega) (by omega)
 · exact room_at hn (by rw [e2]; omega)
theorem kara_le (a b c d : Nat) : a * c ≤ (a + b) * (c + d) ∧ b * d ≤ (a + b) * (c + d) - a * c := by
 have h1 : (a + b) * (c + d) = a * c + a * d + (b * c + b * d) := by rw [Nat.add_mul, Nat.mul_add, Nat.mul_add]
 omega
def ln (N : Nat) : Nat := (limbs N).length
theorem ln_mono {A B : Nat} (h : B ≤ A) : ln B ≤ ln A := limbs_mono h
theorem ln_mul (A B : Nat) : ln (A * B) ≤ ln A + ln B := by
 have h := len_mul (ok_limbs A) (ok_limbs B)
 rwa [val_limbs', val_limbs'] at h
theorem ln_lt (A : Nat) : A < 4294967296 ^ ln A := by
 have h := val_lt (ok_limbs A)
 rwa [val_limbs'] at h
theorem ln_le {A k : Nat} (h : A < 4294967296 ^ k) : ln A ≤ k := limbs_length_le h
theorem ln_add {A B k : Nat} (hA : ln A ≤ k) (hB : ln B ≤ k) : ln (A + B) ≤ k + 1 :=
 len_add (Nat.lt_of_lt_of_le (ln_lt A) (Nat.pow_le_pow_right (by decide) hA)) (Nat.lt_of_lt_of_le (ln_lt B) (Nat.pow_le_pow_right (by decide) hB))
theorem ln_add' (A B : Nat) : ln (A + B) ≤ ln A + ln B + 1 := ln_add (Nat.le_add_right _ _) (Nat.le_add_left _ _)
theorem ln_div (A B : Nat) : ln (A / B) ≤ ln A := ln_mono (Nat.div_le_self A B)
theorem ln_mod (A B : Nat) : ln (A % B) ≤ ln A := ln_mono (Nat.mod_le A B)
theorem ln_two (k : Nat) : ln (2 ^ k) ≤ k / 32 + 1 := by
 refine ln_le ?_
 rw [show (4294967296 : Nat) = 2 ^ 32 from rfl, ← Nat.pow_mul]
 exact Nat.pow_lt_pow_right (by decide) (by omega)
theorem ln_shl (A k : Nat) : ln (A * 2 ^ k) ≤ ln A + (k / 32 + 1) := Nat.le_trans (ln_mul _ _) (Nat.add_le_add_left (ln_two k) _)
theorem ln_one : ln 1 = 1 := by decide
theorem ln_small {A : Nat} (h : A < 4294967296) : ln A ≤ 1 := ln_le (by rw [Nat.pow_one]; exact h)
theorem ln_small2 {A : Nat} (h : A < 18446744073709551616) : ln A ≤ 2 := ln_le (by rw [show (4294967296 : Nat) ^ 2 = 18446744073709551616 from rfl]; exact h)
def Iz (e : TypeId) (w : World) (base b : Nat) (z : Int) : Prop := ∃ ao k c, In e w base b (decide (z < 0)) ao k c z.natAbs
theorem Iz.stay {e : TypeId} {w w' : World} {base b : Nat} {z : Int} (h : Iz e w base b z) (hb : Below w.heap.size w w') : Iz e w' base b z := by
 obtain ⟨ao, k, c, h⟩ := h
 exact ⟨ao, k, c, h.stay hb⟩
theorem Iz.mono {e : TypeId} {w : World} {base base' b : Nat} {z : Int} (h : Iz e w base b z) (hb : base' ≤ base) : Iz e w base' b z := by
 obtain ⟨ao, k, c, h⟩ := h
 exact ⟨ao, k, c, h.mono hb⟩
theorem Iz.zc {e : TypeId} {w : World} {base b : Nat} {z : Int} (h : Iz e w base b z) : Zc w b := by
 obtain ⟨ao, k, c, h⟩ := h
 exact h.zc
theorem Iz.lt {e : TypeId} {w : World} {base b : Nat} {z : Int} (h : Iz e w base b z) : b < w.heap.size := h.zc.lt
theorem Iz.le {e : TypeId} {w : World} {base b : Nat} {z : Int} (h : Iz e w base b z) : base ≤ b := by
 obtain ⟨ao, k, c, h⟩ := h
 exact h.hb
theorem Iz.older {e : TypeId} {w w' : World} {base b p : Nat} {z : Int} (h : Iz e w base b z) (hg : w.grownBy w' (some p)) (hp : p < base) : Iz e w' base b z := by
 obtain ⟨ao, k, c, h⟩ := h
 exact ⟨ao, k, c, h.other hg (by have := h.hb; omega) (fr_ne h.fr hp)⟩
theorem In.len {e : TypeId} {w : World} {base b : Nat} {s : Bool} {ao : Option Addr} {k c N : Nat} (h : In e w base b s ao k c N) : k = ln N := h.fr.sl.len.symm
def StZ (e : TypeId) (b base : Nat) (z : Int) (w : World) (en : Ending) (w' : World) : Prop := StI e b base (decide (z < 0)) z.natAbs w en w'
def MkZ (e : TypeId) (z : Int) (w : World) (en : Ending) (w' : World) : Prop :=
 ∃ b, en = .returned (.pointer (some ⟨b, 0, none⟩)) ∧ Iz e w' w.heap.size b z ∧ Below w.heap.size w w'
theorem MkI.z {e : TypeId} {s : Bool} {N : Nat} {w w' : World} {en : Ending} (h : MkI e s N w en w') {z : Int} (hs : s = decide (z < 0)) (hN : N = z.natAbs) : MkZ e z w en w' := by
 obtain ⟨b, ao, k, c, he, hi, hb⟩ := h
 subst hs hN
 exact ⟨b, he, ⟨ao, k, c, hi⟩, hb⟩
theorem StZ.in_ {e : TypeId} {b base : Nat} {z : Int} {w w' : World} {en : Ending} (h : StZ e b base z w en w') (hz : Zc w b) (hb : base ≤ b) :
 en = .returned (.pointer (some ⟨b, 0, none⟩)) ∧ Iz e w' base b z ∧ w.grownBy w' (some b) := by
 obtain ⟨ao, k, c, he, hi, hg⟩ := StI.in_ h hz hb
 exact ⟨he, ⟨ao, k, c, hi⟩, hg⟩
theorem iz_new {e t : TypeId} (w : World) : Iz e (w.alloc (.cells #[.bool false, .slice none 0 0] t)) w.heap.size w.heap.size 0 :=
 ⟨none, 0, 0, by simp, by simp, by simp [go_sem], by simp [go_sem], fr_nil _ _ _, by simp [blkOf], Nat.le_refl _⟩
theorem nzB_nat (s : Bool) (z : Int) (h : s = decide (z < 0)) : nzB s z.natAbs = decide (z < 0) := by
 subst h
 unfold nzB
 by_cases h0 : z < 0
 · rw [decide_eq_true h0, decide_eq_true (by omega)]; rfl
 · rw [decide_eq_false h0]; rfl
def sgv (s : Bool) (N : Nat) : Int := if s = true then -(N : Int) else N
theorem sgv_of (z : Int) : sgv (decide (z < 0)) z.natAbs = z := by
 unfold sgv
 by_cases h : z < 0
 · rw [decide_eq_true h, if_pos rfl]; omega
 · rw [decide_eq_false h, if_neg (by decide)]; omega
theorem sgv_not (z : Int) : sgv (!decide (z < 0)) z.natAbs = -z := by
 unfold sgv
 by_cases h : z < 0
 · rw [decide_eq_true h, if_neg (by decide)]; omega
 · rw [decide_eq_false h, if_pos (by decide)]; omega
theorem sgv_abs (s : Bool) (N : Nat) : (sgv s N).natAbs = N ∧ decide (sgv s N < 0) = nzB s N := by
 unfold sgv nzB
 cases s
 · refine ⟨by simp, ?_⟩
   rw [if_neg (by decide), decide_eq_false (by omega)]; rfl
 · rw [if_pos rfl]
   refine ⟨by omega, ?_⟩
   by_cases h : N = 0
   · subst h; rfl
   · rw [decide_eq_true (by omega : -(N : Int) < 0), decide_eq_true h]; rfl
theorem sgv_add (s : Bool) (A B : Nat) : sgv s A + sgv s B = sgv s (A + B) := by
 unfold sgv
 cases s
 · simp
 · simp; omega
theorem sgv_sub {s t : Bool} (hst : s ≠ t) {A B : Nat} (h : B ≤ A) : sgv s A + sgv t B = sgv s (A - B) ∧ sgv t B + sgv s A = sgv s (A - B) := by
 cases s <;> cases t
 · exact absurd rfl hst
 · unfold sgv; simp; omega
 · unfold sgv; simp; omega
 · exact absurd rfl hst
theorem StZ_sgv {e : TypeId} {b base : Nat} {s : Bool} {N : Nat} {w : World} : StZ e b base (sgv s N) w = StI e b base (nzB s N) N w := by
 unfold StZ
 funext en w'
 rw [(sgv_abs s N).1, (sgv_abs s N).2]
theorem sgn_mul (x y : Int) : nzB (decide (x < 0) != decide (y < 0)) (x.natAbs * y.natAbs) = decide (x * y < 0) ∧ x.natAbs * y.natAbs = (x * y).natAbs := by
 refine ⟨?_, (Int.natAbs_mul x y).symm⟩
 unfold nzB
 by_cases hx : x < 0
 · by_cases hy : y < 0
   · have : 0 < x * y := Int.mul_pos_of_neg_of_neg hx hy
     rw [decide_eq_true hx, decide_eq_true hy, decide_eq_false (by omega : ¬ x * y < 0)]; rfl
   · by_cases hy0 : y = 0
     · subst hy0; simp
     · have : x * y < 0 := Int.mul_neg_of_neg_of_pos hx (by omega)
       have h0 : x.natAbs * y.natAbs ≠ 0 := Nat.mul_ne_zero (by omega) (by omega)
       rw [decide_eq_true hx, decide_eq_false hy, decide_eq_true this, decide_eq_true h0]; rfl
 · by_cases hy : y < 0
   · by_cases hx0 : x = 0
     · subst hx0; simp
     · have : x * y < 0 := Int.mul_neg_of_pos_of_neg (by omega) hy
       have h0 : x.natAbs * y.natAbs ≠ 0 := Nat.mul_ne_zero (by omega) (by omega)
       rw [decide_eq_false hx, decide_eq_true hy, decide_eq_true this, decide_eq_true h0]; rfl
   · have : 0 ≤ x * y := Int.mul_nonneg (by omega) (by omega)
     rw [decide_eq_false hx, decide_eq_false hy, decide_eq_false (by omega : ¬ x * y < 0)]; rfl
theorem sgn_quo (x y : Int) : nzB (decide (x < 0) != decide (y < 0)) (x.natAbs / y.natAbs) = decide (x.tdiv y < 0) ∧ x.natAbs / y.natAbs = (x.tdiv y).natAbs ∧ nzB (decide (x < 0)) (x.natAbs % y.natAbs) = decide (x.tmod y < 0) ∧ x.natAbs % y.natAbs = (x.tmod y).natAbs := by
 have hq : x.natAbs / y.natAbs = (x.tdiv y).natAbs := (Int.natAbs_tdiv x y).symm
 have hr : x.natAbs % y.natAbs = (x.tmod y).natAbs := (Int.natAbs_tmod x y).symm
 refine ⟨?_, hq, ?_, hr⟩
 · unfold nzB
   rw [hq]
   by_cases hx : x < 0
   · by_cases hy : y < 0
     · have := Int.tdiv_nonneg_of_nonpos_of_nonpos (a := x) (b := y) (by omega) (by omega)
       rw [decide_eq_true hx, decide_eq_true hy, decide_eq_false (by omega : ¬ x.tdiv y < 0)]; rfl
     · have := Int.tdiv_nonneg (a := -x) (b := y) (by omega) (by omega)
       rw [Int.neg_tdiv] at this
       rw [decide_eq_true hx, decide_eq_false hy]
       by_cases h0 : x.tdiv y = 0
       · rw [h0]; rfl
       · rw [decide_eq_true (by omega : x.tdiv y < 0), decide_eq_true (by omega : (x.tdiv y).natAbs ≠ 0)]; rfl
   · by_cases hy : y < 0
     · have := Int.tdiv_nonpos_of_nonneg_of_nonpos (a := x) (b := y) (by omega) (by omega)
       rw [decide_eq_false hx, decide_eq_true hy]
       by_cases h0 : x.tdiv y = 0
       · rw [h0]; rfl
       · rw [decide_eq_true (by omega : x.tdiv y < 0), decide_eq_true (by omega : (x.tdiv y).natAbs ≠ 0)]; rfl
     · have := Int.tdiv_nonneg (a := x) (b := y) (by omega) (by omega)
       rw [decide_eq_false hx, decide_eq_false hy, decide_eq_false (by omega : ¬ x.tdiv y < 0)]; rfl
 · unfold nzB
   rw [hr]
   by_cases hx : x < 0
   · have h1 : x.tmod y ≤ 0 := by
      have := Int.tmod_nonneg (a := -x) y (by omega)
      rw [Int.neg_tmod] at this
      omega
     rw [decide_eq_true hx]
     by_cases h0 : x.tmod y = 0
     · rw [h0]; rfl
     · rw [decide_eq_true (by omega : x.tmod y < 0), decide_eq_true (by omega : (x.tmod y).natAbs ≠ 0)]; rfl
   · have := Int.tmod_nonneg (a := x) y (by omega)
     rw [decide_eq_false hx, decide_eq_false (by omega : ¬ x.tmod y < 0)]; rfl
def Rq (e : TypeId) (w : World) (base b : Nat) (q : Rat) : Prop := Ra e w base b (decide (q.num < 0)) q.num.natAbs q.den
def StQ (e : TypeId) (b base : Nat) (q : Rat) (w : World) (en : Ending) (w' : World) : Prop :=
 en = .returned (.pointer (some ⟨b, 0, none⟩)) ∧ Rq e w' base b q ∧ w.grownBy w' (some b)
def MkQ (e : TypeId) (q : Rat) (w : World) (en : Ending) (w' : World) : Prop :=
 ∃ b, en = .returned (.pointer (some ⟨b, 0, none⟩)) ∧ Rq e w' w.heap.size b q ∧ Below w.heap.size w w'
theorem Rq.stay {e : TypeId} {w w' : World} {base b : Nat} {q : Rat} (h : Rq e w base b q) (hb : Below w.heap.size w w') : Rq e w' base b q := Ra.stay h hb
theorem Rq.mono {e : TypeId} {w : World} {base base' b : Nat} {q : Rat} (h : Rq e w base b q) (hb : base' ≤ base) : Rq e w base' b q := Ra.mono h hb
theorem Rq.res {e : TypeId} {w : World} {base b : Nat} {q : Rat} (h : Rq e w base b q) : Res3 w b := Ra.res h
theorem Rq.lt {e : TypeId} {w : World} {base b : Nat} {q : Rat} (h : Rq e w base b q) : b < w.heap.size := h.res.lt
theorem mk_parts (z : Int) {D : Nat} (hD : D ≠ 0) : (mkRat z D).num.natAbs = z.natAbs / Nat.gcd z.natAbs D ∧ (mkRat z D).den = D / Nat.gcd z.natAbs D ∧ decide ((mkRat z D).num < 0) = decide (z < 0) := by
 have hg : 0 < Nat.gcd z.natAbs D := Nat.gcd_pos_of_pos_right _ (Nat.pos_of_ne_zero hD)
 have hn : (mkRat z D).num = z / ((Nat.gcd z.natAbs D : Nat) : Int) := by rw [Rat.num_mkRat, if_neg hD, Nat.gcd_comm]
 have hdv : ((Nat.gcd z.natAbs D : Nat) : Int) ∣ z := by rw [← Int.dvd_natAbs, Int.ofNat_dvd]; exact Nat.gcd_dvd_left _ _
 obtain ⟨r, hr⟩ := hdv
 refine ⟨?_, by rw [Rat.den_mkRat, if_neg hD, Nat.gcd_comm], ?_⟩
 · rw [hn, Int.natAbs_ediv_of_dvd ⟨r, hr⟩, Int.natAbs_natCast]
 · have hg' : (0 : Int) < ((Nat.gcd z.natAbs D : Nat) : Int) := by omega
   rw [hn]
   generalize ((Nat.gcd z.natAbs D : Nat) : Int) = g at *
   have e : z / g = r := by rw [hr]; exact Int.mul_ediv_cancel_left _ (by omega)
   rw [e]
   refine decide_eq_decide.2 ⟨fun h => ?_, fun h => ?_⟩
   · rw [hr]; exact Int.mul_neg_of_pos_of_neg hg' h
   · rcases Int.lt_or_le r 0 with h1 | h1
     · exact h1
     · have := Int.mul_nonneg (Int.le_of_lt hg') h1
       omega
def QrZ (e : TypeId) (b br : Nat) (q r : Int) (w : World) (en : Ending) (w' : World) : Prop :=
 ∃ aq kq cq ar kr cr w1, en = .returned (.tuple #[.pointer (some ⟨b, 0, none⟩), .pointer (some ⟨br, 0, none⟩)]) ∧ Below w.heap.size w w1 ∧ Fr e w1 w.heap.size aq kq cq (limbs q.natAbs) ∧ Fr e w1 w.heap.size ar kr cr (limbs r.natAbs) ∧ w' = setIn (setIn w1 br (decide (r < 0)) (.slice ar kr cr)) b (decide (q < 0)) (.slice aq kq cq)
theorem Zc.setOther {w : World} {b p : Nat} (h : Zc w b) (hne : b ≠ p) (s : Bool) (v : Value) : Zc (Lb.setIn w p s v) b :=
 Zc.of ((setIn_other hne s v).trans h.c0) ((setIn_other hne s v).trans h.c1) ((setIn_z ..).trans h.z0) ((setIn_z ..).trans h.z1)
theorem QrZ.in_ {e : TypeId} {b br base : Nat} {q r : Int} {w w' : World} {en : Ending} (h : QrZ e b br q r w en w') (hz : Zc w b) (hr : Zc w br) (ne : br ≠ b) (h0 : base ≤ w.heap.size) (h1 : base ≤ b) (h2 : base ≤ br) :
 en = .returned (.tuple #[.pointer (some ⟨b, 0, none⟩), .pointer (some ⟨br, 0, none⟩)]) ∧ Iz e w' base b q ∧ Iz e w' base br r := by
 obtain ⟨aq, kq, cq, ar, kr, cr, w1, he, hb, fq, fr, rfl⟩ := h
 have ir := setIn_in (hr.stay hb) (decide (r < 0)) (fr.mono h0) (fr_ne fr hr.lt) h2
 have fq1 := fr_grown fq (setIn_grown w1 br (decide (r < 0)) (.slice ar kr cr)) hr.lt
 have iq := setIn_in ((hz.stay hb).setOther (Ne.symm ne) (decide (r < 0)) (.slice ar kr cr)) (decide (q < 0)) (fq1.mono h0) (fr_ne fq hz.lt) h1
 exact ⟨he, ⟨aq, kq, cq, iq⟩, ⟨ar, kr, cr, ir.other (setIn_grown _ b _ _) ne (fr_ne fr hz.lt)⟩⟩
theorem QrZ.below {e : TypeId} {b br B : Nat} {q r : Int} {w0 w w' : World} {en : Ending} (h : QrZ e b br q r w en w') (hb0 : Below B w0 w) (hB : B ≤ w.heap.size) (h1 : B ≤ b) (h2 : B ≤ br) : Below B w0 w' := by
 obtain ⟨aq, kq, cq, ar, kr, cr, w1, he, hb, fq, fr, rfl⟩ := h
 have H1 : Below B w0 w1 := hb0.trans (hb.mono hB)
 have H2 := H1.grown (setIn_grown w1 br (decide (r < 0)) (.slice ar kr cr)) (Nat.le_trans hB hb.size) (fun k hk => by cases hk; exact h2)
 exact H2.grown (setIn_grown _ b (decide (q < 0)) (.slice aq kq cq)) (Nat.le_trans hB (Nat.le_trans hb.size (setIn_grown w1 br _ _).size)) (fun k hk => by cases hk; exact h1)
theorem StZ.below {e : TypeId} {b base B : Nat} {z : Int} {w0 w w' : World} {en : Ending} (h : StZ e b base z w en w') (hb0 : Below B w0 w) (hB : B ≤ w.heap.size) (h1 : B ≤ b) : Below B w0 w' := by
 obtain ⟨ao, k, c, w1, he, hb, hf, hne, rfl⟩ := h
 exact (hb0.trans (hb.mono hB)).grown (setIn_grown w1 b _ _) (Nat.le_trans hB hb.size) (fun k hk => by cases hk; exact h1)
theorem sgn_shl (x : Int) (k : Nat) : nzB (decide (x < 0)) (x.natAbs * 2 ^ k) = decide (x * 2 ^ k < 0) ∧ x.natAbs * 2 ^ k = (x * 2 ^ k).natAbs := by
 have h := sgn_mul x ((2 ^ k : Nat) : Int)
 have hp := Nat.two_pow_pos k
 rw [decide_eq_false (by omega : ¬ ((2 ^ k : Nat) : Int) < 0), Int.natAbs_natCast] at h
 have e : ((2 ^ k : Nat) : Int) = (2 : Int) ^ k := by simp
 rw [e] at h
 simpa using h
theorem nonneg_dec {x : Int} (h : 0 ≤ x) : decide (x < 0) = false := decide_eq_false (by omega)
theorem iz_nat {e : TypeId} {w : World} {base b x : Nat} (h : Iz e w base b (x : Int)) : ∃ ao k c, In e w base b false ao k c x := by
 obtain ⟨ao, k, c, h⟩ := h
 rw [nonneg_dec (by omega), Int.natAbs_natCast] at h
 exact ⟨ao, k, c, h⟩
theorem nzB_neg (x : Int) : nzB (!decide (x < 0)) x.natAbs = decide (-x < 0) ∧ x.natAbs = (-x).natAbs := by
 refine ⟨?_, (Int.natAbs_neg x).symm⟩
 unfold nzB
 by_cases h : x < 0
 · rw [decide_eq_true h, decide_eq_false (by omega : ¬ -x < 0)]; rfl
 · rw [decide_eq_false h]
   by_cases h0 : x = 0
   · subst h0; rfl
   · rw [decide_eq_true (by omega : x.natAbs ≠ 0), decide_eq_true (by omega : -x < 0)]; rfl
theorem sgnI_z (x : Int) : sgnI (decide (x < 0)) x.natAbs = x.sign := by
 unfold sgnI
 rcases Int.lt_trichotomy x 0 with h | h | h
 · rw [if_neg (by omega), decide_eq_true h, if_pos rfl, Int.sign_eq_neg_one_of_neg h]
 · subst h; rfl
 · rw [if_neg (by omega), decide_eq_false (by omega), if_neg (by decide), Int.sign_eq_one_of_pos h]
theorem nonneg_nat (x : Nat) : decide ((x : Int) < 0) = false := decide_eq_false (by omega)
theorem StZ.grown {e : TypeId} {b base : Nat} {z : Int} {w w' : World} {en : Ending} (h : StZ e b base z w en w') : w.grownBy w' (some b) := by
 obtain ⟨ao, k, c, w1, he, hb, hf, hne, rfl⟩ := h
 exact grown_trans (grown_below hb _) (setIn_grown _ _ _ _)
end Go.Lb
