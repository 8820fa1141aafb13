/-
  Contracts of numeral/big: Int: set, SetWords, Sign, Cmp, SetInt64, NewInt, GCD, Neg, Set, BitLen. (Printed by wip/gen/bigH.py.) Contracts of numeral/big: Rat: set, SetFrac, Num, below, Denom, Sign. (Printed by wip/gen/bigH.py.)
-/
import Derived.Test.YtpmncmglmobjoaaGreatDoorQbTBgG
import Derived.Deep.RegionWith
set_option maxHeartbeats 4000000
set_option maxRecDepth 100000
namespace Go.Proofs.YtpmncmglmobjoaaGreatDoor
open Go.RowKit Go.Lb
theorem bgSet_any (b : Nat) (s : Bool) (ao : Option Addr) (n c N base : Nat) (w : World) (hz : Zc w b) (hf : Fr 40 w base ao n c (limbs N)) :
 Calls Tryz.prog 94 #[.pointer (some ⟨b, 0, none⟩), .bool s, .slice ao n c] w fun e w' => e = .returned (.pointer (some ⟨b, 0, none⟩)) ∧ w' = setIn w b (nzB s N) (.slice ao n c) := by
 have hnil : ao = none → c = 0 := fun h => by
  rcases hf.blk with ⟨_, _, h1⟩ | ⟨g, cur, h1, _⟩
  · exact h1
  · rw [h1] at h; cases h
 have hk : Hid (n = (limbs (val (limbs N))).length) := Lib.hid (by rw [val_limbs']; exact hf.sl.len.symm)
 have hs := hf.sl
 obtain ⟨c0, c1, z0, z1⟩ := hz
 by_cases hN : N = 0
 · have hn : n = 0 := by rw [← hs.len, hN, limbs_zero]; rfl
   have hd : Hid ((nzB s N) = false) := Lib.hid (by simp [nzB, hN])
   clear hN
   subst hn
   cases s
   all_goals
    go_enter Tryz.func94, Tryz.ntmps94
    go_wp2_with (go_at_call 138; (with_reducible refine (bgTrim_len ao (0 : Nat) c (0 : Nat) (limbs N) _ hs hk hnil).mono ?_); rintro e w1 ⟨rfl, rfl⟩)
    go_ret
    exact ⟨rfl, by rw [hd.out]; rfl⟩
 · have hn : 0 < n := by
    rw [← hs.len]
    exact List.length_pos_iff.2 fun h => hN (by have := val_limbs' N; rw [h] at this; exact this.symm)
   have hd : Hid (∀ t : Bool, nzB t N = t) := Lib.hid (by intro t; simp [nzB, hN])
   have hn1 : (n : Int) > 0 := by omega
   clear hN
   cases s
   all_goals
    go_enter Tryz.func94, Tryz.ntmps94
    go_wp2_with (go_at_call 138; (with_reducible refine (bgTrim_len ao n c n (limbs N) _ hs hk hnil).mono ?_); rintro e w1 ⟨rfl, rfl⟩)
    go_ret
    exact ⟨rfl, by rw [hd.out]; rfl⟩
theorem bgSetWords_any (b : Nat) (ao : Option Addr) (n c base : Nat) (xs : List Nat) (w : World) (hz : Zc w b) (h : Sl w ao n c xs) (hf : Fine xs) (hn : n ≤ 4294967296) (hb : base ≤ w.heap.size) :
 Calls Tryz.prog 174 #[.pointer (some ⟨b, 0, none⟩), .slice ao n c] w (StI 40 b base false (val xs) w) := by
 have hbl := hz.lt
 go_enter Tryz.func174, Tryz.ntmps174
 go_wp2_with (first
  | (go_at_call 92; refine (bgCopied_any ao n c xs _ h hn).mono ?_; rintro e w1 ⟨g, rfl, ho, hb1⟩; have hF := fr_copied ho h hf)
  | (go_at_call 94; refine (bgSet_any b false (some ⟨g, 0, none⟩) n n (val xs) w.heap.size _ (hz.stay hb1) hF).mono ?_; rintro e w2 ⟨rfl, rfl⟩))
 go_ret
 exact ⟨_, _, _, w1, rfl, hb1, hF.mono hb, fr_ne hF hbl, rfl⟩
theorem bgSign_any (b base : Nat) (s : Bool) (ao : Option Addr) (k c N : Nat) (w : World) (h : In 40 w base b s ao k c N) :
 Calls Tryz.prog 90 #[.pointer (some ⟨b, 0, none⟩)] w fun e w' => e = .returned (.int .i64 (sgnI s N)) ∧ w = w' := by
 have hnil := h.nil
 obtain ⟨c0, c1, z0, z1, hf, hne, hb⟩ := h
 by_cases hk : k = 0
 · have hs : Hid (sgnI s N = 0) := Lib.hid (by unfold sgnI; rw [if_pos (hnil.2 hk)])
   subst hk
   clear hf hnil
   go_enter Tryz.func90, Tryz.ntmps90
   go_wp2
   go_ret
   exact ⟨by rw [hs.out]; rfl, rfl⟩
 · have hN : ¬ N = 0 := fun hh => hk (hnil.1 hh)
   have hk1 : ((k : Int) == 0) = false := by simp [hk]
   cases s
   · have hs : Hid (sgnI false N = 1) := Lib.hid (by unfold sgnI; rw [if_neg hN]; rfl)
     clear hf hnil hN
     go_enter Tryz.func90, Tryz.ntmps90
     go_wp2
     go_ret
     exact ⟨by rw [hs.out]; rfl, rfl⟩
   · have hs : Hid (sgnI true N = -1) := Lib.hid (by unfold sgnI; rw [if_neg hN]; rfl)
     clear hf hnil hN
     go_enter Tryz.func90, Tryz.ntmps90
     go_wp2
     go_ret
     exact ⟨by rw [hs.out]; rfl, rfl⟩
theorem bgSetInt64_any (b base : Nat) (x : Int) (w : World) (hz : Zc w b) (hb : base ≤ w.heap.size) (hx : -9223372036854775808 ≤ x ∧ x ≤ 9223372036854775807) :
 Calls Tryz.prog 93 #[.pointer (some ⟨b, 0, none⟩), .int .i64 x] w (StI 40 b base (decide (x < 0)) x.natAbs w) := by
 have hbl := hz.lt
 obtain ⟨hx1, hx2⟩ := hx
 by_cases h0 : x < 0
 · have hd : Hid (nzB true x.natAbs = decide (x < 0)) := Lib.hid (by unfold nzB; rw [decide_eq_true h0, decide_eq_true (by omega)]; rfl)
   have hx3 : x.natAbs < 18446744073709551616 := by omega
   have hx4 : IntKind.u64.wrap (-(IntKind.u64.wrap x)) = (x.natAbs : Int) := by rw [IntKind.wrap_u64, IntKind.wrap_u64]; omega
   have H4 := Lib.hid hx4
   clear hx4
   go_enter Tryz.func93, Tryz.ntmps93
   go_wp2_with (first
    | (go_at_call 141; refine (bgFromUint_any x.natAbs _ (by first | exact H4.out | (have := H4.out; simp only [IntKind.wrap_u64] at this ⊢; omega)) _ hx3).mono ?_; rintro e w1 ⟨ao, k, c, rfl, hF, hb1⟩)
    | (go_at_call 94; refine (bgSet_any b true ao k c x.natAbs w.heap.size _ (hz.stay hb1) hF).mono ?_; rintro e w2 ⟨rfl, rfl⟩))
   go_ret
   exact ⟨_, _, _, w1, rfl, hb1, hF.mono hb, fr_ne hF hbl, by rw [hd.out]⟩
 · have hd : Hid (decide (x < 0) = false) := Lib.hid (decide_eq_false h0)
   have hx3 : x.natAbs < 18446744073709551616 := by omega
   have hx4 : IntKind.u64.wrap x = (x.natAbs : Int) := by rw [IntKind.wrap_u64]; omega
   have H4 := Lib.hid hx4
   clear hx4
   go_enter Tryz.func93, Tryz.ntmps93
   go_wp2_with (first
    | (go_at_call 141; refine (bgFromUint_any x.natAbs _ (by first | exact H4.out | (have := H4.out; simp only [IntKind.wrap_u64] at this ⊢; omega)) _ hx3).mono ?_; rintro e w1 ⟨ao, k, c, rfl, hF, hb1⟩)
    | (go_at_call 94; refine (bgSet_any b false ao k c x.natAbs w.heap.size _ (hz.stay hb1) hF).mono ?_; rintro e w2 ⟨rfl, rfl⟩))
   go_ret
   exact ⟨_, _, _, w1, rfl, hb1, hF.mono hb, fr_ne hF hbl, by rw [hd.out]; rfl⟩
theorem bgNewInt_any (x : Int) (w : World) (hx : -9223372036854775808 ≤ x ∧ x ≤ 9223372036854775807) :
 Calls Tryz.prog 51 #[.int .i64 x] w (MkI 40 (decide (x < 0)) x.natAbs w) := by
 go_enter Tryz.func51, Tryz.ntmps51
 go_wp2_with (go_at_call 93; refine (bgSetInt64_any w.heap.size w.heap.size x _ (zc_new _ _ _ _) (by simp) hx).mono ?_; rintro e w2 hS; obtain ⟨b, ao, k, c, rfl, hI, hb⟩ := hS.mk)
 go_ret
 exact ⟨b, ao, k, c, rfl, hI, hb⟩
theorem bgICmp_any (B1 B2 b1 b2 : Nat) (a1 a2 : Option Addr) (n1 n2 c1 c2 N1 N2 : Nat) (w : World) (h1 : In 40 w B1 b1 false a1 n1 c1 N1) (h2 : In 40 w B2 b2 false a2 n2 c2 N2) :
 Calls Tryz.prog 126 #[.pointer (some ⟨b1, 0, none⟩), .pointer (some ⟨b2, 0, none⟩)] w fun e w' => e = .returned (.int .i64 (cmpN N1 N2)) ∧ Below w.heap.size w w' := by
 have hC : ∀ W, Below w.heap.size w W → Calls Tryz.prog 160 #[.slice a1 n1 c1, .slice a2 n2 c2] W fun e w' => e = .returned (.int .i64 (cmpN N1 N2)) ∧ Below W.heap.size W w' := fun W hW => by
  have := bgCmp_any a1 a2 n1 n2 c1 c2 (limbs N1) (limbs N2) W (h1.fr.sl.below hW) (h2.fr.sl.below hW) (fine_limbs _) (fine_limbs _)
  rwa [val_limbs', val_limbs'] at this
 obtain ⟨d0, d1, _, _, _, _, _⟩ := h1
 obtain ⟨e0, e1, _, _, _, _, _⟩ := h2
 go_enter Tryz.func126, Tryz.ntmps126
 go_wp2
 go_quiet (fail)
 go_wp2
 go_region_with (go_at_call 160; refine (hC _ (by first | exact Below.refl _ _ | exact Below.drew (Below.refl _ _) | exact Below.drew (Below.drew (Below.refl _ _)) | exact drewn (Below.refl _ _) _ | exact (drewn (Below.refl _ _) _).drew)).mono ?_; rintro e w1 ⟨rfl, hb1⟩; replace hb1 : Below w.heap.size w w1 := (by first | exact hb1 | exact undrew hb1 | exact next (drewn (Below.refl _ _) _) hb1 | exact next (drewn (Below.refl _ _) _).drew hb1))
 all_goals go_wp2
 all_goals go_ret
 all_goals exact ⟨rfl, hb1⟩
theorem bgIBitLen_any (b base : Nat) (s : Bool) (ao : Option Addr) (k c N : Nat) (w : World) (h : In 40 w base b s ao k c N) (hk : k ≤ 4294967296) :
 Calls Tryz.prog 49 #[.pointer (some ⟨b, 0, none⟩)] w fun e w' => e = .returned (.int .i64 (szN (limbs N) : Int)) ∧ w = w' := by
 have hs := h.fr.sl
 obtain ⟨c0, c1, _, _, _, _, _⟩ := h
 go_enter Tryz.func49, Tryz.ntmps49
 go_wp2_with (go_at_call 87; refine (bgBitLen_any ao k c (limbs N) _ hs hk).mono ?_; rintro e w1 ⟨rfl, rfl⟩)
 go_ret
 exact ⟨rfl, rfl⟩
theorem bgNeg_any (b base B1 b1 : Nat) (s1 : Bool) (a1 : Option Addr) (n1 c1 N1 : Nat) (w : World) (hz : Zc w b) (hb : base ≤ w.heap.size) (h1 : In 40 w B1 b1 s1 a1 n1 c1 N1) (hn1 : n1 ≤ 4294967296) :
 Calls Tryz.prog 122 #[.pointer (some ⟨b, 0, none⟩), .pointer (some ⟨b1, 0, none⟩)] w (StI 40 b base (nzB (!s1) N1) N1 w) := by
 have hbl := hz.lt
 have hC : ∀ W, Below w.heap.size w W → Calls Tryz.prog 92 #[.slice a1 n1 c1] W (fun e w' => ∃ g, e = .returned (.slice (some ⟨g, 0, none⟩) n1 n1) ∧ Fr 40 w' W.heap.size (some ⟨g, 0, none⟩) n1 n1 (limbs N1) ∧ Below W.heap.size W w') := fun W hW => by
  refine (bgCopied_any a1 n1 c1 (limbs N1) W (h1.fr.sl.below hW) hn1).mono ?_
  rintro e w' ⟨g, rfl, ho, hb1⟩
  have := fr_copied ho h1.fr.sl (fine_limbs N1)
  rw [val_limbs'] at this
  exact ⟨g, rfl, this, hb1⟩
 obtain ⟨d0, d1, _, _, _, _, _⟩ := h1
 go_enter Tryz.func122, Tryz.ntmps122
 go_wp2
 go_region_with (first
  | (go_at_call 92; refine (hC _ (by first | exact Below.refl _ _ | exact Below.drew (Below.refl _ _))).mono ?_; rintro e w1 ⟨g, rfl, hF, hb1⟩; (try replace hb1 := undrew hb1); have f0 := cellStay d0 hb1; have f1 := cellStay d1 hb1)
  | (go_at_call 94; refine (bgSet_any b (!s1) (some ⟨g, 0, none⟩) n1 n1 N1 w.heap.size _ (hz.stay hb1) hF).mono ?_; rintro e w2 ⟨rfl, rfl⟩))
 all_goals go_wp2
 all_goals go_ret
 all_goals exact ⟨_, _, _, w1, rfl, hb1, hF.mono hb, fr_ne hF hbl, rfl⟩
theorem bgISet_any (b base B1 b1 : Nat) (s1 : Bool) (a1 : Option Addr) (n1 c1 N1 : Nat) (w : World) (hz : Zc w b) (hb : base ≤ w.heap.size) (h1 : In 40 w B1 b1 s1 a1 n1 c1 N1) (hn1 : n1 ≤ 4294967296) :
 Calls Tryz.prog 89 #[.pointer (some ⟨b, 0, none⟩), .pointer (some ⟨b1, 0, none⟩)] w (StI 40 b base (nzB s1 N1) N1 w) := by
 have hbl := hz.lt
 have hC : ∀ W, Below w.heap.size w W → Calls Tryz.prog 92 #[.slice a1 n1 c1] W (fun e w' => ∃ g, e = .returned (.slice (some ⟨g, 0, none⟩) n1 n1) ∧ Fr 40 w' W.heap.size (some ⟨g, 0, none⟩) n1 n1 (limbs N1) ∧ Below W.heap.size W w') := fun W hW => by
  refine (bgCopied_any a1 n1 c1 (limbs N1) W (h1.fr.sl.below hW) hn1).mono ?_
  rintro e w' ⟨g, rfl, ho, hb1⟩
  have := fr_copied ho h1.fr.sl (fine_limbs N1)
  rw [val_limbs'] at this
  exact ⟨g, rfl, this, hb1⟩
 obtain ⟨d0, d1, _, _, _, _, _⟩ := h1
 go_enter Tryz.func89, Tryz.ntmps89
 go_wp2
 go_region_with (first
  | (go_at_call 92; refine (hC _ (by first | exact Below.refl _ _ | exact Below.drew (Below.refl _ _))).mono ?_; rintro e w1 ⟨g, rfl, hF, hb1⟩; (try replace hb1 := undrew hb1); have f0 := cellStay d0 hb1; have f1 := cellStay d1 hb1)
  | (go_at_call 94; refine (bgSet_any b s1 (some ⟨g, 0, none⟩) n1 n1 N1 w.heap.size _ (hz.stay hb1) hF).mono ?_; rintro e w2 ⟨rfl, rfl⟩))
 all_goals go_wp2
 all_goals go_ret
 all_goals exact ⟨_, _, _, w1, rfl, hb1, hF.mono hb, fr_ne hF hbl, rfl⟩
theorem bgBy_fr (B : Nat) (a1 a2 : Option Addr) (n1 n2 c1 c2 N G : Nat) (w : World) (h1 : Fr 40 w B a1 n1 c1 (limbs N)) (h2 : Sl w a2 n2 c2 (limbs G)) (hn : n1 ≤ 1073741824) (h0 : G ≠ 0) (hB : B ≤ w.heap.size) :
 Calls Tryz.prog 134 #[.slice a1 n1 c1, .slice a2 n2 c2] w fun e w' => ∃ ao k c, e = .returned (.slice ao k c) ∧ Fr 40 w' B ao k c (limbs (N / G)) ∧ Below w.heap.size w w' := by
 have hG : val (limbs G) = G := val_limbs' G
 have hN : val (limbs N) = N := val_limbs' N
 refine (bgBy_any a1 a2 n1 n2 c1 c2 (limbs N) (limbs G) w h1.sl h2 (fine_limbs _) (fine_limbs _) hn (by rw [hG]; exact h0)).mono ?_
 rintro e w' ⟨ao, k, c, rfl, hS, hor, hb⟩
 rw [hN, hG] at hS hor
 refine ⟨ao, k, c, rfl, ?_, hb⟩
 rcases hor with ⟨rfl, rfl, rfl, h1'⟩ | hF
 · rw [h1', Nat.div_one]
   exact h1.below hb
 · exact hF.mono hB
theorem bgRSet_any (b base B : Nat) (s : Bool) (a1 a2 : Option Addr) (n1 n2 c1 c2 N D : Nat) (w : World) (hr : Res3 w b) (h1 : Fr 40 w B a1 n1 c1 (limbs N)) (h2 : Fr 40 w B a2 n2 c2 (limbs D)) (hD : D ≠ 0) (hB : b < B) (hBs : B ≤ w.heap.size) (hbb : base ≤ b) (hn1 : n1 ≤ 67108864) (hn2 : n2 ≤ 67108864) (hT : Tab w) :
 Calls Tryz.prog 136 #[.pointer (some ⟨b, 0, none⟩), .bool s, .slice a1 n1 c1, .slice a2 n2 c2] w (StR 40 b base (nzB s N) (N / Nat.gcd N D) (D / Nat.gcd N D) w) := by
 have nil1 : a1 = none → c1 = 0 := fun h => by
  rcases h1.blk with ⟨_, _, hh⟩ | ⟨g, cur, hh, _⟩
  · exact hh
  · rw [hh] at h; cases h
 have nil2 : a2 = none → c2 = 0 := fun h => by
  rcases h2.blk with ⟨_, _, hh⟩ | ⟨g, cur, hh, _⟩
  · exact hh
  · rw [hh] at h; cases h
 have hk1 : Hid (n1 = (limbs (val (limbs N))).length) := Lib.hid (by rw [val_limbs']; exact h1.sl.len.symm)
 have hk2 : Hid (n2 = (limbs (val (limbs D))).length) := Lib.hid (by rw [val_limbs']; exact h2.sl.len.symm)
 have s1 := h1.sl
 have s2 := h2.sl
 by_cases hN : N = 0
 · subst hN
   have hn : n1 = 0 := by rw [← s1.len, limbs_zero]; rfl
   subst hn
   have hd : Hid (nzB s 0 = false) := Lib.hid (by simp [nzB])
   have hq1 : Hid (0 / Nat.gcd 0 D = 0) := Lib.hid (Nat.zero_div _)
   have hq2 : Hid (D / Nat.gcd 0 D = 1) := Lib.hid (by rw [Nat.gcd_zero_left]; exact Nat.div_self (Nat.pos_of_ne_zero hD))
   have hFn : Fr 40 w base none 0 0 (limbs 0) := fr_nil _ _ _
   have hc2 := (hr.setIn (nzB false 0) (.slice none 0 0)).c2
   have hz2 := (hr.setIn (nzB false 0) (.slice none 0 0)).z2
   rw [hd.out, hq1.out, hq2.out]
   go_enter Tryz.func136, Tryz.ntmps136
   go_wp2_with (first
    | (go_at_call 138; (with_reducible refine (bgTrim_len a1 (0 : Nat) c1 (0 : Nat) (limbs 0) _ s1 hk1 nil1).mono ?_); rintro e w1 ⟨rfl, rfl⟩)
    | (go_at_call 138; (with_reducible refine (bgTrim_len a2 n2 c2 n2 (limbs D) _ s2 hk2 nil2).mono ?_); rintro e w1 ⟨rfl, rfl⟩)
    | (go_at_call 94; refine (bgSet_any b false none 0 0 0 base _ hr.zc hFn).mono ?_; rintro e w2 ⟨rfl, rfl⟩))
   go_ret
   have hI := setIn_in (e := 40) hr.zc false hFn (by simp [blkOf]) hbb
   have hR := hr.setIn false (.slice none 0 0)
   refine ⟨rfl, ?_, grown_trans (setIn_grown _ _ _ _) (grown_set _ _ _ _)⟩
   exact ra_of hI hR (ds := []) (fr_nil _ _ _) ⟨by omega, .inr ⟨rfl, rfl⟩⟩ (by simp [blkOf])
 · have hn : 0 < n1 := by
    rw [← s1.len]
    exact List.length_pos_iff.2 fun h => hN (by have := val_limbs' N; rw [h] at this; exact this.symm)
   have hg0 : Nat.gcd N D ≠ 0 := Nat.ne_of_gt (Nat.gcd_pos_of_pos_right _ (Nat.pos_of_ne_zero hD))
   have hd : Hid (nzB s (N / Nat.gcd N D) = nzB s N) := Lib.hid (by
    have : N / Nat.gcd N D ≠ 0 := Nat.ne_of_gt (Nat.div_pos (Nat.le_of_dvd (Nat.pos_of_ne_zero hN) (Nat.gcd_dvd_left N D)) (Nat.pos_of_ne_zero hg0))
    simp [nzB, hN, this])
   have hd2 : D / Nat.gcd N D ≠ 0 := Nat.ne_of_gt (Nat.div_pos (Nat.le_of_dvd (Nat.pos_of_ne_zero hD) (Nat.gcd_dvd_right N D)) (Nat.pos_of_ne_zero hg0))
   have hC : Calls Tryz.prog 133 #[.slice a1 n1 c1, .slice a2 n2 c2] w (Wd 40 (Nat.gcd N D) w) := by
    have := bgCommon_any a1 a2 n1 n2 c1 c2 (limbs N) (limbs D) w s1 s2 (fine_limbs _) (fine_limbs _) hn1 hn2 hT
    rwa [val_limbs', val_limbs'] at this
   generalize hG : Nat.gcd N D = G at *
   have HD2 := Lib.hid hd2
   have HG0 := Lib.hid hg0
   have hk0 : ((n1 : Int) == 0) = false := by simp; omega
   clear hd2 hg0 hG hN hD
   go_enter Tryz.func136, Tryz.ntmps136
   go_wp2_with (first
    | (go_at_call 138; (with_reducible refine (bgTrim_len a1 n1 c1 n1 (limbs N) _ s1 hk1 nil1).mono ?_); rintro e w1 ⟨rfl, rfl⟩)
    | (go_at_call 138; (with_reducible refine (bgTrim_len a2 n2 c2 n2 (limbs D) _ s2 hk2 nil2).mono ?_); rintro e w1 ⟨rfl, rfl⟩)
    | (go_at_call 133; refine hC.mono ?_; rintro e w1 ⟨ag, kg, cg, rfl, hFg, hb1⟩))
   go_region_with (first
    | (go_at_call 134; refine (bgBy_fr B a1 ag n1 kg c1 cg N G _ (h1.below hb1).drew hFg.sl.drew (by omega) HG0.out (Nat.le_trans hBs hb1.size)).mono ?_; rintro e w2 ⟨aq, kq, cq, rfl, hFq, hb2⟩; (try replace hb2 := undrew hb2); have W2 := next hb1 hb2; have R2 := hr.stay W2)
    | (go_at_call 94; refine (bgSet_any b s aq kq cq (N / G) B _ R2.zc hFq).mono ?_; rintro e w3 ⟨rfl, rfl⟩))
   all_goals
    rw [hd.out]
    have hI := setIn_in (e := 40) R2.zc (nzB s N) (hFq.mono (Nat.le_trans hbb (Nat.le_of_lt hB))) (fr_ne hFq hB) hbb
    have G3 := setIn_grown w2 b (nzB s N) (.slice aq kq cq)
    have R3 := R2.setIn (nzB s N) (.slice aq kq cq)
    have F3 := fr_grown (h2.below W2) G3 hB
    have g3 := fr_grown (hFg.below hb2) G3 (hr.lt)
    generalize setIn w2 b (nzB s N) (.slice aq kq cq) = w3 at *
    go_wp2_with (go_at_call 134; refine (bgBy_fr B a2 ag n2 kg c2 cg D G _ F3 g3.sl (by omega) HG0.out (Nat.le_trans hBs (Nat.le_trans W2.size G3.size))).mono ?_; rintro e w4 ⟨ad, kd, cd, rfl, hFd, hb4⟩; have R4 := R3.stay hb4; have cc2 := R4.c2; have cz2 := R4.z2)
    go_ret
    refine ⟨rfl, ?_, grown_trans (grown_trans (grown_below W2 _) (grown_trans G3 (grown_below hb4 _))) (grown_set _ _ _ _)⟩
    exact ra_of (hI.stay hb4) R4 (hFd.mono (Nat.le_trans hbb (Nat.le_of_lt hB))) (DenW.limbs HD2.out) (fr_ne hFd hB)
theorem bgSetFrac_any (b base B1 B2 b1 b2 : Nat) (s1 s2 : Bool) (a1 a2 : Option Addr) (n1 n2 c1 c2 N D : Nat) (w : World) (hr : Res3 w b) (h1 : In 40 w B1 b1 s1 a1 n1 c1 N) (h2 : In 40 w B2 b2 s2 a2 n2 c2 D) (ne1 : b1 ≠ b) (ne2 : b2 ≠ b) (hD : D ≠ 0) (hbb : base ≤ b) (hn1 : n1 ≤ 67108864) (hn2 : n2 ≤ 67108864) (hT : Tab w) :
 Calls Tryz.prog 123 #[.pointer (some ⟨b, 0, none⟩), .pointer (some ⟨b1, 0, none⟩), .pointer (some ⟨b2, 0, none⟩)] w (StR 40 b base (nzB (s1 != s2) N) (N / Nat.gcd N D) (D / Nat.gcd N D) w) := by
 have hbl := hr.lt
 have hC1 : ∀ W, Below w.heap.size w W → Calls Tryz.prog 92 #[.slice a1 n1 c1] W (fun e w' => ∃ g, e = .returned (.slice (some ⟨g, 0, none⟩) n1 n1) ∧ Fr 40 w' w.heap.size (some ⟨g, 0, none⟩) n1 n1 (limbs N) ∧ Below W.heap.size W w') := fun W hW => by
  refine (bgCopied_any a1 n1 c1 (limbs N) W (h1.fr.sl.below hW) (by omega)).mono ?_
  rintro e w' ⟨g, rfl, ho, hb1⟩
  have := fr_copied ho h1.fr.sl (fine_limbs N)
  rw [val_limbs'] at this
  exact ⟨g, rfl, this.mono hW.size, hb1⟩
 have hC2 : ∀ W, Below w.heap.size w W → Calls Tryz.prog 92 #[.slice a2 n2 c2] W (fun e w' => ∃ g, e = .returned (.slice (some ⟨g, 0, none⟩) n2 n2) ∧ Fr 40 w' w.heap.size (some ⟨g, 0, none⟩) n2 n2 (limbs D) ∧ Below W.heap.size W w') := fun W hW => by
  refine (bgCopied_any a2 n2 c2 (limbs D) W (h2.fr.sl.below hW) (by omega)).mono ?_
  rintro e w' ⟨g, rfl, ho, hb1⟩
  have := fr_copied ho h2.fr.sl (fine_limbs D)
  rw [val_limbs'] at this
  exact ⟨g, rfl, this.mono hW.size, hb1⟩
 have hR : ∀ W g1 g2, Below w.heap.size w W → Fr 40 W w.heap.size (some ⟨g1, 0, none⟩) n1 n1 (limbs N) → Fr 40 W w.heap.size (some ⟨g2, 0, none⟩) n2 n2 (limbs D) →
  Calls Tryz.prog 136 #[.pointer (some ⟨b, 0, none⟩), .bool (!(s1 == s2)), .slice (some ⟨g1, 0, none⟩) n1 n1, .slice (some ⟨g2, 0, none⟩) n2 n2] W (StR 40 b base (nzB (s1 != s2) N) (N / Nat.gcd N D) (D / Nat.gcd N D) W) :=
  fun W g1 g2 hW f1 f2 => bgRSet_any b base w.heap.size (s1 != s2) _ _ n1 n2 n1 n2 N D W (hr.stay hW) f1 f2 hD hbl hW.size hbb hn1 hn2 (hT.below hW)
 have hK : SfK w w b b1 b2 (.bool s1) (.slice a1 n1 c1) (.bool s2) (.slice a2 n2 c2) := ⟨h1.c0, h1.c1, h2.c0, h2.c1, grown_refl _ _, hr, ne1, ne2⟩
 clear hn1 hn2 hD hT hbb
 go_enter Tryz.func123, Tryz.ntmps123
 go_wp2
 go_region_held3 (fun w' => w'.cell? ⟨b1, 0, none⟩ = some (.bool s1) ∧ w'.cell? ⟨b1, 1, none⟩ = some (.slice a1 n1 c1) ∧ w'.cell? ⟨b2, 0, none⟩ = some (.bool s2) ∧ w'.cell? ⟨b2, 1, none⟩ = some (.slice a2 n2 c2) ∧ SfK w w' b b1 b2 (.bool s1) (.slice a1 n1 c1) (.bool s2) (.slice a2 n2 c2))
  ((first | exact SfK.conj hK.drew | exact SfK.conj hK | (go_split_ands; exact SfK.conj (SfK.stay (by assumption) hbB)) | (go_split_ands; exact SfK.conj (SfK.write (by assumption) hgB hrB)) | (go_keep; done)))
  (first
    | (go_at_call 92; (with_reducible refine (hC1 _ ?_).mono ?_); (exact Below.drew (Below.refl _ _)); rintro en wA ⟨g1, rfl, hF1, hbB⟩; have hWA : Below w.heap.size w wA := (by first | exact hbB | exact undrew hbB))
    | (go_at_call 92; (with_reducible refine (hC2 _ ?_).mono ?_); (exact hWA); rintro en wB ⟨g2, rfl, hF2, hbB⟩; have hWB := next hWA hbB; have hF1B := hF1.below hbB)
    | (go_at_call 136; (with_reducible refine (hR _ g1 g2 ?_ ?_ ?_).mono ?_); (exact hWB); (exact hF1B); (exact hF2); rintro en wC ⟨rfl, hRa, hgB⟩; have hrB := hRa.res))
 all_goals go_wp2
 all_goals go_ret
 all_goals exact ⟨rfl, hRa, grown_trans (grown_below hWB _) hgB⟩
theorem bgRNum_any (b base : Nat) (s : Bool) (N D : Nat) (w : World) (h : Ra 40 w base b s N D) (hl : (limbs N).length ≤ 4294967296) :
 Calls Tryz.prog 128 #[.pointer (some ⟨b, 0, none⟩)] w (MkI 40 (nzB s N) N w) := by
 obtain ⟨⟨ao, k, c, hi⟩, _, _⟩ := h
 have hk : k ≤ 4294967296 := by rw [← hi.fr.sl.len]; exact hl
 clear hl
 go_enter Tryz.func128, Tryz.ntmps128
 go_wp2_with (go_at_call 89; refine (bgISet_any w.heap.size w.heap.size base b s ao k c N _ (zc_new _ _ _ _) (by simp) (hi.stay (more (Below.refl _ _) _)) hk).mono ?_; rintro e w2 hS; obtain ⟨b2, ao2, k2, c2, rfl, hI, hb⟩ := hS.mk)
 go_ret
 exact ⟨b2, ao2, k2, c2, rfl, hI, hb⟩
theorem bgRSign_any (b base : Nat) (s : Bool) (N D : Nat) (w : World) (h : Ra 40 w base b s N D) :
 Calls Tryz.prog 129 #[.pointer (some ⟨b, 0, none⟩)] w fun e w' => e = .returned (.int .i64 (sgnI s N)) ∧ w = w' := by
 obtain ⟨⟨ao, k, c, hi⟩, _, _⟩ := h
 go_enter Tryz.func129, Tryz.ntmps129
 go_wp2_with (go_at_call 90; refine (bgSign_any b base s ao k c N _ hi).mono ?_; rintro e w2 ⟨rfl, rfl⟩)
 go_ret
 exact ⟨rfl, rfl⟩
theorem bgRbelow_any (b base : Nat) (s : Bool) (N D : Nat) (w : World) (h : Ra 40 w base b s N D) :
 Calls Tryz.prog 132 #[.pointer (some ⟨b, 0, none⟩)] w fun e w' => ∃ ao k c, e = .returned (.slice ao k c) ∧ Sl w' ao k c (limbs D) ∧ Below w.heap.size w w' := by
 obtain ⟨_, ⟨ad, kd, cd, ds, h2, hf, ⟨hD, hd⟩, hn⟩, _⟩ := h
 by_cases hk : kd = 0
 · have hl : ds = [] := List.length_eq_zero_iff.1 (by rw [hf.sl.len]; exact hk)
   have hD1 : D = 1 := by
    rcases hd with hd | ⟨_, hd⟩
    · have := val_limbs' D
      rw [← hd, hl] at this
      exact absurd this (by simp [val]; omega)
    · exact hd
   subst hk
   have hl1 : Hid (limbs D = [1]) := Lib.hid (by rw [hD1]; decide)
   have ho := own_sl (bgOwn_one w 1) (by intro x hx; simp at hx; omega)
   clear hf hd hl hD1
   go_enter Tryz.func132, Tryz.ntmps132
   go_wp2
   go_ret
   exact ⟨_, _, _, rfl, by rw [hl1.out]; exact ho, more (Below.refl _ _) _⟩
 · have hk1 : ((kd : Int) == 0) = false := by simp [hk]
   have hds : ds = limbs D := by
    rcases hd with hd | ⟨hd, _⟩
    · exact hd
    · exact absurd (by rw [← hf.sl.len, hd]; rfl) hk
   subst hds
   have hs := hf.sl
   clear hf hd hk
   go_enter Tryz.func132, Tryz.ntmps132
   go_wp2
   go_ret
   exact ⟨_, _, _, rfl, hs, Below.refl _ _⟩
theorem bgRDenom_any (b base : Nat) (s : Bool) (N D : Nat) (w : World) (h : Ra 40 w base b s N D) (hl : (limbs D).length ≤ 4294967296) :
 Calls Tryz.prog 125 #[.pointer (some ⟨b, 0, none⟩)] w (MkI 40 false D w) := by
 have hR := h.stay (more (Below.refl _ _) (.cells #[.bool false, .slice none 0 0] 86))
 have Hl := Lib.hid hl
 clear hl
 go_enter Tryz.func125, Tryz.ntmps125
 go_wp2_with (first
  | (go_at_call 132; refine (bgRbelow_any b base s N D _ hR).mono ?_; rintro e w1 ⟨ao, k, c, rfl, hS, hb1⟩; have Hk : Hid (k ≤ 4294967296) := Lib.hid (by rw [← hS.len]; exact Hl.out))
  | (go_at_call 92; refine (bgCopied_any ao k c (limbs D) _ hS Hk.out).mono ?_; rintro e w2 ⟨g, rfl, ho, hb2⟩; have hF := fr_copied (base := w.heap.size) (own_mono ho (by have := hb1.size; simp at this; omega)) hS (fine_limbs D); rw [val_limbs'] at hF; have hF' := fr_copied (base := w.heap.size + 1) (own_mono ho (by have := hb1.size; simp at this; omega)) hS (fine_limbs D); have hZ := ((zc_new w _ (.bool false) (.slice none 0 0)).stay hb1).stay hb2)
  | (go_at_call 94; refine (bgSet_any w.heap.size false (some ⟨g, 0, none⟩) k k D w.heap.size _ hZ hF).mono ?_; rintro e w3 ⟨rfl, rfl⟩))
 go_ret
 obtain ⟨b2, ao2, k2, c2, he, hI, hb⟩ := StI.mk (t := 86) (u := .bool false) (v := .slice none 0 0) (w := w) ⟨_, _, _, _, rfl, next hb1 hb2, hF, fr_ne hF' (Nat.lt_succ_self _), rfl⟩
 exact ⟨b2, ao2, k2, c2, he, hI, hb⟩
end Go.Proofs.YtpmncmglmobjoaaGreatDoor
