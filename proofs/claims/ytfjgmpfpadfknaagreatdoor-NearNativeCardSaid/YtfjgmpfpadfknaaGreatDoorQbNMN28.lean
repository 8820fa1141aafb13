/-
  The walks of numeralref02.SameNat and Same; of the laws' own helpers lend, kept, lent, still, small (numerallaw05).
-/
import Derived.Test.YtfjgmpfpadfknaaGreatDoorQbNBgU
import Derived.Test.YtfjgmpfpadfknaaGreatDoorQbNMN26
set_option maxHeartbeats 2000000
set_option maxRecDepth 100000
namespace Go.Proofs.YtfjgmpfpadfknaaGreatDoor
open Go.RowKit Go.Lb
section
attribute [local go_sem] Go.World.cell?_alloc_some
theorem take_nth {xs : List Nat} {k : Nat} (h : k < xs.length) : xs.take (k + 1) = xs.take k ++ [nth xs k] := take_succ_getD h
theorem nth_of_eq {xs ys : List Nat} (h : xs = ys) (k : Nat) : nth xs k = nth ys k := by rw [h]
theorem rf2SameNat_any (a1 a2 : Option Addr) (n1 n2 c1 c2 : Nat) (xs ys : List Nat) (w : World) (h1 : Sl w a1 n1 c1 xs) (h2 : Sl w a2 n2 c2 ys) :
 Calls Tryz.prog 61 #[.agg #[.slice a1 n1 c1], .agg #[.slice a2 n2 c2]] w fun e w' => e = .returned (.bool (decide (xs = ys))) ∧ Below w.heap.size w w' := by
 have hl1 := h1.len
 have hl2 := h2.len
 have hle1 := h1.le
 have hcap1 := h1.cap
 have hle2 := h2.le
 have hcap2 := h2.cap
 by_cases hn : n1 = n2
 · subst hn
   have HT : Hid (∀ k, k < n1 → xs.take k = ys.take k → nth xs k = nth ys k → xs.take (k + 1) = ys.take (k + 1)) := Lib.hid (fun k hk h1 h2 => by rw [take_nth (by omega), take_nth (by omega), h1, h2])
   have HE : Hid (xs.take n1 = ys.take n1 → decide (xs = ys) = true) := Lib.hid (fun h => by
    rw [List.take_of_length_le (by omega), List.take_of_length_le (by omega)] at h
    exact decide_eq_true h)
   have HN : Hid (∀ k, nth xs k ≠ nth ys k → decide (xs = ys) = false) := Lib.hid (fun k h => decide_eq_false (fun hh => h (nth_of_eq hh k)))
   clear hl1 hl2
   go_enter Tryz.func61, Tryz.ntmps61
   go_wp2
   go_loopw [5] (fun i wr => ∃ k m : Nat, k ≤ n1 ∧ i = .int .i64 k ∧ xs.take k = ys.take k ∧ wr = ((w.alloc (.cells #[.slice a1 n1 c1] 28)).alloc (.cells #[.slice a2 n1 c2] 28)).drewN m) (fun i _ => n1 - (intOf i).toNat)
   case atStart => exact ⟨0, 0, by omega, rfl, by simp, rfl⟩
   case round =>
    obtain ⟨k, m, hk, rfl, ht, rfl⟩ := hrel
    have HQ := Lib.hid ht
    clear ht
    by_cases hkn : k < n1
    · obtain ⟨b1, o1, rfl, hb1, hc1⟩ := h1.at_ (by omega)
      obtain ⟨b2, o2, rfl, hb2, hc2⟩ := h2.at_ (by omega)
      have k1 := hc1 k hkn
      have k2 := hc2 k hkn
      have hb1' : b1 < w.heap.size + 1 := by omega
      have hb2' : b2 < w.heap.size + 1 := by omega
      have i0 : (0 : Int) ≤ (k : Int) := by omega
      have i1 : (k : Int) < (n1 : Int) := by omega
      clear hc1 hc2
      by_cases he : nth xs k = nth ys k
      · have hR := Lib.hid (HT.out k hkn HQ.out he)
        rw [← he] at k2
        clear he
        go_wp2
        go_quiet (fail)
        go_wp2
        go_roundw
        case rel => exact ⟨k + 1, _, by omega, by go_num, hR.out, rfl⟩
        case measure => simp [intOf]; omega
      · have hR := Lib.hid (HN.out k he)
        have he' : ¬ ((nth xs k : Int) = (nth ys k : Int)) := by omega
        clear he
        go_wp2
        go_quiet (fail)
        go_wp2
        go_ret
        exact ⟨by rw [hR.out]; rfl, drewn (drewn (more (more (Below.refl _ _) _) _) _) _⟩
    · obtain rfl : n1 = k := by omega
      have hR := Lib.hid (HE.out HQ.out)
      go_wp2
      go_ret
      exact ⟨by rw [hR.out]; rfl, drewn (more (more (Below.refl _ _) _) _) _⟩
 · have hR : Hid (decide (xs = ys) = false) := Lib.hid (decide_eq_false (fun h => hn (by rw [← hl1, ← hl2, h])))
   have hn' : ¬ ((n1 : Int) = (n2 : Int)) := by omega
   clear hl1 hl2 hn
   go_enter Tryz.func61, Tryz.ntmps61
   go_wp2
   go_ret
   exact ⟨by rw [hR.out]; rfl, more (more (Below.refl _ _) _) _⟩
end
theorem infLit_any (q e f : Nat) (w : World) (he : e ≤ 64) (hB : Box2 w q (.int .i64 e) (.int .i64 f)) :
 Calls Tryz.prog 174 #[.pointer (some ⟨q, 0, none⟩)] w fun en w' => en = .returned (.tuple #[.int .u64 (maskN e : Int), .int .u64 0]) ∧ w = w' := by
 have ⟨a0, a1⟩ := hB
 have cM := mask_any e w he
 generalize maskN e = M at *
 go_enter Tryz.func174, Tryz.ntmps174
 go_wp2_with fail
 refine cM.mono ?_
 rintro en w1 ⟨rfl, rfl⟩
 go_wp2
 go_ret2
 exact ⟨rfl, rfl⟩
theorem knownInf_any (q e f : Nat) (neg : Bool) (w : World) (h : formE (e : Int) (f : Int) = 0) (hB : Box2 w q (.int .i64 e) (.int .i64 f)) :
 Calls Tryz.prog 73 #[.agg #[.int .i64 e, .int .i64 f], .bool neg, .func (.func 174) #[] #[.pointer (some ⟨q, 0, none⟩)]] w fun en w' => en = .returned (.tuple #[.int .u64 (joinN e f neg (maskN e) 0 : Int), .int .i64 0]) ∧ Below w.heap.size w w' := by
 obtain ⟨h1, h2, h3, h4⟩ := formE_ok h
 have g1 : 2 ≤ e := by omega
 have g2 : e ≤ 11 := by omega
 have g3 : f ≤ 52 := by omega
 have pe : maskN e < pw e := by rw [maskN_eq]; have := pw_pos e; omega
 have pf := pw_pos f
 have cJ := fun W => join_any e f neg (maskN e) 0 W g1 g2 g3 pe pf
 have cL := fun W hB => infLit_any q e f W (by omega) hB
 generalize maskN e = M at *
 go_enter Tryz.func73, Tryz.ntmps73
 go_wp2_with fail
 refine (formCheck_any e f _).mono ?_
 rintro en w1 ⟨rfl, hb1⟩
 rw [h]
 have ⟨a0, a1⟩ := (box2_new w (.int .i64 (e : Int)) (.int .i64 (f : Int)) 23).stay hb1
 have B1 := (hB.alloc (.cells #[.int .i64 (e : Int), .int .i64 (f : Int)] 23)).stay hb1
 go_wp2_with (go_at_call 174; refine (cL _ B1).mono ?_; rintro en w2 ⟨rfl, rfl⟩)
 refine (cJ _).mono ?_
 rintro en w2 ⟨rfl, hb2⟩
 go_wp2
 go_ret2
 exact ⟨rfl, next (next (more (Below.refl _ _) _) hb1) hb2⟩
theorem formsInf_any (e f : Nat) (neg : Bool) (w : World) (h : formE (e : Int) (f : Int) = 0) :
 Calls Tryz.prog 114 #[.agg #[.int .i64 e, .int .i64 f], .bool neg] w fun en w' => en = .returned (.tuple #[.int .u64 (joinN e f neg (maskN e) 0 : Int), .int .i64 0]) ∧ Below w.heap.size w w' := by
 have B := box2_new w (.int .i64 (e : Int)) (.int .i64 (f : Int)) 23
 have hW := more (Below.refl w.heap.size w) (.cells #[.int .i64 (e : Int), .int .i64 (f : Int)] 23)
 have cK := fun W hB => knownInf_any w.heap.size e f neg W h hB
 generalize joinN e f neg (maskN e) 0 = J at *
 go_enter Tryz.func114, Tryz.ntmps114
 go_wp2_with fail
 refine (cK _ B).mono ?_
 rintro en w1 ⟨rfl, hb1⟩
 go_wp2
 go_ret2
 exact ⟨rfl, next hW hb1⟩
theorem refValue_any (e f : Int) (b : Nat) (w : World) (hb : b < 18446744073709551616) :
 Calls Tryz.prog 110 #[.agg #[.int .i64 e, .int .i64 f], .int .u64 b] w (Valued e f b w) := by
 by_cases hF : fitsE e f b = 0
 · have h : formE e f = 0 := by
    apply Classical.byContradiction
    intro hn
    rw [fitsE_form hn] at hF
    exact hn hF
   obtain ⟨h1, h2, h3, h4⟩ := formE_ok h
   obtain ⟨e, rfl⟩ := Int.eq_ofNat_of_zero_le (by omega : 0 ≤ e)
   obtain ⟨f, rfl⟩ := Int.eq_ofNat_of_zero_le (by omega : 0 ≤ f)
   have hp : b < pw (1 + e + f) := by
    apply Classical.byContradiction
    intro hn
    rw [fitsE_bits h hn] at hF
    cases hF
   by_cases hxm : exN e f b = maskN e
   · exact refValue_endless e f b w h hb hp hxm
   · by_cases hx0 : exN e f b = 0
     · exact refValue_sub e f b w h hb hp hx0 hxm
     · exact refValue_normal e f b w h hb hp hx0 hxm
 · exact refValue_no e f b w hF hb
section
attribute [local go_sem] Go.World.cell?_alloc_some
theorem ra_rq {w : World} {base b N D : Nat} {s : Bool} (h : Ra 75 w base b s N D) (hD : D ≠ 0) (hG : Nat.gcd N D = 1) (hs : s = true → N ≠ 0) : Rq 75 w base b (sgQ' s N D) := by
 obtain ⟨q1, q2, q3⟩ := mk_low hD hG hs
 unfold Rq
 rw [q1, q2, q3]
 exact h
theorem rat_facts5 {w : World} {a1 a2 : Option Addr} {n1 n2 c1 c2 : Nat} {s : Bool} {xs ys : List Nat} (h1 : Sl w a1 n1 c1 xs) (h2 : Sl w a2 n2 c2 ys) (hr : ratB s xs ys = true) :
 Fine xs ∧ Fine ys ∧ val ys ≠ 0 ∧ Nat.gcd (val xs) (val ys) = 1 ∧ (s = true → val xs ≠ 0) ∧ n1 ≤ 16384 ∧ n2 ≤ 16384 := by
 obtain ⟨hx, hy, hl, hG, hs⟩ : chk xs = 0 ∧ chk ys = 0 ∧ ys.length ≠ 0 ∧ Nat.gcd (val xs) (val ys) = 1 ∧ (s = true → val xs ≠ 0) := of_decide_eq_true hr
 exact ⟨fine_of_chk h1.ok hx, fine_of_chk h2.ok hy, fun h => hl ((val_zero_iff h2.ok hy).1 h), hG, hs, by rw [← h1.len]; exact chk_zero_len hx, by rw [← h2.len]; exact chk_zero_len hy⟩
theorem taken_ok {s : Bool} {a1 a2 : Option Addr} {n1 n2 c1 c2 : Nat} {xs ys : List Nat} {w : World} (h1 : Sl w a1 n1 c1 xs) (h2 : Sl w a2 n2 c2 ys) (hT : Tab w) (hr : ratB s xs ys = true) :
 Calls Tryz.prog 75 #[.agg #[.bool s, .slice a1 n1 c1, .slice a2 n2 c2]] w fun en w' => ∃ b, en = .returned (.tuple #[.pointer (some ⟨b, 0, none⟩), .int .i64 0]) ∧ Rq 75 w' w.heap.size b (sgQ' s (val xs) (val ys)) ∧ Below w.heap.size w w' := by
 obtain ⟨_, _, hD, hG, hs, _, _⟩ := rat_facts5 h1 h2 hr
 refine (rtTaken_any s a1 a2 n1 n2 c1 c2 xs ys w h1 h2 hT).mono ?_
 rintro en w' (⟨_, b, rfl, hR, hb⟩ | ⟨hn, _⟩)
 · exact ⟨b, rfl, ra_rq hR hD hG hs, hb⟩
 · rw [hr] at hn; cases hn
theorem rtCmp_ok (s t : Bool) (a1 a2 b1 b2 : Option Addr) (n1 n2 m1 m2 c1 c2 d1 d2 : Nat) (xs ys us vs : List Nat) (w : World) (h1 : Sl w a1 n1 c1 xs) (h2 : Sl w a2 n2 c2 ys) (h3 : Sl w b1 m1 d1 us) (h4 : Sl w b2 m2 d2 vs) (hT : Tab w) (hr : ratB s xs ys = true) (ht : ratB t us vs = true) :
 Calls Tryz.prog 25 #[.agg #[.bool s, .slice a1 n1 c1, .slice a2 n2 c2], .agg #[.bool t, .slice b1 m1 d1, .slice b2 m2 d2]] w fun en w' => en = .returned (.tuple #[.int .i64 (cmpQ (sgQ' s (val xs) (val ys)) (sgQ' t (val us) (val vs))), .int .i64 0]) ∧ Below w.heap.size w w' := by
 obtain ⟨W2, hW2⟩ : ∃ W2 : World, W2 = (w.alloc (.cells #[.bool s, .slice a1 n1 c1, .slice a2 n2 c2] 30)).alloc (.cells #[.bool t, .slice b1 m1 d1, .slice b2 m2 d2] 30) := ⟨_, rfl⟩
 have hb2 : Below w.heap.size w W2 := hW2 ▸ more (more (Below.refl _ _) _) _
 have D2 : Box3 W2 w.heap.size (.bool s) (.slice a1 n1 c1) (.slice a2 n2 c2) := hW2 ▸ (box3_new w _ _ _ _).alloc _
 have R2 : Box3 W2 (w.heap.size + 1) (.bool t) (.slice b1 m1 d1) (.slice b2 m2 d2) := by
  have := box3_new (w.alloc (.cells #[.bool s, .slice a1 n1 c1, .slice a2 n2 c2] 30)) (.bool t) (.slice b1 m1 d1) (.slice b2 m2 d2) 30
  rw [World.size_alloc] at this
  exact hW2 ▸ this
 have tA := taken_ok (h1.below hb2) (h2.below hb2) (hT.below hb2) hr
 have tB : ∀ W, Below w.heap.size w W → Calls Tryz.prog 75 #[.agg #[.bool t, .slice b1 m1 d1, .slice b2 m2 d2]] W _ := fun W hW => taken_ok (h3.below hW) (h4.below hW) (hT.below hW) ht
 obtain ⟨_, _, hD, hG, hs, l1, l2⟩ := rat_facts5 h1 h2 hr
 obtain ⟨_, _, hD', hG', hs', l3, l4⟩ := rat_facts5 h3 h4 ht
 obtain ⟨q1, q2, _⟩ := mk_low hD hG hs
 obtain ⟨r1, r2, _⟩ := mk_low hD' hG' hs'
 have lN : ln (val xs) ≤ 16384 := Nat.le_trans (ln_le (val_lt h1.ok)) (by rw [h1.len]; exact l1)
 have lD : ln (val ys) ≤ 16384 := Nat.le_trans (ln_le (val_lt h2.ok)) (by rw [h2.len]; exact l2)
 have lM : ln (val us) ≤ 16384 := Nat.le_trans (ln_le (val_lt h3.ok)) (by rw [h3.len]; exact l3)
 have lE : ln (val vs) ≤ 16384 := Nat.le_trans (ln_le (val_lt h4.ok)) (by rw [h4.len]; exact l4)
 have hC : ∀ (W : World) (B1 B2 z1 z2 : Nat), Rq 75 W B1 z1 (sgQ' s (val xs) (val ys)) → Rq 75 W B2 z2 (sgQ' t (val us) (val vs)) → Calls Tryz.prog 76 #[.pointer (some ⟨z1, 0, none⟩), .pointer (some ⟨z2, 0, none⟩)] W fun e w' => e = .returned (.int .i64 (cmpQ (sgQ' s (val xs) (val ys)) (sgQ' t (val us) (val vs)))) ∧ Below W.heap.size W w' := fun W B1 B2 z1 z2 x y => bgRCmp_any z1 z2 B1 B2 _ _ W x y (by rw [q1]; omega) (by rw [q2]; omega) (by rw [r1]; omega) (by rw [r2]; omega)
 generalize sgQ' s (val xs) (val ys) = qx at *
 generalize sgQ' t (val us) (val vs) = qy at *
 generalize cmpQ qx qy = cv at *
 clear q1 q2 r1 r2 hD hG hs hD' hG' hs' l1 l2 l3 l4 lN lD lM lE h1 h2 h3 h4 hr ht hT
 have ⟨d0, d1', d2', _, _, _⟩ := D2
 go_enter Tryz.func25, Tryz.ntmps25
 go_wp2_with fail
 rw [← hW2]
 clear hW2
 refine tA.mono ?_
 rintro en w3 ⟨z1, rfl, Q1, hb3⟩
 have V3 := next hb2 hb3
 have ⟨e0, e1, e2, _, _, _⟩ := R2.stay hb3
 clear d0 d1' d2' D2 tA
 go_wp2_with fail
 refine (tB w3 V3).mono ?_
 rintro en w4 ⟨z2, rfl, Q2, hb4⟩
 clear e0 e1 e2 tB
 go_wp2_with fail
 refine (hC w4 _ _ z1 z2 (Q1.stay hb4) Q2).mono ?_
 rintro en w5 ⟨rfl, hb5⟩
 go_wp2
 go_ret2
 exact ⟨rfl, next (next V3 hb4) hb5⟩
end
theorem noughtLit_any (w : World) :
 Calls Tryz.prog 74 #[] w fun en w' => en = .returned (.tuple #[.int .u64 0, .int .u64 0]) ∧ w = w' := by
 go_enter Tryz.func74, Tryz.ntmps74
 go_wp2
 go_ret2
 exact ⟨rfl, rfl⟩
theorem knownNought_any (e f : Nat) (neg : Bool) (w : World) (h : formE (e : Int) (f : Int) = 0) :
 Calls Tryz.prog 73 #[.agg #[.int .i64 e, .int .i64 f], .bool neg, .func (.func 74) #[] #[]] w fun en w' => en = .returned (.tuple #[.int .u64 (joinN e f neg 0 0 : Int), .int .i64 0]) ∧ Below w.heap.size w w' := by
 obtain ⟨h1, h2, h3, h4⟩ := formE_ok h
 have g1 : 2 ≤ e := by omega
 have g2 : e ≤ 11 := by omega
 have g3 : f ≤ 52 := by omega
 have pe := pw_pos e
 have pf := pw_pos f
 go_enter Tryz.func73, Tryz.ntmps73
 go_wp2_with fail
 refine (formCheck_any e f _).mono ?_
 rintro en w1 ⟨rfl, hb1⟩
 rw [h]
 have ⟨a0, a1⟩ := (box2_new w (.int .i64 (e : Int)) (.int .i64 (f : Int)) 23).stay hb1
 go_wp2_with (go_at_call 74; refine (noughtLit_any _).mono ?_; rintro en w2 ⟨rfl, rfl⟩)
 refine (join_any e f neg 0 0 _ g1 g2 g3 pe pf).mono ?_
 rintro en w2 ⟨rfl, hb2⟩
 go_wp2
 go_ret2
 exact ⟨rfl, next (next (more (Below.refl _ _) _) hb1) hb2⟩
theorem formsNought_any (e f : Nat) (neg : Bool) (w : World) (h : formE (e : Int) (f : Int) = 0) :
 Calls Tryz.prog 24 #[.agg #[.int .i64 e, .int .i64 f], .bool neg] w fun en w' => en = .returned (.tuple #[.int .u64 (joinN e f neg 0 0 : Int), .int .i64 0]) ∧ Below w.heap.size w w' := by
 go_enter Tryz.func24, Tryz.ntmps24
 go_wp2_with fail
 refine (knownNought_any e f neg _ h).mono ?_
 rintro en w1 ⟨rfl, hb1⟩
 go_wp2
 go_ret2
 exact ⟨rfl, next (more (Below.refl _ _) _) hb1⟩
section
attribute [local go_sem] Go.World.cell?_alloc_some
def sameB (s t : Bool) (xs ys us vs : List Nat) : Bool := decide (s = t ∧ xs = us ∧ ys = vs)
theorem sameB_parts (s t : Bool) (xs ys us vs : List Nat) : sameB s t xs ys us vs = (decide (s = t) && (decide (xs = us) && decide (ys = vs))) := by
 unfold sameB
 simp
theorem rf2Same_any (s t : Bool) (a1 a2 b1 b2 : Option Addr) (n1 n2 m1 m2 c1 c2 d1 d2 : Nat) (xs ys us vs : List Nat) (w : World) (h1 : Sl w a1 n1 c1 xs) (h2 : Sl w a2 n2 c2 ys) (h3 : Sl w b1 m1 d1 us) (h4 : Sl w b2 m2 d2 vs) :
 Calls Tryz.prog 13 #[.agg #[.bool s, .slice a1 n1 c1, .slice a2 n2 c2], .agg #[.bool t, .slice b1 m1 d1, .slice b2 m2 d2]] w fun e w' => e = .returned (.bool (sameB s t xs ys us vs)) ∧ Below w.heap.size w w' := by
 obtain ⟨W2, hW2⟩ : ∃ W2 : World, W2 = (w.alloc (.cells #[.bool s, .slice a1 n1 c1, .slice a2 n2 c2] 30)).alloc (.cells #[.bool t, .slice b1 m1 d1, .slice b2 m2 d2] 30) := ⟨_, rfl⟩
 have hb2 : Below w.heap.size w W2 := hW2 ▸ more (more (Below.refl _ _) _) _
 have D2 : Box3 W2 w.heap.size (.bool s) (.slice a1 n1 c1) (.slice a2 n2 c2) := hW2 ▸ (box3_new w _ _ _ _).alloc _
 have R2 : Box3 W2 (w.heap.size + 1) (.bool t) (.slice b1 m1 d1) (.slice b2 m2 d2) := by
  have := box3_new (w.alloc (.cells #[.bool s, .slice a1 n1 c1, .slice a2 n2 c2] 30)) (.bool t) (.slice b1 m1 d1) (.slice b2 m2 d2) 30
  rw [World.size_alloc] at this
  exact hW2 ▸ this
 have kA : ∀ W, Below w.heap.size w W → Calls Tryz.prog 61 #[.agg #[.slice a1 n1 c1], .agg #[.slice b1 m1 d1]] W _ := fun W hW => rf2SameNat_any a1 b1 n1 m1 c1 d1 xs us W (h1.below hW) (h3.below hW)
 have kB : ∀ W, Below w.heap.size w W → Calls Tryz.prog 61 #[.agg #[.slice a2 n2 c2], .agg #[.slice b2 m2 d2]] W _ := fun W hW => rf2SameNat_any a2 b2 n2 m2 c2 d2 ys vs W (h2.below hW) (h4.below hW)
 rw [sameB_parts]
 generalize decide (xs = us) = p at *
 generalize decide (ys = vs) = q at *
 clear h1 h2 h3 h4
 have ⟨x0, x1, x2, _, _, _⟩ := D2
 have ⟨y0, y1, y2, _, _, _⟩ := R2
 go_enter Tryz.func13, Tryz.ntmps13
 go_upto_region 1 with fail
 rw [← hW2]
 clear hW2
 go_wp2_with fail
 with_reducible refine (kA W2 hb2).mono ?_
 rintro en w3 ⟨rfl, hb3⟩
 have V3 := next hb2 hb3
 have D3 := D2.stay hb3
 have R3 := R2.stay hb3
 clear x0 x1 x2 y0 y1 y2 D2 R2 hb2 hb3 kA
 have ⟨x0, x1, x2, _, _, _⟩ := D3
 have ⟨y0, y1, y2, _, _, _⟩ := R3
 go_wp2_with fail
 with_reducible refine (kB w3 V3).mono ?_
 rintro en w4 ⟨rfl, hb4⟩
 have V4 := next V3 hb4
 have D4 := D3.stay hb4
 have R4 := R3.stay hb4
 clear x0 x1 x2 y0 y1 y2 D3 R3 V3 hb4 kB
 have ⟨x0, x1, x2, _, _, _⟩ := D4
 have ⟨y0, y1, y2, _, _, _⟩ := R4
 clear D4 R4
 cases s <;> cases t <;> cases p <;> cases q <;> (go_wp2; go_ret; exact ⟨by simp, V4⟩)
end
def askL (e f : Int) : List Nat → Int
 | [] => 0
 | a :: l => if fitsE e f a ≠ 0 then fitsE e f a else askL e f l
theorem askL_at {e f : Int} : ∀ {l : List Nat} {k : Nat} (hk : k < l.length), (∀ j, (h : j < k) → fitsE e f (l[j]'(by omega)) = 0) → fitsE e f l[k] ≠ 0 → askL e f l = fitsE e f l[k]
 | a :: l, 0, hk, h, hn => if_pos hn
 | a :: l, k + 1, hk, h, hn => by
   have h0 : fitsE e f a = 0 := h 0 (by omega)
   show (if fitsE e f a ≠ 0 then fitsE e f a else askL e f l) = _
   rw [if_neg (by simp [h0])]
   exact askL_at (l := l) (k := k) (by simp at hk; omega) (fun j hj => h (j + 1) (by omega)) hn
theorem askL_ok {e f : Int} : ∀ {l : List Nat}, (∀ j, (h : j < l.length) → fitsE e f l[j] = 0) → askL e f l = 0
 | [], _ => rfl
 | a :: l, h => by
   have h0 : fitsE e f a = 0 := h 0 (by simp)
   show (if fitsE e f a ≠ 0 then fitsE e f a else askL e f l) = _
   rw [if_neg (by simp [h0])]
   exact askL_ok fun j hj => h (j + 1) (by simp; omega)
theorem askL_two (e f : Int) (a b : Nat) : askL e f [a, b] = twoE e f a b := by
 unfold twoE
 show (if fitsE e f a ≠ 0 then fitsE e f a else if fitsE e f b ≠ 0 then fitsE e f b else 0) = _
 split
 · rfl
 · by_cases h : fitsE e f b = 0
   · rw [if_neg (by simp [h]), h]
   · rw [if_pos h]
theorem cell_same (w : World) (a : Addr) (v : Value) (h : (w.cell? a).isSome = true) : (w.setCell a v).cell? a = some v := by
 obtain ⟨u, hu⟩ := Option.isSome_iff_exists.1 h
 exact World.cell?_setCell_same _ _ _ hu
def infB (e f b : Nat) : Bool := decide (exN e f b = maskN e ∧ frN f b = 0)
def mgN (e f b : Nat) : Nat := b % pw (e + f)
theorem pw_one_more (e f : Nat) : pw (1 + e + f) = 2 * pw (e + f) := by
 unfold pw
 rw [show 1 + e + f = e + f + 1 by omega, Nat.pow_succ]
 omega
theorem sg_iff {e f b : Nat} (hb : b < pw (1 + e + f)) : sgB e f b = decide (pw (e + f) ≤ b) := by
 rw [pw_one_more] at hb
 unfold sgB takeN
 rw [show f + e = e + f by omega, show pw 1 = 2 by unfold pw; rfl]
 have hp := pw_pos (e + f)
 by_cases h : pw (e + f) ≤ b
 · have hd : b / pw (e + f) = 1 := Nat.div_eq_of_lt_le (by omega) (by omega)
   rw [hd, decide_eq_true h]
   rfl
 · have hd : b / pw (e + f) = 0 := Nat.div_eq_of_lt (by omega)
   rw [hd, decide_eq_false h]
   rfl
theorem mg_lt (e f b : Nat) : mgN e f b < pw (e + f) := Nat.mod_lt _ (pw_pos _)
theorem mg_eq {e f b : Nat} (hb : b < pw (1 + e + f)) : b = mgN e f b + if sgB e f b = true then pw (e + f) else 0 := by
 rw [sg_iff hb]
 rw [pw_one_more] at hb
 unfold mgN
 by_cases h : pw (e + f) ≤ b
 · rw [if_pos (decide_eq_true h), Nat.mod_eq_sub_mod h, Nat.mod_eq_of_lt (by omega)]
   omega
 · rw [if_neg (by simp [h]), Nat.mod_eq_of_lt (by omega)]
   rfl
theorem u64_andNot_top {k b : Nat} (hk : k ≤ 63) (hb : b < 2 * pw k) : bits BinOp.andNot IntKind.u64 (b : Int) (pw k : Int) = ((b % pw k : Nat) : Int) := by
 have hp := pw_le hk
 rw [show pw 63 = 9223372036854775808 by unfold pw; rfl] at hp
 have hpos := pw_pos k
 have hx : BitVec.ofInt 64 (b : Int) &&& ~~~BitVec.ofInt 64 (pw k : Int) = BitVec.ofNat 64 (b % pw k) := by
  rw [BitVec.ofInt_natCast, BitVec.ofInt_natCast]
  apply BitVec.eq_of_getLsbD_eq
  intro i hi
  rw [BitVec.getLsbD_and, BitVec.getLsbD_not, BitVec.getLsbD_ofNat, BitVec.getLsbD_ofNat, BitVec.getLsbD_ofNat]
  unfold pw
  rw [Nat.testBit_mod_two_pow, Nat.testBit_two_pow]
  have hi' : i < 64 := hi
  by_cases h1 : i < k
  · simp [hi', h1, Nat.ne_of_gt h1]
  · by_cases h2 : i = k
    · subst h2
      simp
    · have h3 : b.testBit i = false := by
       refine Nat.testBit_lt_two_pow (Nat.lt_of_lt_of_le hb ?_)
       unfold pw
       rw [show 2 * 2 ^ k = 2 ^ (k + 1) by rw [Nat.pow_succ]; omega]
       exact Nat.pow_le_pow_right (by decide) (by omega)
      simp [h3]
 have hl : b % pw k < pw k := Nat.mod_lt _ hpos
 show IntKind.u64.wrap ((BitVec.ofInt 64 (b : Int) &&& ~~~BitVec.ofInt 64 (pw k : Int)).toNat : Int) = _
 rw [hx, BitVec.toNat_ofNat, Nat.mod_eq_of_lt (by omega), IntKind.wrap_u64]
 omega
theorem u64_or_top {k n : Nat} (hk : k ≤ 63) (hn : n < pw k) : bits BinOp.or IntKind.u64 (pw k : Int) (n : Int) = ((pw k + n : Nat) : Int) := by
 have hp := pw_le hk
 rw [show pw 63 = 9223372036854775808 by unfold pw; rfl] at hp
 have h1 : (BitVec.ofInt 64 (pw k : Int)).toNat = pw k := by
  rw [BitVec.ofInt_natCast, BitVec.toNat_ofNat]; exact Nat.mod_eq_of_lt (by omega)
 have h2 : (BitVec.ofInt 64 (n : Int)).toNat = n := by
  rw [BitVec.ofInt_natCast, BitVec.toNat_ofNat]; exact Nat.mod_eq_of_lt (by omega)
 show IntKind.u64.wrap ((BitVec.ofInt 64 (pw k : Int) ||| BitVec.ofInt 64 (n : Int)).toNat : Int) = _
 have ho : pw k ||| n = pw k + n := by
  unfold pw at hn ⊢
  have := Nat.two_pow_add_eq_or_of_lt (i := k) (b := n) hn 1
  rw [Nat.mul_one] at this
  exact this.symm
 rw [BitVec.toNat_or, h1, h2, ho, IntKind.wrap_u64]
 omega
def plN (e f b : Nat) : Nat := if sgB e f b = true then (18446744073709551616 - mgN e f b) % 18446744073709551616 else b
theorem pl_pos {e f b : Nat} (h : sgB e f b = false) : plN e f b = b := by unfold plN; rw [if_neg (by simp [h])]
theorem pl_neg {e f b : Nat} (h : sgB e f b = true) : plN e f b = (18446744073709551616 - mgN e f b) % 18446744073709551616 := by unfold plN; rw [if_pos h]
def atN (e f p : Nat) (neg : Bool) : Nat := if 9223372036854775808 ≤ p then pw (e + f) + (18446744073709551616 - p) else if p = 0 ∧ neg = true then pw (e + f) else p
def hiE (e f : Int) (b : Nat) : Int :=
 if fitsE e f b ≠ 0 then fitsE e f b else if nanB e.toNat f.toNat b = true then 2 else if sgB e.toNat f.toNat b = true ∧ mgN e.toNat f.toNat b ≠ 0 then 0 else if infB e.toNat f.toNat b = true then 60 else 0
def hiN (e f b : Nat) : Nat := if sgB e f b = true ∧ mgN e f b ≠ 0 then pw (e + f) + mgN e f b - 1 else mgN e f b + 1
def hiB (e f : Int) (b : Nat) : Nat := if hiE e f b = 0 then hiN e.toNat f.toNat b else 0
def flN (e f b : Nat) : Nat := if pw (e + f) ≤ b then b - pw (e + f) else b + pw (e + f)
def loE (e f : Int) (b : Nat) : Int := if fitsE e f b ≠ 0 then fitsE e f b else hiE e f (flN e.toNat f.toNat b)
def loB (e f : Int) (b : Nat) : Nat := if loE e f b = 0 then flN e.toNat f.toNat (hiB e f (flN e.toNat f.toNat b)) else 0
end Go.Proofs.YtfjgmpfpadfknaaGreatDoor
