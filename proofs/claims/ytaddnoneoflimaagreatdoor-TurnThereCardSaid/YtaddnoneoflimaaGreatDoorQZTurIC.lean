/-
  The walk of numeral/turn.Int at each width. (Printed by wip/gen/turint3.py.)
-/
import Derived.Test.YtaddnoneoflimaaGreatDoorQbTMT28
namespace Go.Proofs.YtaddnoneoflimaaGreatDoor

open Go.RowKit Go.Lb

attribute [local go_sem] Go.World.cell?_alloc_some

set_option maxRecDepth 100000 in
set_option maxHeartbeats 4000000 in
theorem turnIntB_over (wd L : Int) (k E F b m : Nat) (w : World) (hw : wd = 8 ∧ k = 7 ∧ L = 128 ∨ wd = 16 ∧ k = 15 ∧ L = 32768 ∨ wd = 32 ∧ k = 31 ∧ L = 2147483648 ∨ wd = 64 ∧ k = 63 ∧ L = 9223372036854775808) (h1 : formE (E : Int) (F : Int) = 0) (hp : b < pw (1 + E + F)) (hm : m < 5) (hxm : exN E F b ≠ maskN E) (hT : Tab w) (hok : inOk k (decide ((wrQ E F b).num < 0)) (inR E F b m) = false) :
    Calls Tryz.prog 24 #[.agg #[.int .i64 (E : Int), .int .i64 (F : Int)], .int .u64 (b : Int), .int .i64 wd, .int .u8 (m : Int)] w fun en w' => en = .returned (.tuple #[.int .i64 (inEnd k (sgB E F b)), .int .u8 16, .int .i64 0]) ∧ Below w.heap.size w w' := by
  have A := box2_new w (.int .i64 (E : Int)) (.int .i64 (F : Int)) 31
  have hW := more (Below.refl w.heap.size w) (.cells #[.int .i64 (E : Int), .int .i64 (F : Int)] 31)
  have ⟨a0, a1⟩ := A
  obtain ⟨e1, e2, e3, e4⟩ := formE_ok h1
  have hm4 : ¬ (m : Int) > 4 := by omega
  have hf := fits_bits h1 hp
  have hb : b < 18446744073709551616 := by
    have h := pw_le (j := 1 + E + F) (k := 64) (by omega)
    have h64 : pw 64 = 18446744073709551616 := by unfold pw; rfl
    omega
  have cA := fun W => turnAsked_any (E : Int) (F : Int) b W hb
  have cB := fun W => turnBelow_any E F b W (by omega) (by omega) hp
  have cC := fun W => class_any E F b W h1 hb hp
  rw [hf] at cA
  have hP : ((2 ^ k : Nat) : Int) = L := by rcases hw with ⟨_, rfl, rfl⟩ | ⟨_, rfl, rfl⟩ | ⟨_, rfl, rfl⟩ | ⟨_, rfl, rfl⟩ <;> decide +kernel
  have hL : 128 ≤ L ∧ L ≤ 9223372036854775808 := by omega
  have f1 : wrap64 9223372036854775808 = -9223372036854775808 := by decide +kernel
  have f2 : wrap64 (-9223372036854775808 - 1) = 9223372036854775807 := by decide +kernel
  have f4 : wrap64 (-9223372036854775809) = 9223372036854775807 := by decide +kernel
  obtain ⟨hC5, hC4⟩ := class_finite (f := F) (b := b) hxm
  obtain ⟨v0, n, X, s, v1, v2, v3, hd, hn, hX1, hX2, hG, hs, _⟩ := worth_facts (m := 0) (by omega) (by omega) (by omega) hf hp hxm
  obtain ⟨l1, l2⟩ := up_small hn hX1 hX2
  obtain ⟨q1, q2, q3⟩ := mk_low (upD_pos X) hG hs
  have hq : wrQ E F b = sgQ' s (upN n X) (upD X) := by unfold wrQ; rw [v1, v2, v3]
  have hR : inR E F b m = rdN (upN n X) (upD X) s m := by unfold inR; rw [hq, q1, q2, q3]
  have hs3 : decide ((wrQ E F b).num < 0) = s := by rw [hq]; exact q3
  have hx3 : exB (wrQ E F b).num.natAbs (wrQ E F b).den = exB (upN n X) (upD X) := by rw [hq, q1, q2]
  rw [hR, hs3] at hok
  have hrb := ratB_low (s := s) (N := upN n X) (D := upD X) (by omega) (by omega) (upD_pos X) hG hs
  have cV : ∀ W, Below w.heap.size w W → Calls Tryz.prog 62 #[.agg #[.int .i64 (E : Int), .int .i64 (F : Int)], .int .u64 (b : Int)] W (Valued (E : Int) (F : Int) b W) := fun W hW => value_any (E : Int) (F : Int) b W hb (hT.below hW)
  unfold Valued at cV
  rw [v0, v1, v2, v3] at cV
  have cR : ∀ W ao k c, Sl W ao k c (limbs n) → Calls Tryz.prog 125 #[.agg #[.bool s, .slice ao k c, .int .i64 X]] W (Rtn s (upN n X) (upD X) 0 W) := fun W ao k c j => by
    rw [← ratA_up hd l1 l2 W]
    exact exRatio_any s ao k c X (limbs n) W j
  have cW : ∀ W a1 n1 c1 a2 n2 c2, Below w.heap.size w W → Sl W a1 n1 c1 (limbs (upN n X)) → Sl W a2 n2 c2 (limbs (upD X)) → Calls Tryz.prog 126 #[.agg #[.bool s, .slice a1 n1 c1, .slice a2 n2 c2], .int .u8 (m : Int)] W (WhlA (upN n X) (upD X) s m W) := fun W a1 n1 c1 a2 n2 c2 hW j1 j2 => by
    have := rdWholeP_ok a1 a2 n1 n2 c1 c2 m s _ _ W j1 j2 (hT.below hW) hm hrb
    rwa [val_limbs', val_limbs'] at this
  unfold WhlA at cW
  obtain ⟨w1a, w1b⟩ := low_of (rdN (upN n X) (upD X) s m)
  have cL : ∀ W ao k c, Sl W ao k c (limbs (rdN (upN n X) (upD X) s m)) → Calls Tryz.prog 127 #[.agg #[.slice ao k c]] W _ := fun W ao k c j => natLow_any ao k c _ W j
  clear hR hs3 hx3 v0 v1 v2 v3 hd hn hX1 hX2 hG hs l1 l2 q1 q2 q3 hq hrb hT hxm
  generalize upN n X = N at *
  generalize upD X = Dd at *
  generalize rdN N Dd s m = R at *
  generalize exB N Dd = ex at *
  generalize lowB (limbs R) = lb at *
  generalize lowN (limbs R) = lo at *
  generalize limbs R = rs at *
  generalize limbs n = zs at *
  generalize sgB E F b = sg at *
  generalize classN E (exN E F b) (frN F b) = cc at *
  have hc5 : ((cc : Int) == 5) = false := by simp; omega
  have hc4 : ((cc : Int) == 4) = false := by simp; omega
  clear hC5 hC4 hf h1 hp
  have hok := of_decide_eq_false hok
  have i1 : inEnd k true = -L := by unfold inEnd; rw [if_pos rfl, hP]
  have i2 : inEnd k false = L - 1 := by unfold inEnd; rw [if_neg (by decide), hP]
  by_cases hbig : R < 18446744073709551616
  · obtain ⟨rfl, rfl⟩ := w1a hbig
    clear w1a w1b
    by_cases hgt : L < (lo : Int)
    · have hg1 : (lo : Int) > L := hgt
      generalize nzB s lo = nz at *
      cases sg
      all_goals
        first | rw [i1] | rw [i2]
        clear i1 i2
        (try clear hP)
        (try clear hL)
        rcases hw with ⟨rfl, rfl, rfl⟩ | ⟨rfl, rfl, rfl⟩ | ⟨rfl, rfl, rfl⟩ | ⟨rfl, rfl, rfl⟩
        all_goals
          go_enter Tryz.func24, Tryz.ntmps24
          go_wp2_with (first
            | (go_at_call 123; (with_reducible refine (cA _).mono ?_); rintro en w1 ⟨rfl, hb1⟩; replace hW := next hW hb1; replace A := A.stay hb1; have ⟨a0, a1⟩ := A)
            | (go_at_call 124; (with_reducible refine (cB _).mono ?_); rintro en w1 ⟨rfl, hb1⟩; replace hW := next hW hb1; replace A := A.stay hb1; have ⟨a0, a1⟩ := A)
            | (go_at_call 60; (with_reducible refine (cC _).mono ?_); rintro en w1 ⟨rfl, hb1⟩; replace hW := next hW hb1; replace A := A.stay hb1; have ⟨a0, a1⟩ := A)
            | (go_at_call 62; (with_reducible refine (cV _ hW).mono ?_); rintro en w1 ⟨ao, k0, c0, rfl, F1, hb1⟩; replace hW := more (next hW hb1) (.cells #[.bool s, .slice ao k0 c0, .int .i64 X] 90); have D := box3_new w1 (.bool s) (.slice ao k0 c0) (.int .i64 X) 90; have ⟨x0, x1, x2, _, _, _⟩ := D; have S1 := (F1.alloc (.cells #[.bool s, .slice ao k0 c0, .int .i64 X] 90)).sl)
            | (go_at_call 125; (with_reducible refine (cR _ _ _ _ S1).mono ?_); rintro en w2 ⟨a1, n1, c1, a2, n2, c2, rfl, F2, F3, _, hb2⟩; replace hW := more (next hW hb2) (.cells #[.bool s, .slice a1 n1 c1, .slice a2 n2 c2] 80); have D2 := box3_new w2 (.bool s) (.slice a1 n1 c1) (.slice a2 n2 c2) 80; have ⟨y0, y1, y2, _, _, _⟩ := D2; have S2 := (F2.alloc (.cells #[.bool s, .slice a1 n1 c1, .slice a2 n2 c2] 80)).sl; have S3 := (F3.alloc (.cells #[.bool s, .slice a1 n1 c1, .slice a2 n2 c2] 80)).sl)
            | (go_at_call 126; (with_reducible refine (cW _ _ _ _ _ _ _ hW S2 S3).mono ?_); rintro en w3 ⟨a3, n3, c3, rfl, F4, hb3⟩; replace hW := more (next hW hb3) (.cells #[.slice a3 n3 c3] 78); have D3 := box1_new w3 (.slice a3 n3 c3) 78; have z0 := D3.c0; have S4 := (F4.alloc (.cells #[.slice a3 n3 c3] 78)).sl)
            | (go_at_call 127; (with_reducible refine (cL _ _ _ _ S4).mono ?_); rintro en w4 ⟨rfl, hb4⟩; replace hW := next hW hb4))
          go_ret3
          exact ⟨rfl, hW⟩
    · have hlo : (lo : Int) = L := by
        rcases Int.lt_or_le (lo : Int) L with h | h
        · exact absurd (.inl (by omega)) hok
        · omega
      have hs : s = false := by
        cases s
        · rfl
        · exact absurd (.inr ⟨by omega, rfl⟩) hok
      have hnz : nzB s lo = false := by rw [hs]; rfl
      rw [hnz] at cW
      have hg1 : ¬ (lo : Int) > L := by omega
      have hq1 : ((lo : Int) == L) = true := by simp [hlo]
      clear hs hnz hok hlo hgt
      cases sg
      all_goals
        first | rw [i1] | rw [i2]
        clear i1 i2
        (try clear hP)
        (try clear hL)
        rcases hw with ⟨rfl, rfl, rfl⟩ | ⟨rfl, rfl, rfl⟩ | ⟨rfl, rfl, rfl⟩ | ⟨rfl, rfl, rfl⟩
        all_goals
          go_enter Tryz.func24, Tryz.ntmps24
          go_wp2_with (first
            | (go_at_call 123; (with_reducible refine (cA _).mono ?_); rintro en w1 ⟨rfl, hb1⟩; replace hW := next hW hb1; replace A := A.stay hb1; have ⟨a0, a1⟩ := A)
            | (go_at_call 124; (with_reducible refine (cB _).mono ?_); rintro en w1 ⟨rfl, hb1⟩; replace hW := next hW hb1; replace A := A.stay hb1; have ⟨a0, a1⟩ := A)
            | (go_at_call 60; (with_reducible refine (cC _).mono ?_); rintro en w1 ⟨rfl, hb1⟩; replace hW := next hW hb1; replace A := A.stay hb1; have ⟨a0, a1⟩ := A)
            | (go_at_call 62; (with_reducible refine (cV _ hW).mono ?_); rintro en w1 ⟨ao, k0, c0, rfl, F1, hb1⟩; replace hW := more (next hW hb1) (.cells #[.bool s, .slice ao k0 c0, .int .i64 X] 90); have D := box3_new w1 (.bool s) (.slice ao k0 c0) (.int .i64 X) 90; have ⟨x0, x1, x2, _, _, _⟩ := D; have S1 := (F1.alloc (.cells #[.bool s, .slice ao k0 c0, .int .i64 X] 90)).sl)
            | (go_at_call 125; (with_reducible refine (cR _ _ _ _ S1).mono ?_); rintro en w2 ⟨a1, n1, c1, a2, n2, c2, rfl, F2, F3, _, hb2⟩; replace hW := more (next hW hb2) (.cells #[.bool s, .slice a1 n1 c1, .slice a2 n2 c2] 80); have D2 := box3_new w2 (.bool s) (.slice a1 n1 c1) (.slice a2 n2 c2) 80; have ⟨y0, y1, y2, _, _, _⟩ := D2; have S2 := (F2.alloc (.cells #[.bool s, .slice a1 n1 c1, .slice a2 n2 c2] 80)).sl; have S3 := (F3.alloc (.cells #[.bool s, .slice a1 n1 c1, .slice a2 n2 c2] 80)).sl)
            | (go_at_call 126; (with_reducible refine (cW _ _ _ _ _ _ _ hW S2 S3).mono ?_); rintro en w3 ⟨a3, n3, c3, rfl, F4, hb3⟩; replace hW := more (next hW hb3) (.cells #[.slice a3 n3 c3] 78); have D3 := box1_new w3 (.slice a3 n3 c3) 78; have z0 := D3.c0; have S4 := (F4.alloc (.cells #[.slice a3 n3 c3] 78)).sl)
            | (go_at_call 127; (with_reducible refine (cL _ _ _ _ S4).mono ?_); rintro en w4 ⟨rfl, hb4⟩; replace hW := next hW hb4))
          go_ret3
          exact ⟨rfl, hW⟩
  · obtain ⟨rfl, rfl⟩ := w1b hbig
    clear w1a w1b hok hbig
    generalize nzB s R = nz at *
    cases sg
    all_goals
      first | rw [i1] | rw [i2]
      clear i1 i2
      (try clear hP)
      (try clear hL)
      rcases hw with ⟨rfl, rfl, rfl⟩ | ⟨rfl, rfl, rfl⟩ | ⟨rfl, rfl, rfl⟩ | ⟨rfl, rfl, rfl⟩
      all_goals try exact absurd hlo (by decide)
      all_goals
        go_enter Tryz.func24, Tryz.ntmps24
        go_wp2_with (first
          | (go_at_call 123; (with_reducible refine (cA _).mono ?_); rintro en w1 ⟨rfl, hb1⟩; replace hW := next hW hb1; replace A := A.stay hb1; have ⟨a0, a1⟩ := A)
          | (go_at_call 124; (with_reducible refine (cB _).mono ?_); rintro en w1 ⟨rfl, hb1⟩; replace hW := next hW hb1; replace A := A.stay hb1; have ⟨a0, a1⟩ := A)
          | (go_at_call 60; (with_reducible refine (cC _).mono ?_); rintro en w1 ⟨rfl, hb1⟩; replace hW := next hW hb1; replace A := A.stay hb1; have ⟨a0, a1⟩ := A)
          | (go_at_call 62; (with_reducible refine (cV _ hW).mono ?_); rintro en w1 ⟨ao, k0, c0, rfl, F1, hb1⟩; replace hW := more (next hW hb1) (.cells #[.bool s, .slice ao k0 c0, .int .i64 X] 90); have D := box3_new w1 (.bool s) (.slice ao k0 c0) (.int .i64 X) 90; have ⟨x0, x1, x2, _, _, _⟩ := D; have S1 := (F1.alloc (.cells #[.bool s, .slice ao k0 c0, .int .i64 X] 90)).sl)
          | (go_at_call 125; (with_reducible refine (cR _ _ _ _ S1).mono ?_); rintro en w2 ⟨a1, n1, c1, a2, n2, c2, rfl, F2, F3, _, hb2⟩; replace hW := more (next hW hb2) (.cells #[.bool s, .slice a1 n1 c1, .slice a2 n2 c2] 80); have D2 := box3_new w2 (.bool s) (.slice a1 n1 c1) (.slice a2 n2 c2) 80; have ⟨y0, y1, y2, _, _, _⟩ := D2; have S2 := (F2.alloc (.cells #[.bool s, .slice a1 n1 c1, .slice a2 n2 c2] 80)).sl; have S3 := (F3.alloc (.cells #[.bool s, .slice a1 n1 c1, .slice a2 n2 c2] 80)).sl)
          | (go_at_call 126; (with_reducible refine (cW _ _ _ _ _ _ _ hW S2 S3).mono ?_); rintro en w3 ⟨a3, n3, c3, rfl, F4, hb3⟩; replace hW := more (next hW hb3) (.cells #[.slice a3 n3 c3] 78); have D3 := box1_new w3 (.slice a3 n3 c3) 78; have z0 := D3.c0; have S4 := (F4.alloc (.cells #[.slice a3 n3 c3] 78)).sl)
          | (go_at_call 127; (with_reducible refine (cL _ _ _ _ S4).mono ?_); rintro en w4 ⟨rfl, hb4⟩; replace hW := next hW hb4))
        go_ret3
        exact ⟨rfl, hW⟩

end Go.Proofs.YtaddnoneoflimaaGreatDoor

