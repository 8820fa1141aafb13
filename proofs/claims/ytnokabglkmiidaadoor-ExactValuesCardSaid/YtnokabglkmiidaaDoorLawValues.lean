/-
  The walk of the law ExactValues: it answers true, whatever it is asked; nothing that was there has turned.
-/
import Derived.Test.YtnokabglkmiidaaDoorBook
import Derived.Test.YtnokabglkmiidaaDoorVal2
import Derived.Test.YtnokabglkmiidaaDoorRefVal
namespace Go.Proofs.YtnokabglkmiidaaDoor
open Go.RowKit Go.Lb

theorem refValue_any (e f : Int) (b : Nat) (w : World) (hb : b < 18446744073709551616) :
    Calls Tryd.prog 13 #[.agg #[.int .i64 e, .int .i64 f], .int .u64 b] w (Valued e f b w) := by
  by_cases hF : fitsE e f b = 0
  · have h : formE e f = 0 := by
      apply Classical.byContradiction
      intro hn
      rw [fitsE_form hn] at hF
      exact hn hF
    obtain ⟨h1, h2, h3, h4⟩ := formE_ok h
    obtain ⟨e, rfl⟩ := Int.eq_ofNat_of_zero_le (by omega : 0 ≤ e)
    obtain ⟨f, rfl⟩ := Int.eq_ofNat_of_zero_le (by omega : 0 ≤ f)
    have hp : b < pw (1 + e + f) := by
      apply Classical.byContradiction
      intro hn
      rw [fitsE_bits h hn] at hF
      cases hF
    by_cases hxm : exN e f b = maskN e
    · exact refValue_endless e f b w h hb hp hxm
    · by_cases hx0 : exN e f b = 0
      · exact refValue_sub e f b w h hb hp hx0 hxm
      · exact refValue_normal e f b w h hb hp hx0 hxm
  · exact refValue_no e f b w hF hb

theorem valN_small (e f : Int) (b : Nat) : (limbs (valN e f b)).length ≤ 2 := by
  refine limbs_length_le ?_
  show valN e f b < 18446744073709551616
  unfold valN
  by_cases ho : valOk e f b = true
  · rw [if_pos ho]
    have hF : fitsE e f b = 0 := (of_decide_eq_true ho).1
    have h : formE e f = 0 := by
      apply Classical.byContradiction
      intro hn
      rw [fitsE_form hn] at hF
      exact hn hF
    obtain ⟨h1, h2, h3, h4⟩ := formE_ok h
    have hv := vN_lt (e := e.toNat) (f := f.toNat) (b := b) (by omega)
    unfold mkN
    split
    · rw [val_limbs']
      have := Nat.div_le_self (vN e.toNat f.toNat b) (2 ^ tz (vN e.toNat f.toNat b))
      omega
    · omega
  · rw [if_neg ho]
    decide

set_option maxRecDepth 100000 in
set_option maxHeartbeats 4000000 in
theorem values_any (ef ff : Int) (b : Nat) (w : World) (hb : b < 18446744073709551616) (hT : Tab w) :
    Calls Tryd.prog 4 #[.agg #[.int .i64 ef, .int .i64 ff], .int .u64 b] w fun en w' => en = .returned (.bool true) ∧ Below w.heap.size w w' := by
  have hsmN := valN_small ef ff b
  obtain ⟨S, hS⟩ : ∃ S, S = valS ef ff b := ⟨_, rfl⟩
  obtain ⟨X, hX⟩ : ∃ X, X = valX ef ff b := ⟨_, rfl⟩
  obtain ⟨E, hE⟩ : ∃ E, E = valE ef ff b := ⟨_, rfl⟩
  obtain ⟨N, hN⟩ : ∃ N, N = valN ef ff b := ⟨_, rfl⟩
  have ref := refValue_any ef ff b
  have exv := value_any ef ff b
  unfold Valued at ref exv
  rw [← hS, ← hX, ← hE, ← hN] at ref exv
  rw [← hN] at hsmN
  clear hS hX hE hN
  go_enter Tryd.func4, Tryd.ntmps4
  go_wp2_with fail
  refine (ref _ hb).mono ?_
  rintro e w1 ⟨aw, nw, cw, rfl, hFw, hb1⟩
  have hW1 := next (more (Below.refl _ _) _) hb1
  have A := (box2_new w (.int .i64 ef) (.int .i64 ff) 40).stay hb1
  have ⟨a10, a11⟩ := A
  have la := A.lt
  go_wp2_with fail
  have hWV := more hW1 (.cells #[.bool S, .slice aw nw cw, .int .i64 X] 26)
  have aV := A.alloc (.cells #[.bool S, .slice aw nw cw, .int .i64 X] 26)
  have qV := box3_new w1 (.bool S) (.slice aw nw cw) (.int .i64 X) 26
  have fV := hFw.alloc (.cells #[.bool S, .slice aw nw cw, .int .i64 X] 26)
  have eV : (w1.alloc (.cells #[.bool S, .slice aw nw cw, .int .i64 X] 26)).heap.size = w1.heap.size + 1 := World.size_alloc _ _
  generalize w1.alloc (.cells #[.bool S, .slice aw nw cw, .int .i64 X] 26) = V at hWV aV qV fV eV ⊢
  obtain ⟨pm, hpm⟩ : ∃ pm, pm = w1.heap.size := ⟨_, rfl⟩
  rw [← hpm] at eV qV
  rw [← hpm]
  clear hpm hFw A a10 a11 hb1
  have bk0 := book_new V 34 hWV.size
  refine (exv _ hb ((hT.below hWV).alloc _)).mono ?_
  rintro e w3 ⟨ad, nd, cd, rfl, hFd, hb3⟩
  have hV3 := next (more (Below.refl _ V) _) hb3
  have bk1 := bk0.below hb3
  have ⟨a30, a31⟩ := aV.stay hV3
  have ⟨q30, q31, q32, _, _, _⟩ := qV.stay hV3
  have l1 := (aV.stay hV3).lt
  have l2 := (qV.stay hV3).lt
  obtain rfl : nd = nw := by rw [← hFd.sl.len, ← fV.sl.len]
  go_wp2_with fail
  have hmk : (limbs N).length + 41 ≤ 35184372088832 := by omega
  rw [hFd.sl.len] at hmk
  rw [eV] at bk1 bk0
  have fV0 : Fr 55 V 0 aw nd cw (limbs N) := fV.mono (Nat.zero_le _)
  have bkd := bk1.below ((Below.refl _ _).alloc (Nat.le_refl _) (.cells #[.bool S, .slice ad nd cd, .int .i64 X] 26))
  refine (book_dyadic _ w.heap.size (pm + 1) [] _ _ bkd S X E ad aw nd cd cw (limbs N) ((hFd.alloc _).mono ?_) ((fV0.below hV3).alloc _) (fun g hg => bk0.clear (fr_lt hFd hg).1) (fun g hg => bk0.clear_low (by have := (fr_lt fV hg).2; omega)) (fun y hy => by cases hy) hmk (by simp)).mono ?_
  · simp; have := hWV.size; omega
  rintro e w4 ⟨rfl, ⟨vg1, vw1, bk2⟩, hB4⟩
  have hV4 : Below V.heap.size V w4 := (more hV3 _).trans (by rw [eV]; exact hB4)
  clear bkd
  have ⟨a40, a41⟩ := aV.stay hV4
  have ⟨q40, q41, q42, _, _, _⟩ := qV.stay hV4
  go_wp2_with fail
  refine (exv _ hb ((hT.below hWV).below hV4)).mono ?_
  rintro e w5 ⟨ac, nc, cc, rfl, hFc, hb5⟩
  have hV5 := next hV4 hb5
  have bk3 := bk2.below hb5
  have ⟨a50, a51⟩ := aV.stay hV5
  have ⟨q50, q51, q52, _, _, _⟩ := qV.stay hV5
  have l51 := (aV.stay hV5).lt
  have l52 := (qV.stay hV5).lt
  obtain rfl : nc = nd := by rw [← hFc.sl.len, ← fV.sl.len]
  go_wp2_with fail
  have bke := bk3.below ((Below.refl _ _).alloc (Nat.le_refl _) (.cells #[.bool S, .slice ac nc cc, .int .i64 X] 26))
  refine (book_dyadic _ w.heap.size (pm + 1) _ _ _ bke S X E ac aw nc cc cw (limbs N) ((hFc.alloc _).mono ?_) ((fV0.below hV5).alloc _) (fun g hg => bk2.clear (fr_lt hFc hg).1) (fun g hg => bk2.clear_low (by have := (fr_lt fV hg).2; omega)) (fun y hy g hg e => ?_) hmk (by simp)).mono ?_
  · have := hV4.size; have := hWV.size; omega
  · have h1 := (fr_lt (bk2.got y hy) hg).2
    have h2 := (fr_lt hFc e).1
    omega
  rintro e w6 ⟨rfl, ⟨vg2, vw2, bk4⟩, hB6⟩
  have hV6 : Below V.heap.size V w6 := (more hV5 _).trans (by rw [eV]; exact hB6)
  clear bke
  have ⟨a60, a61⟩ := aV.stay hV6
  go_wp2_with fail
  refine (stands_book _ w.heap.size (pm + 1) _ [] _ _ none 0 bk4 (by simp) (.inl ⟨rfl, rfl, rfl⟩) (fun y hy => by cases hy) (fun y hy => by cases hy) ?_ (fun y hy => by cases hy) (by simp)).mono ?_
  · rw [List.append_nil]
    exact List.pairwise_map.2 bk4.apart
  rintro e w8 ⟨rfl, hb8⟩
  go_wp2
  go_ret
  exact ⟨rfl, (next hWV hV6).trans hb8⟩

end Go.Proofs.YtnokabglkmiidaaDoor
