/-
  The law numerallaw06.NearRow answers true, whatever it is asked, in whatever memory; what it is asked reads behind the call as it read before. One condition: the table math/bits.deBruijn32tab reads as it was laid.
-/
import Derived.Test.YtfjgmpfpadfknaaGreatDoorQNbBase
import Derived.Test.YtfjgmpfpadfknaaGreatDoorQRNearMd
namespace Go.Proofs.YtfjgmpfpadfknaaGreatDoor

open Go.RowKit Go.Lb

attribute [local go_sem] Go.World.cell?_alloc_some

theorem mi_len (e f : Int) (a b : Nat) : (limbs (miD e f a b).N).length ≤ 16384 := by
  unfold miD
  by_cases h0 : fnE e f [a, b] = 0
  · rw [if_pos h0]
    obtain ⟨E, F, rfl, rfl, hf, l1, l2, _, xa, xb⟩ := fn_two h0
    obtain ⟨d1, g1⟩ := val_bd hf l1 xa
    obtain ⟨d2, g2⟩ := val_bd hf l2 xb
    obtain ⟨b1, b2, b3, b4⟩ := base_small hf
    obtain ⟨_, _, _, _, d, _⟩ := me_bd (p := valD (E : Int) (F : Int) a) (q := valD (E : Int) (F : Int) b) d1 d2 g1 g2 (by omega) (by omega) (by omega)
    exact d.len
  · rw [if_neg h0]
    show (limbs 0).length ≤ 16384
    decide +kernel

set_option maxRecDepth 100000 in
set_option maxHeartbeats 8000000 in
theorem rowLaw_any (e f : Int) (a b : Nat) (w : World) (ha : a < 18446744073709551616) (hb : b < 18446744073709551616) (hT : Tab w) :
    Calls Tryz.prog 7 #[.agg #[.int .i64 e, .int .i64 f], .int .u64 (a : Int), .int .u64 (b : Int)] w fun en w' => en = .returned (.bool true) ∧ Below w.heap.size w w' := by
  obtain ⟨W1, hW1⟩ : ∃ W1 : World, W1 = w.alloc (.cells #[.int .i64 e, .int .i64 f] 23) := ⟨_, rfl⟩
  have V : Below w.heap.size w W1 := hW1 ▸ more (Below.refl _ _) _
  have F0 : Box2 W1 w.heap.size (.int .i64 e) (.int .i64 f) := hW1 ▸ box2_new w _ _ _
  have lT := hT.lt
  have cA := awake6_any W1 (hT.below V)
  go_enter Tryz.func7, Tryz.ntmps7
  go_upto_region 1 with fail
  rw [← hW1]
  clear hW1
  go_wp2_with fail
  refine cA.mono ?_
  rintro en w2 ⟨rfl, hb2⟩
  replace V := next V hb2
  replace F0 := F0.stay hb2
  clear cA hb2
  go_wp2
  go_loopw [1, 2, 8] (fun va vb vi wr => ∃ k x y : Nat, k ≤ 2 ∧ vi = .int .i64 (k : Int) ∧ va = .int .u64 (x : Int) ∧ vb = .int .u64 (y : Int) ∧ x < 18446744073709551616 ∧ y < 18446744073709551616 ∧ Below w.heap.size w wr ∧ Box2 wr w.heap.size (.int .i64 e) (.int .i64 f)) (fun _ _ vi _ => 2 - (intOf vi).toNat)
  case atStart => exact ⟨0, a, b, by omega, rfl, rfl, rfl, ha, hb, V, F0⟩
  case round =>
    obtain ⟨k, x, y, hk, rfl, rfl, rfl, hx, hy, VR, FR⟩ := hrel
    clear V F0
    by_cases hk2 : k < 2
    · have i1 : (k : Int) < 2 := by omega
      have c1 := fun W => nearCmp_any e f x y W hx hy
      have c2 := fun W => rcmp6_any e f x y W hx hy
      have c3 := fun W => nearOrder_any e f x y W hx hy
      have c4 := fun W => rorder6_any e f x y W hx hy
      have c5 := fun W => nearSteps_any e f x y W hx hy
      have c6 := fun W => rsteps6_any e f x y W hx hy
      have cL := fun W hT => nearMid_any e f x y W hx hy hT
      have cM := fun W => rmid6_any e f x y W hx hy
      have hl := mi_len e f x y
      unfold Dyn at cL cM
      generalize (miD e f x y).s = us at *
      generalize (miD e f x y).N = uN at *
      generalize (miD e f x y).x = ux at *
      generalize (miD e f x y).e = ue at *
      generalize cmV e f x y = g1 at *
      generalize decide (stE e f x y = 0) = g2 at *
      generalize twoE e f x y = g3 at *
      generalize orV e f x y = g4 at *
      generalize stB e f x y = g5 at *
      generalize stN e f x y = g6 at *
      generalize stE e f x y = g7 at *
      have ⟨f0, f1⟩ := FR
      go_upto_region 13 with (first
        | (go_at_call 27; (with_reducible refine (c1 _).mono ?_); rintro en w3 ⟨rfl, hb3⟩; replace VR := next VR hb3; replace FR := FR.stay hb3; have ⟨f0, f1⟩ := FR)
        | (go_at_call 29; (with_reducible refine (c2 _).mono ?_); rintro en w3 ⟨rfl, hb3⟩; replace VR := next VR hb3; replace FR := FR.stay hb3; have ⟨f0, f1⟩ := FR)
        | (go_at_call 28; (with_reducible refine (c3 _).mono ?_); rintro en w3 ⟨rfl, hb3⟩; replace VR := next VR hb3; replace FR := FR.stay hb3; have ⟨f0, f1⟩ := FR)
        | (go_at_call 30; (with_reducible refine (c4 _).mono ?_); rintro en w3 ⟨rfl, hb3⟩; replace VR := next VR hb3; replace FR := FR.stay hb3; have ⟨f0, f1⟩ := FR)
        | (go_at_call 26; (with_reducible refine (c5 _).mono ?_); rintro en w3 ⟨rfl, hb3⟩; replace VR := next VR hb3; replace FR := FR.stay hb3; have ⟨f0, f1⟩ := FR)
        | (go_at_call 31; (with_reducible refine (c6 _).mono ?_); rintro en w6 ⟨rfl, hb3⟩; replace VR := next VR hb3; replace FR := FR.stay hb3; have ⟨f0, f1⟩ := FR))
      clear c1 c2 c3 c4 c5 c6
      go_wp2_with fail
      refine (cL w6 (hT.below VR)).mono ?_
      rintro en w7 ⟨ca, cn, cc, rfl, cF, hb7⟩
      have s7 := more hb7 (.cells #[.bool us, .slice ca cn cc, .int .i64 ux] 41)
      have C8 := box3_new w7 (.bool us) (.slice ca cn cc) (.int .i64 ux) 41
      have cG := cF.alloc (.cells #[.bool us, .slice ca cn cc, .int .i64 ux] 41)
      have V8 := next VR s7
      have F8 := FR.stay s7
      have lF := FR.lt
      have l6 := VR.size
      go_upto_region 14 with fail
      obtain ⟨Cb, hCb⟩ : ∃ q, q = w7.heap.size := ⟨_, rfl⟩
      rw [← hCb] at C8 ⊢
      have lC : w6.heap.size ≤ Cb := by have := hb7.size; omega
      clear hCb FR VR hb7 s7 cF f0 f1
      generalize w7.alloc (.cells #[.bool us, .slice ca cn cc, .int .i64 ux] 41) = w8 at *
      have ⟨f0, f1⟩ := F8
      go_wp2_with fail
      refine (cM w8).mono ?_
      rintro en w9 ⟨da, dn, dc, rfl, dF, hb9⟩
      have s9 := more hb9 (.cells #[.bool us, .slice da dn dc, .int .i64 ux] 41)
      have D9 := box3_new w9 (.bool us) (.slice da dn dc) (.int .i64 ux) 41
      have dG := dF.alloc (.cells #[.bool us, .slice da dn dc, .int .i64 ux] 41)
      have C9 := C8.stay s9
      have cK := cG.below s9
      have V9 := next V8 s9
      have F9 := F8.stay s9
      have hca : ∀ g, blkOf ca = some g → w6.heap.size ≤ g ∧ g < w8.heap.size := fun g hg => fr_in cG hg
      go_upto_region 15 with fail
      obtain ⟨Db, hDb⟩ : ∃ q, q = w9.heap.size := ⟨_, rfl⟩
      rw [← hDb] at D9 ⊢
      have lD : w8.heap.size ≤ Db := by have := hb9.size; omega
      clear hDb F8 V8 C8 cG cM hb9 s9 dF f0 f1
      generalize w9.alloc (.cells #[.bool us, .slice da dn dc, .int .i64 ux] 41) = wA at *
      have ⟨c0, c1, c2, _, _, _⟩ := C9
      have ⟨d0, d1, d2, _, _, _⟩ := D9
      go_wp2_with fail
      refine (sameDy06_any us ca da cn dn cc dc ux _ wA cK.sl dG.sl).mono ?_
      rintro en wB ⟨rfl, hbB⟩
      have CB := C9.stay hbB
      have DB := D9.stay hbB
      have cB := cK.below hbB
      have dB := dG.below hbB
      have VB := next V9 hbB
      have FB := F9.stay hbB
      have lB := VB.size
      clear C9 D9 cK dG V9 F9 hbB c0 c1 c2 d0 d1 d2
      have ⟨c0, c1, c2, _, _, _⟩ := CB
      go_wp2_with fail
      refine (spoil6_any w.heap.size ca cn cc wB cB.room lB (fun g hg => by have := (hca g hg).1; omega) (by rw [cB.sl.len] at *; omega)).mono ?_
      rintro en wC ⟨rfl, md⟩
      have nF : blkOf ca ≠ some w.heap.size := fun h => by have := (hca _ h).1; omega
      have nD : blkOf ca ≠ some Db := fun h => by have := (hca _ h).2; omega
      have ndc : ∀ g, blkOf da = some g → blkOf ca ≠ some g := fun g hg h => by have h1 := (fr_in dB hg).1; have h2 := (hca _ h).2; omega
      have FC : Box2 wC w.heap.size (.int .i64 e) (.int .i64 f) := ⟨md.cell FB.c0 nF, md.cell FB.c1 nF⟩
      have DC := md.box3 DB nD
      have dC := md.fr dB ndc
      have VC := VB.trans md.bel
      clear c0 c1 c2 CB DB cB dB VB FB md
      have ⟨f0, f1⟩ := FC
      go_wp2_with fail
      refine (cL wC (hT.below VC)).mono ?_
      rintro en wD ⟨ea, en1, ec, rfl, eF, hbD⟩
      have sD := more hbD (.cells #[.bool us, .slice ea en1 ec, .int .i64 ux] 41)
      have E9 := box3_new wD (.bool us) (.slice ea en1 ec) (.int .i64 ux) 41
      have eG := eF.alloc (.cells #[.bool us, .slice ea en1 ec, .int .i64 ux] 41)
      have DD := DC.stay sD
      have dD := dC.below sD
      have VD := next VC sD
      have FD := FC.stay sD
      go_upto_region 19 with fail
      obtain ⟨Eb, hEb⟩ : ∃ q, q = wD.heap.size := ⟨_, rfl⟩
      rw [← hEb] at E9 ⊢
      clear hEb DC dC VC FC sD eF hbD f0 f1
      generalize wD.alloc (.cells #[.bool us, .slice ea en1 ec, .int .i64 ux] 41) = wE at *
      have ⟨e0, e1, e2, _, _, _⟩ := E9
      have ⟨d0, d1, d2, _, _, _⟩ := DD
      go_wp2_with fail
      refine (sameDy06_any us ea da en1 dn ec dc ux _ wE eG.sl dD.sl).mono ?_
      rintro en wF ⟨rfl, hbF⟩
      have VF := next VD hbF
      have FF := FD.stay hbF
      clear e0 e1 e2 d0 d1 d2
      go_wp2
      exact ⟨⟨k + 1, y, x, by omega, by go_num, rfl, rfl, hy, hx, VF, FF⟩, by simp [intOf]; omega⟩
    · obtain rfl : k = 2 := by omega
      go_wp2
      go_ret
      exact ⟨by simp, VR⟩

end Go.Proofs.YtfjgmpfpadfknaaGreatDoor

