/-
  The law numerallaw06.NearBeside answers true, whatever it is asked, in whatever memory; what it is asked reads behind the call as it read before. One condition: the table math/bits.deBruijn32tab reads as it was laid.
-/
import Derived.Test.YtfjgmpfpadfknaaGreatDoorQNbBase
set_option maxHeartbeats 4000000
set_option maxRecDepth 100000
namespace Go.Proofs.YtfjgmpfpadfknaaGreatDoor
open Go.RowKit Go.Lb
attribute [local go_sem] Go.World.cell?_alloc_some
theorem ul_len (e f : Int) (b : Nat) : (limbs (ulD e f b).N).length ≤ 1 := by
 unfold ulD
 split
 · show (limbs 1).length ≤ 1
   decide +kernel
 · show (limbs 0).length ≤ 1
   decide +kernel
theorem nearBeside_any (e f : Int) (b : Nat) (w : World) (hb : b < 18446744073709551616) (hT : Tab w) :
 Calls Tryz.prog 4 #[.agg #[.int .i64 e, .int .i64 f], .int .u64 (b : Int)] w fun en w' => en = .returned (.bool true) ∧ Below w.heap.size w w' := by
 obtain ⟨W1, hW1⟩ : ∃ W1 : World, W1 = w.alloc (.cells #[.int .i64 e, .int .i64 f] 23) := ⟨_, rfl⟩
 have V : Below w.heap.size w W1 := hW1 ▸ more (Below.refl _ _) _
 have F : Box2 W1 w.heap.size (.int .i64 e) (.int .i64 f) := hW1 ▸ box2_new w _ _ _
 have lT := hT.lt
 have hT1 := hT.below V
 have cA := awake6_any W1 hT1
 have cU := fun W => nearUp_any e f b W hb
 have cH := fun W => higher6_any e f b W hb
 have cD := fun W => nearDown_any e f b W hb
 have cO := fun W => lower6_any e f b W hb
 have cL := fun W hT => nearUlp_any e f b W hb hT
 have cM := fun W => ulp6_any e f b W hb
 have hl := ul_len e f b
 unfold Dyn at cL cM
 generalize (ulD e f b).s = us at *
 generalize (ulD e f b).N = uN at *
 generalize (ulD e f b).x = ux at *
 generalize (ulD e f b).e = ue at *
 generalize hiB e f b = h1 at *
 generalize hiE e f b = h2 at *
 generalize loB e f b = h3 at *
 generalize loE e f b = h4 at *
 go_enter Tryz.func4, Tryz.ntmps4
 go_upto_region 1 with fail
 rw [← hW1]
 clear hW1
 go_wp2_with fail
 refine cA.mono ?_
 rintro en w2 ⟨rfl, hb2⟩
 replace V := next V hb2
 replace F := F.stay hb2
 have ⟨f0, f1⟩ := F
 clear cA hb2 hT1
 go_upto_region 8 with (first
  | (go_at_call 16; (with_reducible refine (cU _).mono ?_); rintro en w3 ⟨rfl, hb3⟩; replace V := next V hb3; replace F := F.stay hb3; have ⟨f0, f1⟩ := F)
  | (go_at_call 17; (with_reducible refine (cH _).mono ?_); rintro en w3 ⟨rfl, hb3⟩; replace V := next V hb3; replace F := F.stay hb3; have ⟨f0, f1⟩ := F)
  | (go_at_call 18; (with_reducible refine (cD _).mono ?_); rintro en w3 ⟨rfl, hb3⟩; replace V := next V hb3; replace F := F.stay hb3; have ⟨f0, f1⟩ := F)
  | (go_at_call 19; (with_reducible refine (cO _).mono ?_); rintro en w6 ⟨rfl, hb3⟩; replace V := next V hb3; replace F := F.stay hb3; have ⟨f0, f1⟩ := F))
 clear cU cH cD cO
 go_wp2_with fail
 refine (cL w6 (hT.below V)).mono ?_
 rintro en w7 ⟨ca, cn, cc, rfl, cF, hb7⟩
 have s7 := more hb7 (.cells #[.bool us, .slice ca cn cc, .int .i64 ux] 41)
 have C8 := box3_new w7 (.bool us) (.slice ca cn cc) (.int .i64 ux) 41
 have cG := cF.alloc (.cells #[.bool us, .slice ca cn cc, .int .i64 ux] 41)
 have V8 := next V s7
 have F8 := F.stay s7
 have lF := F.lt
 have l6 := V.size
 go_upto_region 9 with fail
 obtain ⟨Cb, hCb⟩ : ∃ q, q = w7.heap.size := ⟨_, rfl⟩
 rw [← hCb] at C8 ⊢
 have lC : w6.heap.size ≤ Cb := by have := hb7.size; omega
 clear hCb F V hb7 s7 cF f0 f1
 generalize w7.alloc (.cells #[.bool us, .slice ca cn cc, .int .i64 ux] 41) = w8 at *
 have ⟨f0, f1⟩ := F8
 go_wp2_with fail
 refine (cM w8).mono ?_
 rintro en w9 ⟨da, dn, dc, rfl, dF, hb9⟩
 have s9 := more hb9 (.cells #[.bool us, .slice da dn dc, .int .i64 ux] 41)
 have D9 := box3_new w9 (.bool us) (.slice da dn dc) (.int .i64 ux) 41
 have dG := dF.alloc (.cells #[.bool us, .slice da dn dc, .int .i64 ux] 41)
 have C9 := C8.stay s9
 have cK := cG.below s9
 have V9 := next V8 s9
 have F9 := F8.stay s9
 have hca : ∀ g, blkOf ca = some g → w6.heap.size ≤ g ∧ g < w8.heap.size := fun g hg => fr_in cG hg
 go_upto_region 10 with fail
 obtain ⟨Db, hDb⟩ : ∃ q, q = w9.heap.size := ⟨_, rfl⟩
 rw [← hDb] at D9 ⊢
 have lD : w8.heap.size ≤ Db := by have := hb9.size; omega
 clear hDb F8 V8 C8 cG cM hb9 s9 dF f0 f1
 generalize w9.alloc (.cells #[.bool us, .slice da dn dc, .int .i64 ux] 41) = wA at *
 have ⟨c0, c1, c2, _, _, _⟩ := C9
 have ⟨d0, d1, d2, _, _, _⟩ := D9
 go_wp2_with fail
 refine (sameDy06_any us ca da cn dn cc dc ux _ wA cK.sl dG.sl).mono ?_
 rintro en wB ⟨rfl, hbB⟩
 have CB := C9.stay hbB
 have DB := D9.stay hbB
 have cB := cK.below hbB
 have dB := dG.below hbB
 have VB := next V9 hbB
 have FB := F9.stay hbB
 have lB := VB.size
 clear C9 D9 cK dG V9 F9 hbB c0 c1 c2 d0 d1 d2
 have ⟨c0, c1, c2, _, _, _⟩ := CB
 go_wp2_with fail
 refine (spoil6_any w.heap.size ca cn cc wB cB.room lB (fun g hg => by have := (hca g hg).1; omega) (by rw [cB.sl.len] at *; omega)).mono ?_
 rintro en wC ⟨rfl, md⟩
 have nF : blkOf ca ≠ some w.heap.size := fun h => by have := (hca _ h).1; omega
 have nD : blkOf ca ≠ some Db := fun h => by have := (hca _ h).2; omega
 have ndc : ∀ g, blkOf da = some g → blkOf ca ≠ some g := fun g hg h => by have h1 := (fr_in dB hg).1; have h2 := (hca _ h).2; omega
 have f0 := md.cell FB.c0 nF
 have f1 := md.cell FB.c1 nF
 have DC := md.box3 DB nD
 have dC := md.fr dB ndc
 have VC := VB.trans md.bel
 have tC : Tab wC := (hT.below VC)
 clear c0 c1 c2 CB DB cB dB VB FB md
 go_wp2_with fail
 refine (cL wC tC).mono ?_
 rintro en wD ⟨ea, en1, ec, rfl, eF, hbD⟩
 have sD := more hbD (.cells #[.bool us, .slice ea en1 ec, .int .i64 ux] 41)
 have E9 := box3_new wD (.bool us) (.slice ea en1 ec) (.int .i64 ux) 41
 have eG := eF.alloc (.cells #[.bool us, .slice ea en1 ec, .int .i64 ux] 41)
 have DD := DC.stay sD
 have dD := dC.below sD
 have VD := next VC sD
 go_upto_region 13 with fail
 obtain ⟨Eb, hEb⟩ : ∃ q, q = wD.heap.size := ⟨_, rfl⟩
 rw [← hEb] at E9 ⊢
 clear hEb DC dC VC sD eF hbD f0 f1
 generalize wD.alloc (.cells #[.bool us, .slice ea en1 ec, .int .i64 ux] 41) = wE at *
 have ⟨e0, e1, e2, _, _, _⟩ := E9
 have ⟨d0, d1, d2, _, _, _⟩ := DD
 go_wp2_with fail
 refine (sameDy06_any us ea da en1 dn ec dc ux _ wE eG.sl dD.sl).mono ?_
 rintro en wF ⟨rfl, hbF⟩
 have VF := next VD hbF
 clear e0 e1 e2 d0 d1 d2
 go_wp2
 go_ret
 exact ⟨by simp, VF⟩
end Go.Proofs.YtfjgmpfpadfknaaGreatDoor
