/-
  The law numerallaw04.ExactRatios answers true, whatever it is asked, in whatever memory; what it is asked reads behind the call as it read before. One condition: the table math/bits.deBruijn32tab reads as its initialiser lays it (the card ties it to the program's text). (Printed by wip/gen/row.py.)
-/
import Derived.Test.YthemcdnlcgmimaaGreatDoorLawRatios
import Derived.Test.YthemcdnlcgmimaaGreatDoorRowTab
import Derived.Test.YthemcdnlcgmimaaGreatDoorRowArgs
import Derived.Test.YthemcdnlcgmimaaGreatDoorTie
import Derived.Test.YthemcdnlcgmimaaGreatDoorCards
import Derived.SevenTiedAt
namespace Go.Proofs.YthemcdnlcgmimaaGreatDoor
open Go.RowKit Go.Lb Go.ChangeShapes Go.WideShapes Go.ChangeAt Go.Joins

set_option maxRecDepth 100000 in
theorem lifted (os : Os) (started : os.Started) (H : Type) (enc : TypeId × Value → H) :
    ReturnsInHanded {} Tryz.checked os 3 .any (fun w args => (Rows.exactRatiosSpec.pre enc Tryz.prog Tryz.f3 [] false w args ∧ laidMetH Tryz.prog laid1 w) ∧ sizedMet enc Tryz.prog Tryz.f3 (OpenSpec.ofChange Rows.exactRatiosSpec) false w args)
      (Rows.exactRatiosSpec.post enc Tryz.prog Tryz.f3 false true false false) := by
  refine returnsInHanded_of_change_and (C := Tryz.checked) (X := fun w _ => laidMetH Tryz.prog laid1 w) (fun _ _ _ hh h => h.of_heap hh) own started (by kernel_rfl) Tryz.func3
    (ChangeSpec.witness_shaped (enc := enc) (C := Tryz.checked) (os := os) (X := fun w _ => laidMetH Tryz.prog laid1 w) false (World.doorLaid Tryz.prog 14 os) #[.agg #[.bool false, .slice none 0 0, .int .i64 0], .agg #[.bool false, .slice none 0 0, .slice none 0 0]] 8 rfl (World.shaped_of_RefB (by kernel_rfl) (by kernel_rfl)) (by kernel_rfl) (by kernel_rfl) (by kernel_rfl) (door_met os _)) ?_
  intro W base args ds gs before hval0 hW _ hsz0 hL _
  have hsz : (DataW.weightsEach Tryz.prog (Tryz.f3.params.toList ++ Rows.exactRatiosSpec.plain.varTypes Tryz.prog) (ds ++ gs)).all (· ≤ reachBytes) = true := hsz0
  clear hsz0
  have hval : ∀ (j : Nat) t v, Tryz.f3.params[j]? = some t → args[j]? = some v → Value.okWide Tryz.prog W .any base t v := hval0
  have hW' := hW
  obtain ⟨p, q, hA0, hV, rfl, _, _⟩ := hW
  have hA : DataW.TrodAll enc Tryz.prog W 0 (fun _ => true) true Tryz.f3.params.toList args.toList ds p := hA0
  rw [Tryz.params3] at hA hval hsz
  obtain ⟨v0, vs0, d0, ds0, p0, q0, l0, rfl, rfl, k0, r0⟩ := trodAll_cons hA
  obtain ⟨v1, vs1, d1, ds1, p1, q1, l1, rfl, rfl, k1, r1⟩ := trodAll_cons r0
  obtain ⟨lz, rfl, rfl⟩ := trodAll_nil r1
  obtain rfl : args = #[v0, v1] := by cases args; simp_all
  clear lz l0 l1
  obtain ⟨rfl, rfl⟩ := trodVars_none hV
  have hw : (DataW.weights Tryz.prog 26 d0).all (fun x => decide (x ≤ reachBytes)) = true ∧ (DataW.weights Tryz.prog 28 d1).all (fun x => decide (x ≤ reachBytes)) = true := by
    have h1 : (DataW.weightsEach Tryz.prog [26, 28] [d0, d1]).all (fun x => decide (x ≤ reachBytes)) = true := hsz
    simp only [DataW.weightsEach, List.all_append, Bool.and_eq_true] at h1
    exact ⟨h1.1, h1.2.1⟩
  obtain ⟨s0, a0, n0, c0, x0, xs0, rfl, S0, B0⟩ := open_dyadic (hval 0 26 v0 rfl rfl) k0
  replace B0 := B0 hw.1
  obtain ⟨s1, a1, b1, n1, m1, c1, e1, xs1, ys1, rfl, S1, Z1, B1⟩ := open_ratio (hval 1 28 v1 rfl rfl) k1
  replace B1 := B1 hw.2
  have hT := tab_of_laid hL
  refine (exactRatios_any s0 s1 a0 a1 b1 n0 n1 m1 c0 c1 e1 x0 xs0 xs1 ys1 W S0 S1 Z1 hT B0 B1.1 B1.2).mono fun en W' ⟨he, hb⟩ => ?_
  subst he
  have hlt : ∀ a ∈ p0 ++ (p1 ++ []), a.block < W.heap.size := fun a ha => hW'.lt a (by simpa using ha)
  exact ⟨_, rfl, post_below (pa := p0 ++ (p1 ++ [])) (pv := []) hW' (fun _ _ _ => trodAll_mk1 (shut_bool Tryz.underlying4 true))
    (fun sp hsp => ⟨p0, _, (WideElems.Trod_stays laidOut readsD rowD k0 (fun a ha => hb.same (hlt a (by simp [ha]))) (fun a ha => hsp a (by simp [ha]))), ⟨p1, _, (WideElems.Trod_stays laidOut readsR rowR k1 (fun a ha => hb.same (hlt a (by simp [ha]))) (fun a ha => hsp a (by simp [ha]))), trodAll_mk0, rfl⟩, rfl⟩)
    (fun _ _ => rfl) (by simp) hb (ok_one (by kernel_rfl) rfl (okWide_bool_mk Tryz.underlying4 true))⟩

theorem exactRatios_row : Rows.ExactRatiosSaid :=
  OpenClaim.holds_of_wide 3 Tryz.f3 rfl rfl rfl rfl rfl rfl rfl ⟨rfl, rfl, rfl, rfl, rfl⟩ rfl rfl rfl rfl rfl (by kernel_rfl) Tryz.func3 (by kernel_rfl)
    (of_decide_eq_true (by kernel_rfl)) (by unfold Func.isWrapper; first | (rw [if_pos (by decide +kernel)]; kernel_rfl) | (rw [if_neg (by decide +kernel)]; exact ⟨rfl, rfl⟩))
    (fun os started H enc _ => lifted os started H enc)

theorem exactRatios_holds : Rows.ExactRatiosCardSaid :=
  Claim7.holds_tied_plain_at .later [] [.data] true Rows.exactRatiosCard.stood.harness Rows.exactRatiosCard.stood.looks
    exactRatios_row (fun _ h => by cases h) (by kernel_rfl) (fun _ h => by cases h) exactRatios_row_tie rfl ⟨rfl, rfl⟩ (by kernel_rfl) rfl
    (fun f fn hf hfn => by
      obtain rfl : f = 3 := Option.some.inj ((show Tryz.prog.funcNamed "numeral/numerallaw04.ExactRatios" = some 3 by kernel_rfl).symm.trans hf) |>.symm
      obtain rfl : fn = Tryz.f3 := (Option.some.inj (Tryz.func3.symm.trans hfn)).symm
      exact ⟨by kernel_rfl, fun j t ht => by
        rw [Tryz.params3] at ht
        have hm : t ∈ [26, 28] := by simpa using Array.mem_of_getElem? ht
        have hall : ([26, 28].all fun u => !Tryz.prog.wantsStandIn u) = true := by kernel_rfl
        exact (show Tryz.prog.wantsStandIn t = false by simpa using List.all_eq_true.1 hall t hm)⟩)
    (by kernel_rfl)
#print axioms exactRatios_holds

end Go.Proofs.YthemcdnlcgmimaaGreatDoor
