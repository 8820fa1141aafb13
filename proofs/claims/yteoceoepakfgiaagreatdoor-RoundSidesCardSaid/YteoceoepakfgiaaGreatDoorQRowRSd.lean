/-
  The law numerallaw05.RoundSides answers true, whatever it is asked, in whatever memory; what it is asked reads behind the call as it read before. One condition: the table math/bits.deBruijn32tab reads as its initialiser lays it (the card ties it to the program's text). (Printed by wip/gen/row.py.)
-/
import Derived.Test.YteoceoepakfgiaaGreatDoorQLawRSd
import Derived.Test.YteoceoepakfgiaaGreatDoorRowTab
import Derived.Test.YteoceoepakfgiaaGreatDoorRowArgs
import Derived.Test.YteoceoepakfgiaaGreatDoorTie
import Derived.Test.YteoceoepakfgiaaGreatDoorCards
import Derived.SevenTiedAt
namespace Go.Proofs.YteoceoepakfgiaaGreatDoor

open Go.RowKit Go.Lb Go.ChangeShapes Go.WideShapes Go.ChangeAt Go.Joins

set_option maxRecDepth 100000 in
theorem lifted (os : Os) (started : os.Started) (H : Type) (enc : TypeId × Value → H) :
    ReturnsInHanded {} Tryz.checked os 5 .any (fun w args => (Rows.roundSidesSpec.pre enc Tryz.prog Tryz.f5 [] false w args ∧ laidMetH Tryz.prog laid1 w) ∧ sizedMet enc Tryz.prog Tryz.f5 (OpenSpec.ofChange Rows.roundSidesSpec) false w args)
      (Rows.roundSidesSpec.post enc Tryz.prog Tryz.f5 false true false false) := by
  refine returnsInHanded_of_change_and (C := Tryz.checked) (X := fun w _ => laidMetH Tryz.prog laid1 w) (fun _ _ _ hh h => h.of_heap hh) own started (by kernel_rfl) Tryz.func5
    (ChangeSpec.witness_shaped (enc := enc) (C := Tryz.checked) (os := os) (X := fun w _ => laidMetH Tryz.prog laid1 w) false (World.doorLaid Tryz.prog 14 os) #[.agg #[.int .i64 0, .int .i64 0], .agg #[.bool false, .slice none 0 0, .slice none 0 0]] 8 rfl (World.shaped_of_RefB (by kernel_rfl) (by kernel_rfl)) (by kernel_rfl) (by kernel_rfl) (by kernel_rfl) (door_met os _)) ?_
  intro W base args ds gs before hval0 hW _ _ hL _
  have hval : ∀ (j : Nat) t v, Tryz.f5.params[j]? = some t → args[j]? = some v → Value.okWide Tryz.prog W .any base t v := hval0
  have hW' := hW
  obtain ⟨p, q, hA0, hV, rfl, _, _⟩ := hW
  have hA : DataW.TrodAll enc Tryz.prog W 0 (fun _ => true) true Tryz.f5.params.toList args.toList ds p := hA0
  rw [Tryz.params5] at hA hval
  obtain ⟨v0, vs0, d0, ds0, p0, q0, l0, rfl, rfl, k0, r0⟩ := trodAll_cons hA
  obtain ⟨v1, vs1, d1, ds1, p1, q1, l1, rfl, rfl, k1, r1⟩ := trodAll_cons r0
  obtain ⟨lz, rfl, rfl⟩ := trodAll_nil r1
  obtain rfl : args = #[v0, v1] := by cases args; simp_all
  clear lz l0 l1
  obtain ⟨rfl, rfl⟩ := trodVars_none hV
  obtain ⟨e0, f0, rfl⟩ := open_form (hval 0 30 v0 rfl rfl) k0
  obtain ⟨s1, a1, b1, n1, m1, c1, e1, xs1, ys1, rfl, S1, Z1, _⟩ := open_ratio (hval 1 26 v1 rfl rfl) k1
  have hT := tab_of_laid hL
  refine (roundSides_any e0 f0 s1 a1 b1 n1 m1 c1 e1 xs1 ys1 W S1 Z1 hT).mono fun en W' ⟨he, hb⟩ => ?_
  subst he
  have hlt : ∀ a ∈ p0 ++ (p1 ++ []), a.block < W.heap.size := fun a ha => hW'.lt a (by simpa using ha)
  exact ⟨_, rfl, post_below (pa := p0 ++ (p1 ++ [])) (pv := []) hW' (fun _ _ _ => trodAll_mk1 (shut_bool Tryz.underlying4 true))
    (fun sp hsp => ⟨p0, _, (WideElems.Trod_stays laidOut readsF rowF k0 (fun a ha => hb.same (hlt a (by simp [ha]))) (fun a ha => hsp a (by simp [ha]))), ⟨p1, _, (WideElems.Trod_stays laidOut readsR rowR k1 (fun a ha => hb.same (hlt a (by simp [ha]))) (fun a ha => hsp a (by simp [ha]))), trodAll_mk0, rfl⟩, rfl⟩)
    (fun _ _ => rfl) (by simp) hb (ok_one (by kernel_rfl) rfl (okWide_bool_mk Tryz.underlying4 true))⟩

theorem roundSides_row : Rows.RoundSidesSaid :=
  OpenClaim.holds_of_wide 5 Tryz.f5 rfl rfl rfl rfl rfl rfl rfl ⟨rfl, rfl, rfl, rfl, rfl⟩ rfl rfl rfl rfl rfl (by kernel_rfl) Tryz.func5 (by kernel_rfl)
    (of_decide_eq_true (by kernel_rfl)) (by unfold Func.isWrapper; first | (rw [if_pos (by decide +kernel)]; kernel_rfl) | (rw [if_neg (by decide +kernel)]; exact ⟨rfl, rfl⟩))
    (fun os started H enc _ => lifted os started H enc)

theorem roundSides_holds : Rows.RoundSidesCardSaid :=
  Claim7.holds_tied_plain_at .later [] [.data] true Rows.roundSidesCard.stood.harness Rows.roundSidesCard.stood.looks
    roundSides_row (fun _ h => by cases h) (by kernel_rfl) (fun _ h => by cases h) roundSides_row_tie rfl ⟨rfl, rfl⟩ (by kernel_rfl) rfl
    (fun f fn hf hfn => by
      obtain rfl : f = 5 := Option.some.inj ((show Tryz.prog.funcNamed "numeral/numerallaw05.RoundSides" = some 5 by kernel_rfl).symm.trans hf) |>.symm
      obtain rfl : fn = Tryz.f5 := (Option.some.inj (Tryz.func5.symm.trans hfn)).symm
      exact ⟨by kernel_rfl, fun j t ht => by
        rw [Tryz.params5] at ht
        have hm : t ∈ [30, 26] := by simpa using Array.mem_of_getElem? ht
        have hall : ([30, 26].all fun u => !Tryz.prog.wantsStandIn u) = true := by kernel_rfl
        exact (show Tryz.prog.wantsStandIn t = false by simpa using List.all_eq_true.1 hall t hm)⟩)
    (by kernel_rfl)

#print axioms roundSides_holds

end Go.Proofs.YteoceoepakfgiaaGreatDoor

