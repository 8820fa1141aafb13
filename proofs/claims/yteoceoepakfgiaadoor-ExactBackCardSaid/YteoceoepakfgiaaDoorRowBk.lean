/-
  The law numerallaw04.ExactBack answers true, whatever it is asked, in whatever memory; what it is asked reads behind the call as it read before. One condition: the table math/bits.deBruijn32tab reads as its initialiser lays it (the card ties it to the program's text). (Printed by wip/gen/row.py.)
-/
import Derived.Test.YteoceoepakfgiaaDoorLawBk
import Derived.Test.YteoceoepakfgiaaDoorRowTab
import Derived.Test.YteoceoepakfgiaaDoorRowArgs
import Derived.Test.YteoceoepakfgiaaDoorTie
import Derived.Test.YteoceoepakfgiaaDoorCards
import Derived.SevenTiedAt
namespace Go.Proofs.YteoceoepakfgiaaDoor
open Go.RowKit Go.Lb Go.ChangeShapes Go.WideShapes Go.ChangeAt Go.Joins

set_option maxRecDepth 100000 in
theorem lifted (os : Os) (started : os.Started) (H : Type) (enc : TypeId × Value → H) :
    ReturnsInHanded {} Tryd.checked os 3 .any (fun w args => (Rows.exactBackSpec.pre enc Tryd.prog Tryd.f3 [] false w args ∧ laidMetH Tryd.prog laid1 w) ∧ sizedMet enc Tryd.prog Tryd.f3 (OpenSpec.ofChange Rows.exactBackSpec) false w args)
      (Rows.exactBackSpec.post enc Tryd.prog Tryd.f3 false true false false) := by
  refine returnsInHanded_of_change_and (C := Tryd.checked) (X := fun w _ => laidMetH Tryd.prog laid1 w) (fun _ _ _ hh h => h.of_heap hh) own started (by kernel_rfl) Tryd.func3
    (ChangeSpec.witness_shaped (enc := enc) (C := Tryd.checked) (os := os) (X := fun w _ => laidMetH Tryd.prog laid1 w) false (World.doorLaid Tryd.prog 14 os) #[.agg #[.bool false, .slice none 0 0, .int .i64 0], .agg #[.bool false, .slice none 0 0, .slice none 0 0]] 8 rfl (World.shaped_of_RefB (by kernel_rfl) (by kernel_rfl)) (by kernel_rfl) (by kernel_rfl) (by kernel_rfl) (door_met os _)) ?_
  intro W base args ds gs before hval0 hW _ _ hL _
  have hval : ∀ (j : Nat) t v, Tryd.f3.params[j]? = some t → args[j]? = some v → Value.okWide Tryd.prog W .any base t v := hval0
  have hW' := hW
  obtain ⟨p, q, hA0, hV, rfl, _, _⟩ := hW
  have hA : DataW.TrodAll enc Tryd.prog W 0 (fun _ => true) true Tryd.f3.params.toList args.toList ds p := hA0
  rw [Tryd.params3] at hA hval
  obtain ⟨v0, vs0, d0, ds0, p0, q0, l0, rfl, rfl, k0, r0⟩ := trodAll_cons hA
  obtain ⟨v1, vs1, d1, ds1, p1, q1, l1, rfl, rfl, k1, r1⟩ := trodAll_cons r0
  obtain ⟨lz, rfl, rfl⟩ := trodAll_nil r1
  obtain rfl : args = #[v0, v1] := by cases args; simp_all
  clear lz l0 l1
  obtain ⟨rfl, rfl⟩ := trodVars_none hV
  obtain ⟨s0, a0, n0, c0, x0, xs0, rfl, S0, _⟩ := open_dyadic (hval 0 26 v0 rfl rfl) k0
  obtain ⟨s1, a1, b1, n1, m1, c1, e1, xs1, ys1, rfl, S1, Z1, _⟩ := open_ratio (hval 1 28 v1 rfl rfl) k1
  have hT := tab_of_laid hL
  refine (exactBack_any s0 s1 a0 a1 b1 n0 n1 m1 c0 c1 e1 x0 xs0 xs1 ys1 W S0 S1 Z1 hT).mono fun en W' ⟨he, hb⟩ => ?_
  subst he
  have hlt : ∀ a ∈ p0 ++ (p1 ++ []), a.block < W.heap.size := fun a ha => hW'.lt a (by simpa using ha)
  exact ⟨_, rfl, post_below (pa := p0 ++ (p1 ++ [])) (pv := []) hW' (fun _ _ _ => trodAll_mk1 (shut_bool Tryd.underlying4 true))
    (fun sp hsp => ⟨p0, _, (WideElems.Trod_stays laidOut readsD rowD k0 (fun a ha => hb.same (hlt a (by simp [ha]))) (fun a ha => hsp a (by simp [ha]))), ⟨p1, _, (WideElems.Trod_stays laidOut readsR rowR k1 (fun a ha => hb.same (hlt a (by simp [ha]))) (fun a ha => hsp a (by simp [ha]))), trodAll_mk0, rfl⟩, rfl⟩)
    (fun _ _ => rfl) (by simp) hb (ok_one (by kernel_rfl) rfl (okWide_bool_mk Tryd.underlying4 true))⟩

theorem exactBack_row : Rows.ExactBackSaid :=
  OpenClaim.holds_of_wide 3 Tryd.f3 rfl rfl rfl rfl rfl rfl rfl ⟨rfl, rfl, rfl, rfl, rfl⟩ rfl rfl rfl rfl rfl (by kernel_rfl) Tryd.func3 (by kernel_rfl)
    (of_decide_eq_true (by kernel_rfl)) (by unfold Func.isWrapper; first | (rw [if_pos (by decide +kernel)]; kernel_rfl) | (rw [if_neg (by decide +kernel)]; exact ⟨rfl, rfl⟩))
    (fun os started H enc _ => lifted os started H enc)

theorem exactBack_holds : Rows.ExactBackCardSaid :=
  Claim7.holds_tied_plain_at .later [] [.data] true Rows.exactBackCard.stood.harness Rows.exactBackCard.stood.looks
    exactBack_row (fun _ h => by cases h) (by kernel_rfl) (fun _ h => by cases h) exactBack_row_tie rfl ⟨rfl, rfl⟩ (by kernel_rfl) rfl
    (fun f fn hf hfn => by
      obtain rfl : f = 3 := Option.some.inj ((show Tryd.prog.funcNamed "numeral/numerallaw04.ExactBack" = some 3 by kernel_rfl).symm.trans hf) |>.symm
      obtain rfl : fn = Tryd.f3 := (Option.some.inj (Tryd.func3.symm.trans hfn)).symm
      exact ⟨by kernel_rfl, fun j t ht => by
        rw [Tryd.params3] at ht
        have hm : t ∈ [26, 28] := by simpa using Array.mem_of_getElem? ht
        have hall : ([26, 28].all fun u => !Tryd.prog.wantsStandIn u) = true := by kernel_rfl
        exact (show Tryd.prog.wantsStandIn t = false by simpa using List.all_eq_true.1 hall t hm)⟩)
    (by kernel_rfl)
#print axioms exactBack_holds

end Go.Proofs.YteoceoepakfgiaaDoor
