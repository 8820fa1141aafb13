/-
  The law numerallaw05.RoundOrder answers true, whatever it is asked, in whatever memory; what it is asked reads behind the call as it read before. One condition: the table math/bits.deBruijn32tab reads as its initialiser lays it (the card ties it to the program's text). (Printed by wip/gen/row.py.)
-/
import Derived.Test.YtgdhleiokfaeoaaDoorLawRO
import Derived.Test.YtgdhleiokfaeoaaDoorRowTab
import Derived.Test.YtgdhleiokfaeoaaDoorRowArgs
import Derived.Test.YtgdhleiokfaeoaaDoorTie
import Derived.Test.YtgdhleiokfaeoaaDoorCards
import Derived.SevenTiedAt
namespace Go.Proofs.YtgdhleiokfaeoaaDoor
open Go.RowKit Go.Lb Go.ChangeShapes Go.WideShapes Go.ChangeAt Go.Joins

set_option maxRecDepth 100000 in
theorem lifted (os : Os) (started : os.Started) (H : Type) (enc : TypeId × Value → H) :
    ReturnsInHanded {} Tryd.checked os 5 .any (fun w args => (Rows.roundOrderSpec.pre enc Tryd.prog Tryd.f5 [] false w args ∧ laidMetH Tryd.prog laid1 w) ∧ sizedMet enc Tryd.prog Tryd.f5 (OpenSpec.ofChange Rows.roundOrderSpec) false w args)
      (Rows.roundOrderSpec.post enc Tryd.prog Tryd.f5 false true false false) := by
  refine returnsInHanded_of_change_and (C := Tryd.checked) (X := fun w _ => laidMetH Tryd.prog laid1 w) (fun _ _ _ hh h => h.of_heap hh) own started (by kernel_rfl) Tryd.func5
    (ChangeSpec.witness_shaped (enc := enc) (C := Tryd.checked) (os := os) (X := fun w _ => laidMetH Tryd.prog laid1 w) false (World.doorLaid Tryd.prog 14 os) #[.agg #[.int .i64 0, .int .i64 0], .agg #[.bool false, .slice none 0 0, .slice none 0 0], .agg #[.bool false, .slice none 0 0, .slice none 0 0], .int .u8 0] 8 rfl (World.shaped_of_RefB (by kernel_rfl) (by kernel_rfl)) (by kernel_rfl) (by kernel_rfl) (by kernel_rfl) (door_met os _)) ?_
  intro W base args ds gs before hval0 hW _ _ hL _
  have hval : ∀ (j : Nat) t v, Tryd.f5.params[j]? = some t → args[j]? = some v → Value.okWide Tryd.prog W .any base t v := hval0
  have hW' := hW
  obtain ⟨p, q, hA0, hV, rfl, _, _⟩ := hW
  have hA : DataW.TrodAll enc Tryd.prog W 0 (fun _ => true) true Tryd.f5.params.toList args.toList ds p := hA0
  rw [Tryd.params5] at hA hval
  obtain ⟨v0, vs0, d0, ds0, p0, q0, l0, rfl, rfl, k0, r0⟩ := trodAll_cons hA
  obtain ⟨v1, vs1, d1, ds1, p1, q1, l1, rfl, rfl, k1, r1⟩ := trodAll_cons r0
  obtain ⟨v2, vs2, d2, ds2, p2, q2, l2, rfl, rfl, k2, r2⟩ := trodAll_cons r1
  obtain ⟨v3, vs3, d3, ds3, p3, q3, l3, rfl, rfl, k3, r3⟩ := trodAll_cons r2
  obtain ⟨lz, rfl, rfl⟩ := trodAll_nil r3
  obtain rfl : args = #[v0, v1, v2, v3] := by cases args; simp_all
  clear lz l0 l1 l2 l3
  obtain ⟨rfl, rfl⟩ := trodVars_none hV
  obtain ⟨e0, f0, rfl⟩ := open_form (hval 0 33 v0 rfl rfl) k0
  obtain ⟨s1, a1, b1, n1, m1, c1, e1, xs1, ys1, rfl, S1, Z1, _⟩ := open_ratio (hval 1 27 v1 rfl rfl) k1
  obtain ⟨s2, a2, b2, n2, m2, c2, e2, xs2, ys2, rfl, S2, Z2, _⟩ := open_ratio (hval 2 27 v2 rfl rfl) k2
  obtain ⟨m3, rfl, hm3⟩ := open_u8 (hval 3 5 v3 rfl rfl) k3
  have hT := tab_of_laid hL
  refine (roundOrder_any e0 f0 s1 s2 a1 b1 a2 b2 n1 m1 n2 m2 c1 e1 c2 e2 m3 xs1 ys1 xs2 ys2 W S1 Z1 S2 Z2 hT).mono fun en W' ⟨he, hb⟩ => ?_
  subst he
  have hlt : ∀ a ∈ p0 ++ (p1 ++ (p2 ++ (p3 ++ []))), a.block < W.heap.size := fun a ha => hW'.lt a (by simpa using ha)
  exact ⟨_, rfl, post_below (pa := p0 ++ (p1 ++ (p2 ++ (p3 ++ [])))) (pv := []) hW' (fun _ _ _ => trodAll_mk1 (shut_bool Tryd.underlying4 true))
    (fun sp hsp => ⟨p0, _, (WideElems.Trod_stays laidOut readsF rowF k0 (fun a ha => hb.same (hlt a (by simp [ha]))) (fun a ha => hsp a (by simp [ha]))), ⟨p1, _, (WideElems.Trod_stays laidOut readsR rowR k1 (fun a ha => hb.same (hlt a (by simp [ha]))) (fun a ha => hsp a (by simp [ha]))), ⟨p2, _, (WideElems.Trod_stays laidOut readsR rowR k2 (fun a ha => hb.same (hlt a (by simp [ha]))) (fun a ha => hsp a (by simp [ha]))), ⟨p3, _, (WideElems.Trod_stays laidOut reads8 row8 k3 (fun a ha => hb.same (hlt a (by simp [ha]))) (fun a ha => hsp a (by simp [ha]))), trodAll_mk0, rfl⟩, rfl⟩, rfl⟩, rfl⟩)
    (fun _ _ => rfl) (by simp) hb (ok_one (by kernel_rfl) rfl (okWide_bool_mk Tryd.underlying4 true))⟩

theorem roundOrder_row : Rows.RoundOrderSaid :=
  OpenClaim.holds_of_wide 5 Tryd.f5 rfl rfl rfl rfl rfl rfl rfl ⟨rfl, rfl, rfl, rfl, rfl⟩ rfl rfl rfl rfl rfl (by kernel_rfl) Tryd.func5 (by kernel_rfl)
    (of_decide_eq_true (by kernel_rfl)) (by unfold Func.isWrapper; first | (rw [if_pos (by decide +kernel)]; kernel_rfl) | (rw [if_neg (by decide +kernel)]; exact ⟨rfl, rfl⟩))
    (fun os started H enc _ => lifted os started H enc)

theorem roundOrder_holds : Rows.RoundOrderCardSaid :=
  Claim7.holds_tied_plain_at .later [] [.data] true Rows.roundOrderCard.stood.harness Rows.roundOrderCard.stood.looks
    roundOrder_row (fun _ h => by cases h) (by kernel_rfl) (fun _ h => by cases h) roundOrder_row_tie rfl ⟨rfl, rfl⟩ (by kernel_rfl) rfl
    (fun f fn hf hfn => by
      obtain rfl : f = 5 := Option.some.inj ((show Tryd.prog.funcNamed "numeral/numerallaw05.RoundOrder" = some 5 by kernel_rfl).symm.trans hf) |>.symm
      obtain rfl : fn = Tryd.f5 := (Option.some.inj (Tryd.func5.symm.trans hfn)).symm
      exact ⟨by kernel_rfl, fun j t ht => by
        rw [Tryd.params5] at ht
        have hm : t ∈ [33, 27, 27, 5] := by simpa using Array.mem_of_getElem? ht
        have hall : ([33, 27, 27, 5].all fun u => !Tryd.prog.wantsStandIn u) = true := by kernel_rfl
        exact (show Tryd.prog.wantsStandIn t = false by simpa using List.all_eq_true.1 hall t hm)⟩)
    (by kernel_rfl)
#print axioms roundOrder_holds

end Go.Proofs.YtgdhleiokfaeoaaDoor
