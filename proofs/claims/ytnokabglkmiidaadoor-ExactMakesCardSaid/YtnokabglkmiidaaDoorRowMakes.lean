/-
  The law numerallaw04.ExactMakes answers true, whatever it is asked: any sign, number and exponent that can be read as data, in whatever memory; what it is asked reads behind the call as it read before. One condition: the table math/bits.deBruijn32tab reads as its initialiser lays it (the card ties it to the program's text).
-/
import Derived.Test.YtnokabglkmiidaaDoorLawMakes
import Derived.Test.YtnokabglkmiidaaDoorRowTab
import Derived.Test.YtnokabglkmiidaaDoorTie
import Derived.Test.YtnokabglkmiidaaDoorCards
import Derived.SevenTiedAt
namespace Go.Proofs.YtnokabglkmiidaaDoor
open Go.RowKit Go.Lb Go.ChangeShapes Go.WideShapes Go.ChangeAt Go.Joins

theorem readsN : Tryd.prog.readableRec 24 = true := by kernel_rfl
theorem rowN : 24 < Tryd.prog.types.size := of_decide_eq_true (by kernel_rfl)

set_option maxRecDepth 100000 in
theorem lifted (os : Os) (started : os.Started) (H : Type) (enc : TypeId × Value → H) :
    ReturnsInHanded {} Tryd.checked os 3 .any (fun w args => (Rows.exactMakesSpec.pre enc Tryd.prog Tryd.f3 [] false w args ∧ laidMetH Tryd.prog laid1 w) ∧ sizedMet enc Tryd.prog Tryd.f3 (OpenSpec.ofChange Rows.exactMakesSpec) false w args)
      (Rows.exactMakesSpec.post enc Tryd.prog Tryd.f3 false true false false) := by
  refine returnsInHanded_of_change_and (C := Tryd.checked) (X := fun w _ => laidMetH Tryd.prog laid1 w) (fun _ _ _ hh h => h.of_heap hh) own started (by kernel_rfl) Tryd.func3
    (ChangeSpec.witness_shaped (enc := enc) (C := Tryd.checked) (os := os) (X := fun w _ => laidMetH Tryd.prog laid1 w) false (World.doorLaid Tryd.prog 14 os) #[.bool false, .agg #[.slice none 0 0], .int .i64 0] 8 rfl (World.shaped_of_RefB (by kernel_rfl) (by kernel_rfl)) (by kernel_rfl) (by kernel_rfl) (by kernel_rfl) (door_met os _)) ?_
  intro W base args ds gs before hval0 hW _ hsz0 hL _
  have hsz : (DataW.weightsEach Tryd.prog (Tryd.f3.params.toList ++ Rows.exactMakesSpec.plain.varTypes Tryd.prog) (ds ++ gs)).all (· ≤ reachBytes) = true := hsz0
  clear hsz0
  have hval : ∀ (j : Nat) t v, Tryd.f3.params[j]? = some t → args[j]? = some v → Value.okWide Tryd.prog W .any base t v := hval0
  have hW' := hW
  obtain ⟨p, q, hA0, hV, rfl, _, _⟩ := hW
  have hA : DataW.TrodAll enc Tryd.prog W 0 (fun _ => true) true Tryd.f3.params.toList args.toList ds p := hA0
  rw [Tryd.params3] at hA hval hsz
  obtain ⟨v0, v1, v2, d0, d1, d2, p0, p1, p2, rfl, rfl, rfl, h0, h1, h2⟩ := trodAll_three hA
  obtain ⟨rfl, rfl⟩ := trodVars_none hV
  have k1 := h1
  obtain ⟨neg, rfl, rfl, rfl⟩ := open_bool Tryd.underlying4 (hval 0 4 v0 rfl rfl) h0
  obtain ⟨x, rfl, rfl, rfl, hwf⟩ := open_int Tryd.underlying3 (hval 2 3 v2 rfl rfl) h2
  obtain ⟨ao, n, c, xs, el, sl, rfl, hS, hd⟩ := open_natA (hval 1 24 v1 rfl rfl) h1
  have hT := tab_of_laid hL
  have hn : n + 43 ≤ 35184372088832 := by
    have h1 : (DataW.weightsEach Tryd.prog [4, 24, 3] [DataW.lit (.bool neg), d1, DataW.lit (.int .i64 x)]).all (fun x => decide (x ≤ reachBytes)) = true := hsz
    refine nat_small hS.le hd ?_
    simp only [DataW.weightsEach, List.all_append, Bool.and_eq_true] at h1
    simp_all
  refine (makes_any neg ao n c x xs W hS hT hn).mono fun en W' ⟨he, hb⟩ => ?_
  subst he
  simp only [List.append_nil, List.nil_append] at hW'
  have hlt : ∀ p ∈ p1, p.block < W.heap.size := fun p hp => hW'.lt p (by simpa using hp)
  exact ⟨_, rfl, post_below (pa := p1) (pv := []) hW' (fun _ _ _ => trodAll_mk1 (shut_bool Tryd.underlying4 true))
    (fun sp hsp => by
      have h3 := trodAll_mk3 (shut_bool (enc := enc) (w := W') (base := 0) (spare := sp) (held := true) Tryd.underlying4 neg) (WideElems.Trod_stays laidOut readsN rowN k1 (fun p hp => hb.same (hlt p hp)) (fun p hp => hsp p (by simpa using hp))) (shut_int Tryd.underlying3 hwf)
      simp only [List.append_nil, List.nil_append] at h3
      exact h3)
    (fun _ _ => rfl) (by simp) hb (ok_one (by kernel_rfl) rfl (okWide_bool_mk Tryd.underlying4 true))⟩

theorem exactMakes_row : Rows.ExactMakesSaid :=
  OpenClaim.holds_of_wide 3 Tryd.f3 rfl rfl rfl rfl rfl rfl rfl ⟨rfl, rfl, rfl, rfl, rfl⟩ rfl rfl rfl rfl rfl (by kernel_rfl) Tryd.func3 (by kernel_rfl)
    (of_decide_eq_true (by kernel_rfl)) (by unfold Func.isWrapper; first | (rw [if_pos (by decide +kernel)]; kernel_rfl) | (rw [if_neg (by decide +kernel)]; exact ⟨rfl, rfl⟩))
    (fun os started H enc _ => lifted os started H enc)

theorem exactMakes_holds : Rows.ExactMakesCardSaid :=
  Claim7.holds_tied_plain_at .later [] [.data] true Rows.exactMakesCard.stood.harness Rows.exactMakesCard.stood.looks
    exactMakes_row (fun _ h => by cases h) (by kernel_rfl) (fun _ h => by cases h) exactMakes_row_tie rfl ⟨rfl, rfl⟩ (by kernel_rfl) rfl
    (fun f fn hf hfn => by
      obtain rfl : f = 3 := Option.some.inj ((show Tryd.prog.funcNamed "numeral/numerallaw04.ExactMakes" = some 3 by kernel_rfl).symm.trans hf) |>.symm
      obtain rfl : fn = Tryd.f3 := (Option.some.inj (Tryd.func3.symm.trans hfn)).symm
      exact ⟨by kernel_rfl, fun j t ht => by
        rw [Tryd.params3] at ht
        have hm : t ∈ [4, 24, 3] := by simpa using Array.mem_of_getElem? ht
        have hall : ([4, 24, 3].all fun u => !Tryd.prog.wantsStandIn u) = true := by kernel_rfl
        exact (show Tryd.prog.wantsStandIn t = false by simpa using List.all_eq_true.1 hall t hm)⟩)
    (by kernel_rfl)
#print axioms exactMakes_holds

end Go.Proofs.YtnokabglkmiidaaDoor
