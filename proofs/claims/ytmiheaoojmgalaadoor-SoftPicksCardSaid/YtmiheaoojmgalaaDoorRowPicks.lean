/-
  The law numerallaw07.SoftPicks answers true, whatever it is asked: any form and any two floats' bits, in whatever memory; what it is asked reads behind the call as it read before. One condition: the table math/bits.deBruijn32tab reads as its initialiser lays it (the card ties it to the program's text).
-/
import Derived.Test.YtmiheaoojmgalaaDoorLawPicks
import Derived.Test.YtmiheaoojmgalaaDoorRowTab
import Derived.Test.YtmiheaoojmgalaaDoorTie
import Derived.Test.YtmiheaoojmgalaaDoorCards
import Derived.SevenTiedAt
namespace Go.Proofs.YtmiheaoojmgalaaDoor
open Go.RowKit Go.Lb Go.ChangeShapes Go.WideShapes Go.ChangeAt Go.Joins

theorem readsF : Tryd.prog.readableRec 23 = true := by kernel_rfl
theorem rowF : 23 < Tryd.prog.types.size := of_decide_eq_true (by kernel_rfl)

set_option maxRecDepth 100000 in
theorem lifted (os : Os) (started : os.Started) (H : Type) (enc : TypeId × Value → H) :
    ReturnsInHanded {} Tryd.checked os 3 .any (fun w args => (Rows.softPicksSpec.pre enc Tryd.prog Tryd.f3 [] false w args ∧ laidMetH Tryd.prog laid1 w) ∧ sizedMet enc Tryd.prog Tryd.f3 (OpenSpec.ofChange Rows.softPicksSpec) false w args)
      (Rows.softPicksSpec.post enc Tryd.prog Tryd.f3 false true false false) := by
  refine returnsInHanded_of_change_and (C := Tryd.checked) (X := fun w _ => laidMetH Tryd.prog laid1 w) (fun _ _ _ hh h => h.of_heap hh) own started (by kernel_rfl) Tryd.func3
    (ChangeSpec.witness_shaped (enc := enc) (C := Tryd.checked) (os := os) (X := fun w _ => laidMetH Tryd.prog laid1 w) false (World.doorLaid Tryd.prog 14 os) #[.agg #[.int .i64 0, .int .i64 0], .int .u64 0, .int .u64 0] 8 rfl (World.shaped_of_RefB (by kernel_rfl) (by kernel_rfl)) (by kernel_rfl) (by kernel_rfl) (by kernel_rfl) (door_met os _)) ?_
  intro W base args ds gs before hval0 hW _ _ hL _
  have hval : ∀ (j : Nat) t v, Tryd.f3.params[j]? = some t → args[j]? = some v → Value.okWide Tryd.prog W .any base t v := hval0
  have hW' := hW
  obtain ⟨p, q, hA0, hV, rfl, _, _⟩ := hW
  have hA : DataW.TrodAll enc Tryd.prog W 0 (fun _ => true) true Tryd.f3.params.toList args.toList ds p := hA0
  rw [Tryd.params3] at hA hval
  obtain ⟨v0, v1, v2, d0, d1, d2, p0, p1, p2, rfl, rfl, rfl, h0, h1, h2⟩ := trodAll_three hA
  obtain ⟨rfl, rfl⟩ := trodVars_none hV
  have k0 := h0
  obtain ⟨x, rfl, rfl, rfl, hwf⟩ := open_int Tryd.underlying24 (hval 1 24 v1 rfl rfl) h1
  obtain ⟨z, rfl, rfl, rfl, hwf2⟩ := open_int Tryd.underlying24 (hval 2 24 v2 rfl rfl) h2
  obtain ⟨a0, a1, y0, y1, m, rfl, rfl, rfl, hy0, hy1⟩ := open_agg2 Tryd.underlying23 (by kernel_rfl) cellsF (hval 0 23 v0 rfl rfl) h0
  obtain ⟨e, he, hye, _⟩ := DataW.trod_int Tryd.underlying3 hy0
  obtain ⟨f, hf, hyf, _⟩ := DataW.trod_int Tryd.underlying3 hy1
  simp only [List.cons.injEq, and_true] at he hf
  subst he; subst hf
  have hT := tab_of_laid hL
  have hx : 0 ≤ x ∧ x ≤ 18446744073709551615 := by simpa [Lit.wf, IntKind.min, IntKind.max, IntKind.signed, IntKind.bits] using hwf
  obtain ⟨b, rfl⟩ := Int.eq_ofNat_of_zero_le hx.1
  have hz : 0 ≤ z ∧ z ≤ 18446744073709551615 := by simpa [Lit.wf, IntKind.min, IntKind.max, IntKind.signed, IntKind.bits] using hwf2
  obtain ⟨c, rfl⟩ := Int.eq_ofNat_of_zero_le hz.1
  refine (picks_any e f b c W (by omega) (by omega) hT).mono fun en W' ⟨he, hb⟩ => ?_
  subst he
  simp only [List.append_nil] at hW'
  have hlt : ∀ p ∈ y0.2 ++ y1.2, p.block < W.heap.size := fun p hp => hW'.lt p (by simpa using hp)
  exact ⟨_, rfl, post_below (pa := y0.2 ++ y1.2) (pv := []) hW' (fun _ _ _ => trodAll_mk1 (shut_bool Tryd.underlying4 true))
    (fun sp hsp => by
      have h3 := trodAll_mk3 (WideElems.Trod_stays laidOut readsF rowF k0 (fun p hp => hb.same (hlt p hp)) (fun p hp => hsp p (by simpa using hp))) (shut_int (enc := enc) (w := W') (base := 0) (spare := sp) (held := true) Tryd.underlying24 hwf) (shut_int (enc := enc) (w := W') (base := 0) (spare := sp) (held := true) Tryd.underlying24 hwf2)
      simp only [List.append_nil] at h3
      exact h3)
    (fun _ _ => rfl) (by simp) hb (ok_one (by kernel_rfl) rfl (okWide_bool_mk Tryd.underlying4 true))⟩

theorem softPicks_row : Rows.SoftPicksSaid :=
  OpenClaim.holds_of_wide 3 Tryd.f3 rfl rfl rfl rfl rfl rfl rfl ⟨rfl, rfl, rfl, rfl, rfl⟩ rfl rfl rfl rfl rfl (by kernel_rfl) Tryd.func3 (by kernel_rfl)
    (of_decide_eq_true (by kernel_rfl)) (by unfold Func.isWrapper; first | (rw [if_pos (by decide +kernel)]; kernel_rfl) | (rw [if_neg (by decide +kernel)]; exact ⟨rfl, rfl⟩))
    (fun os started H enc _ => lifted os started H enc)

theorem softPicks_holds : Rows.SoftPicksCardSaid :=
  Claim7.holds_tied_plain_at .later [] [.data] true Rows.softPicksCard.stood.harness Rows.softPicksCard.stood.looks
    softPicks_row (fun _ h => by cases h) (by kernel_rfl) (fun _ h => by cases h) softPicks_row_tie rfl ⟨rfl, rfl⟩ (by kernel_rfl) rfl
    (fun f fn hf hfn => by
      obtain rfl : f = 3 := Option.some.inj ((show Tryd.prog.funcNamed "numeral/numerallaw07.SoftPicks" = some 3 by kernel_rfl).symm.trans hf) |>.symm
      obtain rfl : fn = Tryd.f3 := (Option.some.inj (Tryd.func3.symm.trans hfn)).symm
      exact ⟨by kernel_rfl, fun j t ht => by
        rw [Tryd.params3] at ht
        have hm : t ∈ [23, 24, 24] := by simpa using Array.mem_of_getElem? ht
        have hall : ([23, 24, 24].all fun u => !Tryd.prog.wantsStandIn u) = true := by kernel_rfl
        exact (show Tryd.prog.wantsStandIn t = false by simpa using List.all_eq_true.1 hall t hm)⟩)
    (by kernel_rfl)
#print axioms softPicks_holds

end Go.Proofs.YtmiheaoojmgalaaDoor
