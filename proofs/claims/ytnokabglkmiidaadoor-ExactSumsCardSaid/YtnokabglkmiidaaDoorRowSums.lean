/-
  The law numerallaw04.ExactSums answers true, whatever it is asked: any two dyadics that can be read as data, in whatever memory; what it is asked reads behind the call as it read before. One condition: the table math/bits.deBruijn32tab reads as its initialiser lays it (the card ties it to the program's text). (Printed by wip/gen/rowsums.py.)
-/
import Derived.Test.YtnokabglkmiidaaDoorLawSums
import Derived.Test.YtnokabglkmiidaaDoorRowTab
import Derived.Test.YtnokabglkmiidaaDoorTie
import Derived.Test.YtnokabglkmiidaaDoorCards
import Derived.SevenTiedAt
namespace Go.Proofs.YtnokabglkmiidaaDoor
open Go.RowKit Go.Lb Go.ChangeShapes Go.WideShapes Go.ChangeAt Go.Joins

theorem readsD : Tryd.prog.readableRec 26 = true := by kernel_rfl
theorem rowD : 26 < Tryd.prog.types.size := of_decide_eq_true (by kernel_rfl)

set_option maxRecDepth 100000 in
/-- A dyadic by value, opened. -/
theorem open_dyadic {H : Type} {enc : TypeId × Value → H} {w : World} {r : Reach} {b0 : Nat} {v : Value} {d : DataW H} {p : List MemPlace} (hv : Value.okWide Tryd.prog w r b0 26 v) (h : DataW.Trod enc Tryd.prog w 0 (fun _ => true) true 26 v d p)
    : ∃ (neg : Bool) (ao : Option Addr) (n c : Nat) (x : Int) (xs : List Nat), v = .agg #[.bool neg, .slice ao n c, .int .i64 x] ∧ Sl w ao n c xs ∧ ((DataW.weights Tryd.prog 26 d).all (fun x => decide (x ≤ reachBytes)) = true → n + 43 ≤ 35184372088832) := by
  obtain ⟨b0, b1, b2, z0, z1, z2, m2, rfl, rfl, rfl, hz0, hz1, hz2⟩ := open_agg3 Tryd.underlying26 (by kernel_rfl) cellsD hv h
  obtain ⟨neg, hneg, hzn⟩ := DataW.trod_bool Tryd.underlying4 hz0
  obtain ⟨x, hx, hzx, _⟩ := DataW.trod_int Tryd.underlying3 hz2
  obtain ⟨ao, n, c, xs, el, sl, rfl, hS, hd⟩ := open_nat hz1
  simp only [List.cons.injEq, and_true] at hneg hx
  subst hneg; subst hx
  refine ⟨neg, ao, n, c, x, xs, rfl, hS, fun h1 => ?_⟩
  have := hS.le
  rcases hd with ⟨hd, hc0⟩ | ⟨hd, hc0⟩
  · omega
  · rw [hzn, hd, hzx] at h1
    simp [DataW.weightsEach, DataW.weights, Tryd.underlying26, Tryd.underlying24, Tryd.underlying22, bytes4, hc0, reachBytes] at h1
    have h2 := of_decide_eq_true h1.1
    omega

set_option maxRecDepth 100000 in
theorem lifted (os : Os) (started : os.Started) (H : Type) (enc : TypeId × Value → H) :
    ReturnsInHanded {} Tryd.checked os 6 .any (fun w args => (Rows.exactSumsSpec.pre enc Tryd.prog Tryd.f6 [] false w args ∧ laidMetH Tryd.prog laid1 w) ∧ sizedMet enc Tryd.prog Tryd.f6 (OpenSpec.ofChange Rows.exactSumsSpec) false w args)
      (Rows.exactSumsSpec.post enc Tryd.prog Tryd.f6 false true false false) := by
  refine returnsInHanded_of_change_and (C := Tryd.checked) (X := fun w _ => laidMetH Tryd.prog laid1 w) (fun _ _ _ hh h => h.of_heap hh) own started (by kernel_rfl) Tryd.func6
    (ChangeSpec.witness_shaped (enc := enc) (C := Tryd.checked) (os := os) (X := fun w _ => laidMetH Tryd.prog laid1 w) false (World.doorLaid Tryd.prog 14 os) #[.agg #[.bool false, .slice none 0 0, .int .i64 0], .agg #[.bool false, .slice none 0 0, .int .i64 0]] 8 rfl (World.shaped_of_RefB (by kernel_rfl) (by kernel_rfl)) (by kernel_rfl) (by kernel_rfl) (by kernel_rfl) (door_met os _)) ?_
  intro W base args ds gs before hval0 hW _ hsz0 hL _
  have hsz : (DataW.weightsEach Tryd.prog (Tryd.f6.params.toList ++ Rows.exactSumsSpec.plain.varTypes Tryd.prog) (ds ++ gs)).all (· ≤ reachBytes) = true := hsz0
  clear hsz0
  have hval : ∀ (j : Nat) t v, Tryd.f6.params[j]? = some t → args[j]? = some v → Value.okWide Tryd.prog W .any base t v := hval0
  have hW' := hW
  obtain ⟨p, q, hA0, hV, rfl, _, _⟩ := hW
  have hA : DataW.TrodAll enc Tryd.prog W 0 (fun _ => true) true Tryd.f6.params.toList args.toList ds p := hA0
  rw [Tryd.params6] at hA hval hsz
  obtain ⟨v0, v1, d0, d1, p0, p1, rfl, rfl, rfl, h0, h1⟩ := trodAll_two hA
  obtain ⟨rfl, rfl⟩ := trodVars_none hV
  have k0 := h0
  have k1 := h1
  obtain ⟨s, ao, n, c, x, xs, rfl, hS, hd⟩ := open_dyadic (hval 0 26 v0 rfl rfl) h0
  obtain ⟨t, bo, m, d, y, ys, rfl, hZ, he⟩ := open_dyadic (hval 1 26 v1 rfl rfl) h1
  have hT := tab_of_laid hL
  have hw : (DataW.weights Tryd.prog 26 d0).all (fun x => decide (x ≤ reachBytes)) = true ∧ (DataW.weights Tryd.prog 26 d1).all (fun x => decide (x ≤ reachBytes)) = true := by
    have h1 : (DataW.weightsEach Tryd.prog [26, 26] [d0, d1]).all (fun x => decide (x ≤ reachBytes)) = true := hsz
    simp only [DataW.weightsEach, List.all_append, Bool.and_eq_true] at h1
    exact ⟨h1.1, h1.2.1⟩
  refine (exactSums_any s t ao bo n m c d x y xs ys W hS hZ hT (hd hw.1) (he hw.2)).mono fun en W' ⟨he, hb⟩ => ?_
  subst he
  have hlt : ∀ p ∈ p0 ++ p1, p.block < W.heap.size := fun p hp => hW'.lt p (by simpa using hp)
  exact ⟨_, rfl, post_below (pa := p0 ++ p1) (pv := []) hW' (fun _ _ _ => trodAll_mk1 (shut_bool Tryd.underlying4 true))
    (fun sp hsp => trodAll_mk2 (WideElems.Trod_stays laidOut readsD rowD k0 (fun p hp => hb.same (hlt p (List.mem_append_left _ hp))) (fun p hp => hsp p (List.mem_append_left _ (List.mem_append_left _ hp))))
      (WideElems.Trod_stays laidOut readsD rowD k1 (fun p hp => hb.same (hlt p (List.mem_append_right _ hp))) (fun p hp => hsp p (List.mem_append_left _ (List.mem_append_right _ hp)))))
    (fun _ _ => rfl) rfl hb (ok_one (by kernel_rfl) rfl (okWide_bool_mk Tryd.underlying4 true))⟩

theorem exactSums_row : Rows.ExactSumsSaid :=
  OpenClaim.holds_of_wide 6 Tryd.f6 rfl rfl rfl rfl rfl rfl rfl ⟨rfl, rfl, rfl, rfl, rfl⟩ rfl rfl rfl rfl rfl (by kernel_rfl) Tryd.func6 (by kernel_rfl)
    (of_decide_eq_true (by kernel_rfl)) (by unfold Func.isWrapper; first | (rw [if_pos (by decide +kernel)]; kernel_rfl) | (rw [if_neg (by decide +kernel)]; exact ⟨rfl, rfl⟩))
    (fun os started H enc _ => lifted os started H enc)

theorem exactSums_holds : Rows.ExactSumsCardSaid :=
  Claim7.holds_tied_plain_at .later [] [.data] true Rows.exactSumsCard.stood.harness Rows.exactSumsCard.stood.looks
    exactSums_row (fun _ h => by cases h) (by kernel_rfl) (fun _ h => by cases h) exactSums_row_tie rfl ⟨rfl, rfl⟩ (by kernel_rfl) rfl
    (fun f fn hf hfn => by
      obtain rfl : f = 6 := Option.some.inj ((show Tryd.prog.funcNamed "numeral/numerallaw04.ExactSums" = some 6 by kernel_rfl).symm.trans hf) |>.symm
      obtain rfl : fn = Tryd.f6 := (Option.some.inj (Tryd.func6.symm.trans hfn)).symm
      exact ⟨by kernel_rfl, fun j t ht => by
        rw [Tryd.params6] at ht
        have hm : t ∈ [26, 26] := by simpa using Array.mem_of_getElem? ht
        have hall : ([26, 26].all fun u => !Tryd.prog.wantsStandIn u) = true := by kernel_rfl
        exact (show Tryd.prog.wantsStandIn t = false by simpa using List.all_eq_true.1 hall t hm)⟩)
    (by kernel_rfl)
#print axioms exactSums_holds

end Go.Proofs.YtnokabglkmiidaaDoor
