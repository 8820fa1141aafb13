/-
  The law numerallaw04.ExactBits answers true, whatever it is asked: any form and any dyadic that can be read as data, in whatever memory; what it is asked reads behind the call as it read before. No condition beyond the form's own.
-/
import Derived.Test.YtaanaacgkioagaaLawBits
import Derived.Test.YtaanaacgkioagaaPost
namespace Go.Proofs.Ytaanaacgkioagaa
open Go.RowKit Go.Lb Go.ChangeShapes Go.WideShapes Go.ChangeAt Go.Joins

theorem own : ownKnob Try.prog.godebug = none := by kernel_rfl
theorem cells1 : Try.prog.cellsOf 52 = 1 := by kernel_rfl
theorem cellsF : Try.prog.cellsOf 23 = 2 := by kernel_rfl
theorem cellsD : Try.prog.cellsOf 28 = 3 := by kernel_rfl
theorem cellsN : Try.prog.cellsOf 26 = 1 := by kernel_rfl
theorem cellsS : Try.prog.cellsOf 24 = 1 := by kernel_rfl
theorem bytes4 : Try.prog.bytesOf 52 = 4 := by kernel_rfl
theorem laidOut : laidOutB Try.prog = true := by kernel_rfl
theorem readsF : Try.prog.readableRec 23 = true := by kernel_rfl
theorem readsD : Try.prog.readableRec 28 = true := by kernel_rfl
theorem rowF : 23 < Try.prog.types.size := of_decide_eq_true (by kernel_rfl)
theorem rowD : 28 < Try.prog.types.size := of_decide_eq_true (by kernel_rfl)

/-- A number by value, opened: it reads as limbs. -/
theorem open_nat {H : Type} {enc : TypeId × Value → H} {w : World} {m : Nat} {v : Value} {y : DataW H × List MemPlace} (h : DataW.trod enc Try.prog w 0 (fun _ => true) true m 26 [v] = some y)
    : ∃ (ao : Option Addr) (len cap : Nat) (xs : List Nat) (el sp : List (DataW H)), v = .slice ao len cap ∧ Sl w ao len cap xs ∧ (y.1 = .agg [.nil] ∧ cap = 0 ∨ y.1 = .agg [.slice el sp] ∧ el.length + sp.length = cap) := by
  obtain ⟨y0, k, hy, _, h0⟩ := trod_struct1 Try.underlying26 h
  have h1 : DataW.trod enc Try.prog w 0 (fun _ => true) true k 24 [v] = some y0 := by simpa [cellsS] using h0
  rcases open_ints Try.underlying24 Try.underlying52 cells1 h1 with ⟨hcs, hx⟩ | ⟨a, len, cap, zs, hcs, _, hl, hm, hz, hx, hcell, hwz⟩
  · simp only [List.cons.injEq, and_true] at hcs
    subst hcs
    exact ⟨none, 0, 0, [], [], [], rfl, sl_nil w, .inl ⟨by rw [hy, hx], rfl⟩⟩
  · simp only [List.cons.injEq, and_true] at hcs
    subst hcs
    simp only [if_true] at hz
    exact ⟨some a, len, cap, _, lits .u32 (zs.take len), lits .u32 (zs.drop len), rfl, sl_of_ints hl hm hz hcell hwz, .inr ⟨by rw [hy, hx], by simp [lits]; omega⟩⟩

set_option maxRecDepth 100000 in
theorem lifted (os : Os) (started : os.Started) (H : Type) (enc : TypeId × Value → H) :
    ReturnsInHanded {} Try.checked os 3 .any (Rows.exactBitsSpec.pre6 enc Try.prog Try.f3 Rows.exactBitsRow.domain false) (Rows.exactBitsSpec.post enc Try.prog Try.f3 false true false false) := by
  refine returnsInHanded_of_change_sized (C := Try.checked) own started (by kernel_rfl) Try.func3
    (ChangeSpec.witness6 (enc := enc) (C := Try.checked) false ⟨#[], #[.agg #[.int .i64 0, .int .i64 0], .agg #[.bool false, .slice none 0 0, .int .i64 0]], []⟩ 8 (by kernel_rfl) (by kernel_rfl) (by kernel_rfl) (by kernel_rfl)) ?_
  intro W base args ds gs before hval0 hW _ hsz0 _
  have hsz : (DataW.weightsEach Try.prog (Try.f3.params.toList ++ Rows.exactBitsSpec.plain.varTypes Try.prog) (ds ++ gs)).all (· ≤ reachBytes) = true := hsz0
  clear hsz0
  have hval : ∀ (j : Nat) t v, Try.f3.params[j]? = some t → args[j]? = some v → Value.okWide Try.prog W .any base t v := hval0
  have hW' := hW
  obtain ⟨p, q, hA0, hV, rfl, _, _⟩ := hW
  have hA : DataW.TrodAll enc Try.prog W 0 (fun _ => true) true Try.f3.params.toList args.toList ds p := hA0
  rw [Try.params3] at hA hval hsz
  obtain ⟨v0, v1, d0, d1, p0, p1, rfl, rfl, rfl, h0, h1⟩ := trodAll_two hA
  obtain ⟨rfl, rfl⟩ := trodVars_none hV
  have k0 := h0
  have k1 := h1
  obtain ⟨a0, a1, y0, y1, m, rfl, rfl, rfl, hy0, hy1⟩ := open_agg2 Try.underlying23 (by kernel_rfl) cellsF (hval 0 23 v0 rfl rfl) h0
  obtain ⟨b0, b1, b2, z0, z1, z2, m2, rfl, rfl, rfl, hz0, hz1, hz2⟩ := open_agg3 Try.underlying28 (by kernel_rfl) cellsD (hval 1 28 v1 rfl rfl) h1
  obtain ⟨e, he, hye, _⟩ := DataW.trod_int Try.underlying3 hy0
  obtain ⟨f, hf, hyf, _⟩ := DataW.trod_int Try.underlying3 hy1
  obtain ⟨neg, hneg, hzn⟩ := DataW.trod_bool Try.underlying4 hz0
  obtain ⟨x, hx, hzx, _⟩ := DataW.trod_int Try.underlying3 hz2
  obtain ⟨ao, n, c, xs, el, sl, rfl, hS, hd⟩ := open_nat hz1
  simp only [List.cons.injEq, and_true] at he hf hneg hx
  subst he; subst hf; subst hneg; subst hx
  have hn : n + 3 ≤ 35184372088832 := by
    have h1 : (DataW.weightsEach Try.prog [23, 28] [DataW.agg [y0.1, y1.1], DataW.agg [z0.1, z1.1, z2.1]]).all (fun x => decide (x ≤ reachBytes)) = true := hsz
    have := hS.le
    rcases hd with ⟨hd, hc0⟩ | ⟨hd, hc0⟩
    · omega
    · rw [hye, hyf, hzn, hd, hzx] at h1
      simp [DataW.weightsEach, DataW.weights, Try.underlying23, Try.underlying28, Try.underlying26, Try.underlying24, bytes4, hc0, reachBytes] at h1
      have h2 := of_decide_eq_true h1.1
      omega
  refine (law_any e f neg ao n c x xs W hS hn).mono fun en W' ⟨he, hb⟩ => ?_
  subst he
  have hlt : ∀ p ∈ y0.2 ++ y1.2 ++ (z0.2 ++ (z1.2 ++ z2.2)), p.block < W.heap.size := fun p hp => hW'.lt p (by simpa using hp)
  exact ⟨_, rfl, post_below (pa := y0.2 ++ y1.2 ++ (z0.2 ++ (z1.2 ++ z2.2))) (pv := []) hW' (fun _ _ _ => trodAll_mk1 (shut_bool Try.underlying4 true))
    (fun sp hsp => trodAll_mk2 (WideElems.Trod_stays laidOut readsF rowF k0 (fun p hp => hb.same (hlt p (List.mem_append_left _ hp))) (fun p hp => hsp p (List.mem_append_left _ (List.mem_append_left _ hp))))
      (WideElems.Trod_stays laidOut readsD rowD k1 (fun p hp => hb.same (hlt p (List.mem_append_right _ hp))) (fun p hp => hsp p (List.mem_append_left _ (List.mem_append_right _ hp)))))
    (fun _ _ => rfl) rfl hb (ok_one (by kernel_rfl) rfl (okWide_bool_mk Try.underlying4 true))⟩

theorem exactBits_holds : Rows.ExactBitsSaid :=
  OpenClaim.holds_of_wide 3 Try.f3 rfl rfl rfl rfl rfl rfl rfl ⟨rfl, rfl, rfl, rfl, rfl⟩ rfl rfl rfl rfl rfl (by kernel_rfl) Try.func3 (by kernel_rfl)
    (of_decide_eq_true (by kernel_rfl)) (by unfold Func.isWrapper; first | (rw [if_pos (by decide +kernel)]; kernel_rfl) | (rw [if_neg (by decide +kernel)]; exact ⟨rfl, rfl⟩))
    (fun os started H enc _ => lifted os started H enc)
#print axioms exactBits_holds

end Go.Proofs.Ytaanaacgkioagaa
