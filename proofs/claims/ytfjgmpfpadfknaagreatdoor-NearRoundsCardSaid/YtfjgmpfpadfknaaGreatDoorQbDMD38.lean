/-
  Contract: big's Mul onto its own first number. Its one region draws its order, and its last call writes what its loads read:
  a law for that: the condition on the world need not stand behind the one call for which all the loads are waited.
-/
import Derived.Test.YtfjgmpfpadfknaaGreatDoorQbDMD34
import Derived.Test.YtfjgmpfpadfknaaGreatDoorQbDMD37
namespace Go.Proofs.YtfjgmpfpadfknaaGreatDoor

open Go.RowKit Go.Lb

attribute [local go_sem] Go.World.cell?_alloc_some

set_option maxRecDepth 100000 in
set_option maxHeartbeats 3000000 in
theorem bgRMulX_any (b base B1 B2 b2 : Nat) (x y : Rat) (w : World) (hbb : base ≤ b) (h1 : Rq 75 w B1 b x) (h2 : Rq 75 w B2 b2 y) (l1 : ln x.num.natAbs ≤ 67108864) (l2 : ln x.den ≤ 67108864) (l3 : ln y.num.natAbs ≤ 67108864) (l4 : ln y.den ≤ 67108864) (hT : Tab w) :
    Calls Tryz.prog 102 #[.pointer (some ⟨b, 0, none⟩), .pointer (some ⟨b, 0, none⟩), .pointer (some ⟨b2, 0, none⟩)] w (StQ 75 b base (x * y) w) := by
  have H1 := h1
  have H2 := h2
  have hr := h1.res
  obtain ⟨⟨a1, n1, c1, i1⟩, _, _⟩ := h1
  obtain ⟨⟨a2, n2, c2, i2⟩, _, _⟩ := h2
  have hn1 : n1 ≤ 67108864 := by rw [i1.len]; exact l1
  have hn2 : n2 ≤ 67108864 := by rw [i2.len]; exact l3
  have hR : ∀ W a3 a4 n3 n4 c3 c4, Below w.heap.size w W → Sl W a3 n3 c3 (limbs x.den) → Sl W a4 n4 c4 (limbs y.den) →
      Calls Tryz.prog 153 #[.pointer (some ⟨b, 0, none⟩), .bool (!(decide (x.num < 0) == decide (y.num < 0))), .slice a1 n1 c1, .slice a3 n3 c3, .slice a2 n2 c2, .slice a4 n4 c4] W (StQ 75 b base (x * y) W) := fun W a3 a4 n3 n4 c3 c4 hW s3 s4 => by
    have := bgTimes_any b base (decide (x.num < 0) != decide (y.num < 0)) a1 a3 a2 a4 n1 n3 n2 n4 c1 c3 c2 c4 x.num.natAbs x.den y.num.natAbs y.den W (hr.stay hW) hbb (i1.stay hW).fr.sl s3 (i2.stay hW).fr.sl s4 (rat_cop x) (rat_cop y) y.den_nz x.den_nz hn1 (by rw [← s3.len]; exact l2) hn2 (by rw [← s4.len]; exact l4) (hT.below hW)
    rw [mul_mk x y] at this
    exact this
  have hB1 : ∀ W, Below w.heap.size w W → Calls Tryz.prog 137 #[.pointer (some ⟨b, 0, none⟩)] W fun e w' => ∃ ao k c, e = .returned (.slice ao k c) ∧ Sl w' ao k c (limbs x.den) ∧ Below W.heap.size W w' := fun W hW => bgRbelow_any b B1 _ _ _ W (Ra.stay H1 hW)
  have hB2 : ∀ W, Below w.heap.size w W → Calls Tryz.prog 137 #[.pointer (some ⟨b2, 0, none⟩)] W fun e w' => ∃ ao k c, e = .returned (.slice ao k c) ∧ Sl w' ao k c (limbs y.den) ∧ Below W.heap.size W w' := fun W hW => bgRbelow_any b2 B2 _ _ _ W (Ra.stay H2 hW)
  have x0 := i1.c0
  have x1 := i1.c1
  have y0 := i2.c0
  have y1 := i2.c1
  clear l1 l2 l3 l4 hT hbb hn1 hn2 i1 i2
  generalize decide (x.num < 0) = s1 at *
  generalize decide (y.num < 0) = s2 at *
  clear H1 H2 hr
  go_enter Tryz.func102, Tryz.ntmps102
  go_wp2
  refine till_region (fun w' => w'.cell? ⟨b, 0, none⟩ = some (.bool s1) ∧ w'.cell? ⟨b, 1, none⟩ = some (.slice a1 n1 c1) ∧ w'.cell? ⟨b2, 0, none⟩ = some (.bool s2) ∧ w'.cell? ⟨b2, 1, none⟩ = some (.slice a2 n2 c2)) 26 (by kernel_rfl) ⟨by simpa using x0, by simpa using x1, by simpa using y0, by simpa using y1⟩ (fun hS => ?_)
  refine till_take (i := 0) (v := ?_) [0, 26] rfl (by kernel_rfl) (by kernel_rfl) (by kernel_rfl) (by kernel_rfl) (fun _ _ _ h => h) (Or.inl ⟨by rfl, ?_⟩) hS ?_
  case refine_2 => (intro w hSw; go_split_ands; go_simp; try with_reducible rfl)
  simp only [List.getElem_toArray, List.getElem_cons_zero, Act.put, List.setIfInBounds_toArray, List.set_cons_zero, List.set_cons_succ]
  refine till_take (i := 1) (v := ?_) [1, 2, 3, 4, 5, 11, 26] rfl (by kernel_rfl) (by kernel_rfl) (by kernel_rfl) (by kernel_rfl) (fun _ _ _ h => h) (Or.inl ⟨by rfl, ?_⟩) hS ?_
  case refine_2 => (intro w hSw; go_split_ands; go_simp; try with_reducible rfl)
  simp only [List.getElem_toArray, List.getElem_cons_zero, List.getElem_cons_succ, Act.put, List.setIfInBounds_toArray, List.set_cons_zero, List.set_cons_succ]
  refine till_take (i := 2) (v := ?_) [2, 3, 4, 5, 11, 26] rfl (by kernel_rfl) (by kernel_rfl) (by kernel_rfl) (by kernel_rfl) (fun _ _ _ h => h) (Or.inl ⟨by rfl, ?_⟩) hS ?_
  case refine_2 => (intro w hSw; go_split_ands; go_simp; try with_reducible rfl)
  simp only [List.getElem_toArray, List.getElem_cons_zero, List.getElem_cons_succ, Act.put, List.setIfInBounds_toArray, List.set_cons_zero, List.set_cons_succ]
  refine till_take (i := 3) (v := ?_) [3, 4, 5, 11, 26] rfl (by kernel_rfl) (by kernel_rfl) (by kernel_rfl) (by kernel_rfl) (fun _ _ _ h => h) (Or.inl ⟨by rfl, ?_⟩) hS ?_
  case refine_2 => (intro w hSw; go_split_ands; go_simp; try with_reducible rfl)
  simp only [List.getElem_toArray, List.getElem_cons_zero, List.getElem_cons_succ, Act.put, List.setIfInBounds_toArray, List.set_cons_zero, List.set_cons_succ]
  refine till_take (i := 4) (v := ?_) [4, 5, 11, 26] rfl (by kernel_rfl) (by kernel_rfl) (by kernel_rfl) (by kernel_rfl) (fun _ _ _ h => h) (Or.inl ⟨by rfl, ?_⟩) hS ?_
  case refine_2 => (intro w hSw; go_split_ands; go_simp; try with_reducible rfl)
  simp only [List.getElem_toArray, List.getElem_cons_zero, List.getElem_cons_succ, Act.put, List.setIfInBounds_toArray, List.set_cons_zero, List.set_cons_succ]
  refine till_take (i := 5) (v := ?_) [5, 11, 26] rfl (by kernel_rfl) (by kernel_rfl) (by kernel_rfl) (by kernel_rfl) (fun _ _ _ h => h) (Or.inl ⟨by rfl, ?_⟩) hS ?_
  case refine_2 => (intro w hSw; go_split_ands; go_simp; try with_reducible rfl)
  simp only [List.getElem_toArray, List.getElem_cons_zero, List.getElem_cons_succ, Act.put, List.setIfInBounds_toArray, List.set_cons_zero, List.set_cons_succ]
  refine till_take (i := 6) (v := ?_) [6, 7, 8, 9, 10, 11, 26] rfl (by kernel_rfl) (by kernel_rfl) (by kernel_rfl) (by kernel_rfl) (fun _ _ _ h => h) (Or.inl ⟨by rfl, ?_⟩) hS ?_
  case refine_2 => (intro w hSw; go_split_ands; go_simp; try with_reducible rfl)
  simp only [List.getElem_toArray, List.getElem_cons_zero, List.getElem_cons_succ, Act.put, List.setIfInBounds_toArray, List.set_cons_zero, List.set_cons_succ]
  refine till_take (i := 7) (v := ?_) [7, 8, 9, 10, 11, 26] rfl (by kernel_rfl) (by kernel_rfl) (by kernel_rfl) (by kernel_rfl) (fun _ _ _ h => h) (Or.inl ⟨by rfl, ?_⟩) hS ?_
  case refine_2 => (intro w hSw; go_split_ands; go_simp; try with_reducible rfl)
  simp only [List.getElem_toArray, List.getElem_cons_zero, List.getElem_cons_succ, Act.put, List.setIfInBounds_toArray, List.set_cons_zero, List.set_cons_succ]
  refine till_take (i := 8) (v := ?_) [8, 9, 10, 11, 26] rfl (by kernel_rfl) (by kernel_rfl) (by kernel_rfl) (by kernel_rfl) (fun _ _ _ h => h) (Or.inl ⟨by rfl, ?_⟩) hS ?_
  case refine_2 => (intro w hSw; go_split_ands; go_simp; try with_reducible rfl)
  simp only [List.getElem_toArray, List.getElem_cons_zero, List.getElem_cons_succ, Act.put, List.setIfInBounds_toArray, List.set_cons_zero, List.set_cons_succ]
  refine till_take (i := 9) (v := ?_) [9, 10, 11, 26] rfl (by kernel_rfl) (by kernel_rfl) (by kernel_rfl) (by kernel_rfl) (fun _ _ _ h => h) (Or.inl ⟨by rfl, ?_⟩) hS ?_
  case refine_2 => (intro w hSw; go_split_ands; go_simp; try with_reducible rfl)
  simp only [List.getElem_toArray, List.getElem_cons_zero, List.getElem_cons_succ, Act.put, List.setIfInBounds_toArray, List.set_cons_zero, List.set_cons_succ]
  refine till_take (i := 10) (v := ?_) [10, 11, 26] rfl (by kernel_rfl) (by kernel_rfl) (by kernel_rfl) (by kernel_rfl) (fun _ _ _ h => h) (Or.inl ⟨by rfl, ?_⟩) hS ?_
  case refine_2 => (intro w hSw; go_split_ands; go_simp; try with_reducible rfl)
  simp only [List.getElem_toArray, List.getElem_cons_zero, List.getElem_cons_succ, Act.put, List.setIfInBounds_toArray, List.set_cons_zero, List.set_cons_succ]
  refine till_take (i := 11) (v := ?_) [11, 26] rfl (by kernel_rfl) (by kernel_rfl) (by kernel_rfl) (by kernel_rfl) (fun _ _ _ h => h) (Or.inl ⟨by rfl, ?_⟩) hS ?_
  case refine_2 => (intro w hSw; go_split_ands; go_simp; try with_reducible rfl)
  simp only [List.getElem_toArray, List.getElem_cons_zero, List.getElem_cons_succ, Act.put, List.setIfInBounds_toArray, List.set_cons_zero, List.set_cons_succ]
  refine till_take (i := 12) (v := ?_) [12, 13, 14, 15, 16, 26] rfl (by kernel_rfl) (by kernel_rfl) (by kernel_rfl) (by kernel_rfl) (fun _ _ _ h => h) (Or.inl ⟨by rfl, ?_⟩) hS ?_
  case refine_2 => (intro w hSw; go_split_ands; go_simp; try with_reducible rfl)
  simp only [List.getElem_toArray, List.getElem_cons_zero, List.getElem_cons_succ, Act.put, List.setIfInBounds_toArray, List.set_cons_zero, List.set_cons_succ]
  refine till_take (i := 13) (v := ?_) [13, 14, 15, 16, 26] rfl (by kernel_rfl) (by kernel_rfl) (by kernel_rfl) (by kernel_rfl) (fun _ _ _ h => h) (Or.inl ⟨by rfl, ?_⟩) hS ?_
  case refine_2 => (intro w hSw; go_split_ands; go_simp; try with_reducible rfl)
  simp only [List.getElem_toArray, List.getElem_cons_zero, List.getElem_cons_succ, Act.put, List.setIfInBounds_toArray, List.set_cons_zero, List.set_cons_succ]
  refine till_take (i := 14) (v := ?_) [14, 15, 16, 26] rfl (by kernel_rfl) (by kernel_rfl) (by kernel_rfl) (by kernel_rfl) (fun _ _ _ h => h) (Or.inl ⟨by rfl, ?_⟩) hS ?_
  case refine_2 => (intro w hSw; go_split_ands; go_simp; try with_reducible rfl)
  simp only [List.getElem_toArray, List.getElem_cons_zero, List.getElem_cons_succ, Act.put, List.setIfInBounds_toArray, List.set_cons_zero, List.set_cons_succ]
  refine till_take (i := 15) (v := ?_) [15, 16, 26] rfl (by kernel_rfl) (by kernel_rfl) (by kernel_rfl) (by kernel_rfl) (fun _ _ _ h => h) (Or.inl ⟨by rfl, ?_⟩) hS ?_
  case refine_2 => (intro w hSw; go_split_ands; go_simp; try with_reducible rfl)
  simp only [List.getElem_toArray, List.getElem_cons_zero, List.getElem_cons_succ, Act.put, List.setIfInBounds_toArray, List.set_cons_zero, List.set_cons_succ]
  refine till_take (i := 16) (v := ?_) [16, 26] rfl (by kernel_rfl) (by kernel_rfl) (by kernel_rfl) (by kernel_rfl) (fun _ _ _ h => h) (Or.inl ⟨by rfl, ?_⟩) hS ?_
  case refine_2 => (intro w hSw; go_split_ands; go_simp; try with_reducible rfl)
  simp only [List.getElem_toArray, List.getElem_cons_zero, List.getElem_cons_succ, Act.put, List.setIfInBounds_toArray, List.set_cons_zero, List.set_cons_succ]
  refine till_take (i := 17) (v := ?_) [17, 18, 26] rfl (by kernel_rfl) (by kernel_rfl) (by kernel_rfl) (by kernel_rfl) (fun _ _ _ h => h) (Or.inl ⟨by rfl, ?_⟩) hS ?_
  case refine_2 => (intro w hSw; go_split_ands; go_simp; try with_reducible rfl)
  simp only [List.getElem_toArray, List.getElem_cons_zero, List.getElem_cons_succ, Act.put, List.setIfInBounds_toArray, List.set_cons_zero, List.set_cons_succ]
  refine till_take (i := 19) (v := ?_) [19, 20, 21, 22, 23, 26] rfl (by kernel_rfl) (by kernel_rfl) (by kernel_rfl) (by kernel_rfl) (fun _ _ _ h => h) (Or.inl ⟨by rfl, ?_⟩) hS ?_
  case refine_2 => (intro w hSw; go_split_ands; go_simp; try with_reducible rfl)
  simp only [List.getElem_toArray, List.getElem_cons_zero, List.getElem_cons_succ, Act.put, List.setIfInBounds_toArray, List.set_cons_zero, List.set_cons_succ]
  refine till_take (i := 20) (v := ?_) [20, 21, 22, 23, 26] rfl (by kernel_rfl) (by kernel_rfl) (by kernel_rfl) (by kernel_rfl) (fun _ _ _ h => h) (Or.inl ⟨by rfl, ?_⟩) hS ?_
  case refine_2 => (intro w hSw; go_split_ands; go_simp; try with_reducible rfl)
  simp only [List.getElem_toArray, List.getElem_cons_zero, List.getElem_cons_succ, Act.put, List.setIfInBounds_toArray, List.set_cons_zero, List.set_cons_succ]
  refine till_take (i := 21) (v := ?_) [21, 22, 23, 26] rfl (by kernel_rfl) (by kernel_rfl) (by kernel_rfl) (by kernel_rfl) (fun _ _ _ h => h) (Or.inl ⟨by rfl, ?_⟩) hS ?_
  case refine_2 => (intro w hSw; go_split_ands; go_simp; try with_reducible rfl)
  simp only [List.getElem_toArray, List.getElem_cons_zero, List.getElem_cons_succ, Act.put, List.setIfInBounds_toArray, List.set_cons_zero, List.set_cons_succ]
  refine till_take (i := 22) (v := ?_) [22, 23, 26] rfl (by kernel_rfl) (by kernel_rfl) (by kernel_rfl) (by kernel_rfl) (fun _ _ _ h => h) (Or.inl ⟨by rfl, ?_⟩) hS ?_
  case refine_2 => (intro w hSw; go_split_ands; go_simp; try with_reducible rfl)
  simp only [List.getElem_toArray, List.getElem_cons_zero, List.getElem_cons_succ, Act.put, List.setIfInBounds_toArray, List.set_cons_zero, List.set_cons_succ]
  refine till_take (i := 23) (v := ?_) [23, 26] rfl (by kernel_rfl) (by kernel_rfl) (by kernel_rfl) (by kernel_rfl) (fun _ _ _ h => h) (Or.inl ⟨by rfl, ?_⟩) hS ?_
  case refine_2 => (intro w hSw; go_split_ands; go_simp; try with_reducible rfl)
  simp only [List.getElem_toArray, List.getElem_cons_zero, List.getElem_cons_succ, Act.put, List.setIfInBounds_toArray, List.set_cons_zero, List.set_cons_succ]
  refine till_take (i := 24) (v := ?_) [24, 25, 26] rfl (by kernel_rfl) (by kernel_rfl) (by kernel_rfl) (by kernel_rfl) (fun _ _ _ h => h) (Or.inl ⟨by rfl, ?_⟩) hS ?_
  case refine_2 => (intro w hSw; go_split_ands; go_simp; try with_reducible rfl)
  simp only [List.getElem_toArray, List.getElem_cons_zero, List.getElem_cons_succ, Act.put, List.setIfInBounds_toArray, List.set_cons_zero, List.set_cons_succ]
  refine till_step (i := 18) (by kernel_rfl) rfl (by decide) (fun K hK => ?_)
  simp only [List.getElem_toArray, List.getElem_cons_zero, List.getElem_cons_succ]
  go_simp
  go_at_call 137
  with_reducible refine (hB1 _ ?_).mono ?_
  · first | exact Below.refl _ _ | exact (Below.refl _ _).drew
  rintro en wA ⟨a3, n3, c3, rfl, s3, hbB⟩
  have hWA : Below w.heap.size w wA := by first | exact hbB | exact undrew hbB
  try go_wp2_with fail
  refine hK.out _ _ ⟨cellStay x0 hWA, cellStay x1 hWA, cellStay y0 hWA, cellStay y1 hWA⟩ ?_
  clear hK K hS
  refine till_step (i := 25) (by kernel_rfl) rfl (by decide) (fun K hK => ?_)
  simp only [List.getElem_toArray, List.getElem_cons_zero, List.getElem_cons_succ]
  go_simp
  go_at_call 137
  with_reducible refine (hB2 _ hWA).mono ?_
  rintro en wB ⟨a4, n4, c4, rfl, s4, hbC⟩
  have hWB := next hWA hbC
  have s3B := s3.below hbC
  try go_wp2_with fail
  refine hK.out _ _ ⟨cellStay x0 hWB, cellStay x1 hWB, cellStay y0 hWB, cellStay y1 hWB⟩ ?_
  clear hK K
  refine till_last (by kernel_rfl) rfl (fun K hK => ?_)
  simp only [List.getElem_toArray, List.getElem_cons_zero, List.getElem_cons_succ]
  go_simp
  go_at_call 153
  with_reducible refine (hR _ a3 a4 n3 n4 c3 c4 hWB s3B s4).mono ?_
  rintro en wC ⟨rfl, hRa, hgB⟩
  try go_wp2_with fail
  refine hK.out _ _ ?_
  clear hK K
  refine wpAny_take (i := 27) (v := ?_) rfl (by kernel_rfl) (by kernel_rfl) (by kernel_rfl) (fun _ _ _ h => h) (Or.inl ⟨by rfl, ?_⟩) ?_
  case refine_2 => (intro w; go_simp; try with_reducible rfl)
  simp only [List.getElem_toArray, List.getElem_cons_zero, List.getElem_cons_succ, Act.put, List.setIfInBounds_toArray, List.set_cons_zero, List.set_cons_succ]
  refine wpAny_done (by kernel_rfl) ?_ _
  go_wp2
  go_ret
  exact ⟨rfl, hRa, grown_trans (grown_below hWB _) hgB⟩

end Go.Proofs.YtfjgmpfpadfknaaGreatDoor

/-
  Contract: ratio.Scale by ten and by a tenth, of what may be.
-/
namespace Go.Proofs.YtfjgmpfpadfknaaGreatDoor

open Go.RowKit Go.Lb

attribute [local go_sem] Go.World.cell?_alloc_some

/-- An answered fraction, by its worth. -/
def RtnW (q : Rat) (w : World) (en : Ending) (w' : World) : Prop :=
  ∃ a1 n1 c1 a2 n2 c2, en = .returned (.tuple #[.agg #[.bool (decide (q.num < 0)), .slice a1 n1 c1, .slice a2 n2 c2], .int .i64 0]) ∧ Fr 75 w' w.heap.size a1 n1 c1 (limbs q.num.natAbs) ∧ Fr 75 w' w.heap.size a2 n2 c2 (limbs q.den) ∧ Below w.heap.size w w'

theorem res_row {w w' : World} {b p : Nat} (h : Res3 w b) (hg : w.grownBy w' (some p)) (h1 : b ≠ p) : Res3 w' b := by
  have hb : w'.heap[b]? = w.heap[b]? := hg.block b h.lt (fun e => h1 (by cases e; rfl))
  obtain ⟨c0, c1, c2, z0, z1, z2⟩ := h
  exact Res3.ofs ((World.cell?_of_block hb).trans c0) ((World.cell?_of_block hb).trans c1) ((World.cell?_of_block hb).trans c2) ((World.frozen?_of_block hb).trans z0) ((World.frozen?_of_block hb).trans z1) ((World.frozen?_of_block hb).trans z2)

theorem sgQ_zero (s : Bool) {D : Nat} (hs : s = true → (0 : Nat) ≠ 0) : sgQ' s 0 D = 0 := by
  unfold sgQ'
  cases s
  · simp
  · exact absurd rfl (hs rfl)

end Go.Proofs.YtfjgmpfpadfknaaGreatDoor

