/-
  A law for a region that draws its order and whose last call writes what its loads read: the condition on the world need not
  stand behind the one call for which all the loads are waited.
-/
import Derived.Deep.RegionHeld3
import Derived.Test.YtklibjdhlmdkpaaGreatDoorQbIBase
import Derived.Test.YtklibjdhlmdkpaaGreatDoorQbINbU
import Derived.Test.YtklibjdhlmdkpaaGreatDoorQbIMI18
import Derived.Test.YtklibjdhlmdkpaaGreatDoorQbIRdD
namespace Go.Proofs.YtklibjdhlmdkpaaGreatDoor

open Go.RowKit Go.Lb

section

variable {P : Program} {ops : Array Oper} {Q : Exit → Act → World → Prop} {md : Region.Mode} {S : World → Prop} {t : Nat}

/-- Whatever order is picked from here on; S holds behind each operation that is carried out ahead of number t. -/
def tillT (P : Program) (md : Region.Mode) (ops : Array Oper) (Q : Exit → Act → World → Prop) (S : World → Prop) (t : Nat) : Nat → Array Bool → Act → World → Prop
  | 0, listed, a, w => Region.ready md ops listed = [] ∧ Q .normal a w
  | fuel + 1, listed, a, w =>
    (Region.ready md ops listed = [] → Q .normal a w) ∧
    ∀ i ∈ Region.ready md ops listed, wpOp P ops Q i (fun a' w' => (i = t → wpAny P md ops Q fuel (listed.setIfInBounds i true) a' w') ∧ (i ≠ t → S w' ∧ tillT P md ops Q S t fuel (listed.setIfInBounds i true) a' w')) a w

theorem any_of_till : ∀ (fuel : Nat) (listed : Array Bool) (a : Act) (w : World), tillT P md ops Q S t fuel listed a w → wpAny P md ops Q fuel listed a w
  | 0, _, _, _, h => h
  | fuel + 1, _, _, _, h => ⟨h.1, fun i hi => wpOp_mono (fun a' w' h' => by
      by_cases e : i = t
      · exact h'.1 e
      · exact any_of_till fuel _ a' w' (h'.2 e).2) (h.2 i hi)⟩

/-- Number j waits for number d. -/
def waitsB (md : Region.Mode) (ops : Array Oper) (j d : Nat) : Bool := match ops[j]? with
  | some o => o.after.any fun e => Region.binds md e && e.on == d
  | none => false

/-- All of C wait, one for the other, for number i; number t is among them. -/
def barred (md : Region.Mode) (ops : Array Oper) (listed : Array Bool) (i t : Nat) (C : List Nat) : Bool :=
  C.contains t && (i != t) && C.all fun c => !listed.getD c true && (c == i || C.any fun d => waitsB md ops c d)

theorem not_ready {listed : Array Bool} {i j : Nat} {C : List Nat} (hsta : ∀ c ∈ C, c ≠ i → ∃ d ∈ C, waitsB md ops c d = true) (hun : ∀ c ∈ C, listed.getD c true = false) (hj : j ∈ Region.ready md ops listed) (hji : j ≠ i) : j ∉ C := fun hC => by
  obtain ⟨d, hd, hw⟩ := hsta j hC hji
  obtain ⟨_, o, ho, hall⟩ := mem_ready.1 hj
  unfold waitsB at hw
  rw [ho] at hw
  obtain ⟨k, hk, he⟩ := Array.any_eq_true.1 hw
  rw [Bool.and_eq_true] at he
  have h1 := hall _ (Array.getElem_mem hk) he.1
  rw [beq_iff_eq.1 he.2] at h1
  have h0 := hun d hd
  rcases Nat.lt_or_ge d listed.size with h' | h'
  · simp [h'] at h0 h1; rw [h0] at h1; cases h1
  · simp [Array.getElem?_eq_none h'] at h1

theorem till_first {i : Nat} {oi : Oper} {v : Value} {C : List Nat} (hi : ops[i]? = some oi) (hsel : ∀ (j : Nat) (o : Oper) cs b, ops[j]? = some o → o.op ≠ .select cs b)
    (hQ : ∀ c a w, Q (.panic c) (a.put oi.dst v) w → Q (.panic c) a w) (hsta : ∀ c ∈ C, c ≠ i → ∃ d ∈ C, waitsB md ops c d = true) (htC : t ∈ C) (hit : i ≠ t) :
    ∀ (fuel : Nat) (listed : Array Bool) (a : Act) (w : World),
      (∀ j oj, ops[j]? = some oj → j ≠ i → listed.getD j true = false → (∀ e ∈ oj.after, Region.binds md e = true → e.on ≠ i) → oi.apart ops oj = true) →
      (∀ c ∈ C, listed.getD c true = false) →
      i ∈ Region.ready md ops listed → YieldsIf P ops S oi v a → S w →
      tillT P md ops Q S t fuel (listed.setIfInBounds i true) (a.put oi.dst v) w → tillT P md ops Q S t (fuel + 1) listed a w := by
  intro fuel
  induction fuel with
  | zero =>
    intro listed a w _ _ hr hy hS H
    refine ⟨fun h => (by rw [h] at hr; cases hr), fun j hj => ?_⟩
    by_cases hji : j = i
    · subst hji; exact hy.wpOp hi hS ⟨fun e => absurd e hit, fun _ => ⟨hS, H⟩⟩
    · have := ready_mono hj hji
      rw [H.1] at this
      cases this
  | succ fuel ih =>
    intro listed a w hfree hun hr hy hS H
    refine ⟨fun h => (by rw [h] at hr; cases hr), fun j hj => ?_⟩
    by_cases hji : j = i
    · subst hji; exact hy.wpOp hi hS ⟨fun e => absurd e hit, fun _ => ⟨hS, H⟩⟩
    · have hjC := not_ready hsta hun hj hji
      have hjt : j ≠ t := fun e => hjC (e ▸ htC)
      have h1 := wpOp_mono (fun a' w' h => h.2 hjt) (H.2 j (ready_mono hj hji))
      obtain ⟨hjun, oj, hoj, hall⟩ := mem_ready.1 hj
      have hnot : ∀ e ∈ oj.after, Region.binds md e = true → e.on ≠ i := fun e he hb heq => by
        have h1 := hall e he hb
        have h0 := (mem_ready.1 hr).1
        rw [heq] at h1
        rcases Nat.lt_or_ge i listed.size with h' | h'
        · simp [h'] at h0 h1; rw [h0] at h1; cases h1
        · simp [Array.getElem?_eq_none h'] at h1
      have h2 := wpOp_putIf hoj (hfree j oj hoj hji hjun hnot) (fun cs b => hsel i oi cs b hi) (fun cs b => hsel j oj cs b hoj) hQ hy h1
      have hfree' : ∀ k ok, ops[k]? = some ok → k ≠ i → (listed.setIfInBounds j true).getD k true = false →
          (∀ e ∈ ok.after, Region.binds md e = true → e.on ≠ i) → oi.apart ops ok = true := fun k ok hk hki hun hno => by
        refine hfree k ok hk hki ?_ hno
        by_cases hjk : j = k
        · subst hjk; exact hjun
        · rw [getD_set_ne true hjk] at hun; exact hun
      have hun' : ∀ c ∈ C, (listed.setIfInBounds j true).getD c true = false := fun c hc => by
        have hjc : j ≠ c := fun e => hjC (by rw [e]; exact hc)
        rw [getD_set_ne true hjc]
        exact hun c hc
      refine wpOp_mono (fun a' w' h3 => ⟨fun e => absurd e hjt, fun _ => ⟨h3.2.1, ih (listed.setIfInBounds j true) a' w' hfree' hun' (ready_mono hr (Ne.symm hji)) h3.1 h3.2.1 ?_⟩⟩) h2
      rw [Array.setIfInBounds_comm _ _ hji]
      exact h3.2.2

theorem till_take {i : Nat} (C : List Nat) {oi : Oper} {v : Value} {fuel : Nat} {listed : Array Bool} {a : Act} {w : World} (hi : ops[i]? = some oi)
    (hs : Region.noSelect ops = true) (hf : Region.free md ops listed i = true) (hr : (Region.ready md ops listed).contains i = true) (hb : barred md ops listed i t C = true)
    (hQ : ∀ c a w, Q (.panic c) (a.put oi.dst v) w → Q (.panic c) a w) (hy : YieldsIf P ops S oi v a) (hS : S w)
    (h : tillT P md ops Q S t fuel (listed.setIfInBounds i true) (a.put oi.dst v) w) : tillT P md ops Q S t (fuel + 1) listed a w := by
  unfold barred at hb
  rw [Bool.and_eq_true, Bool.and_eq_true] at hb
  obtain ⟨⟨b1, b2⟩, b3⟩ := hb
  have b4 : ∀ c ∈ C, listed.getD c true = false ∧ (c = i ∨ ∃ d ∈ C, waitsB md ops c d = true) := fun c hc => by
    have := List.all_eq_true.1 b3 c hc
    rw [Bool.and_eq_true, Bool.or_eq_true, beq_iff_eq, List.any_eq_true] at this
    exact ⟨by simpa using this.1, this.2⟩
  exact till_first hi (Region.noSelect_spec hs) hQ (fun c hc h => (b4 c hc).2.resolve_left h) (by simpa using b1) (by simpa using b2) fuel listed a w (Region.free_spec hi hf) (fun c hc => (b4 c hc).1) (by simpa using hr) hy hS h

theorem till_step {i : Nat} {o : Oper} {fuel : Nat} {listed : Array Bool} {a : Act} {w : World} (hr : Region.ready md ops listed = [i]) (ho : ops[i]? = some o) (hit : i ≠ t)
    (h : ∀ K' : Act → World → Prop, Shut (∀ a w, S w → tillT P md ops Q S t fuel (listed.setIfInBounds i true) a w → K' a w) → if Region.wanted o (yielded ops a.tmps) = true then Oper.wp P o a w K' Q else K' (a.put o.dst undef) w) :
    tillT P md ops Q S t (fuel + 1) listed a w := by
  refine ⟨fun h0 => (by rw [hr] at h0; cases h0), ?_⟩
  rw [hr]
  intro j hj
  cases List.mem_singleton.1 hj
  exact wpOp_step ho (fun K' hK => h K' (fun a w hS hW => hK a w ⟨fun e => absurd e hit, fun _ => ⟨hS, hW⟩⟩))

theorem till_last {o : Oper} {fuel : Nat} {listed : Array Bool} {a : Act} {w : World} (hr : Region.ready md ops listed = [t]) (ho : ops[t]? = some o)
    (h : ∀ K' : Act → World → Prop, Shut (∀ a w, wpAny P md ops Q fuel (listed.setIfInBounds t true) a w → K' a w) → if Region.wanted o (yielded ops a.tmps) = true then Oper.wp P o a w K' Q else K' (a.put o.dst undef) w) :
    tillT P md ops Q S t (fuel + 1) listed a w := by
  refine ⟨fun h0 => (by rw [hr] at h0; cases h0), ?_⟩
  rw [hr]
  intro j hj
  cases List.mem_singleton.1 hj
  exact wpOp_step ho (fun K' hK => h K' (fun a w hW => hK a w ⟨fun _ => hW, fun e => absurd rfl e⟩))

theorem till_region {id : Nat} {a : Act} {w : World} (S : World → Prop) (t : Nat) (hm : P.follows .mixedOrders = true) (hS : S w.drew)
    (h : S w.drew → tillT P .any ops Q S t ops.size (Array.replicate ops.size false) a w.drew) : (Code.region id ops true).wp P Q a w :=
  wp_region_any hm (any_of_till _ _ _ _ (h hS))

end

end Go.Proofs.YtklibjdhlmdkpaaGreatDoor

/-
  Contract: numeralbig's Mul onto its own first number.
-/
namespace Go.Proofs.YtklibjdhlmdkpaaGreatDoor

open Go.RowKit Go.Lb

attribute [local go_sem] Go.World.cell?_alloc_some

set_option maxRecDepth 100000 in
set_option maxHeartbeats 3000000 in
theorem nbRMulX_any (b base B1 B2 b2 : Nat) (x y : Rat) (w : World) (hbb : base ≤ b) (h1 : Rq 38 w B1 b x) (h2 : Rq 38 w B2 b2 y) (l1 : ln x.num.natAbs ≤ 67108864) (l2 : ln x.den ≤ 67108864) (l3 : ln y.num.natAbs ≤ 67108864) (l4 : ln y.den ≤ 67108864) (hT : Tab w) :
    Calls Tryz.prog 209 #[.pointer (some ⟨b, 0, none⟩), .pointer (some ⟨b, 0, none⟩), .pointer (some ⟨b2, 0, none⟩)] w (StQ 38 b base (x * y) w) := by
  have H1 := h1
  have H2 := h2
  have hr := h1.res
  obtain ⟨⟨a1, n1, c1, i1⟩, _, _⟩ := h1
  obtain ⟨⟨a2, n2, c2, i2⟩, _, _⟩ := h2
  have hn1 : n1 ≤ 67108864 := by rw [i1.len]; exact l1
  have hn2 : n2 ≤ 67108864 := by rw [i2.len]; exact l3
  have hR : ∀ W a3 a4 n3 n4 c3 c4, Below w.heap.size w W → Sl W a3 n3 c3 (limbs x.den) → Sl W a4 n4 c4 (limbs y.den) →
      Calls Tryz.prog 275 #[.pointer (some ⟨b, 0, none⟩), .bool (!(decide (x.num < 0) == decide (y.num < 0))), .slice a1 n1 c1, .slice a3 n3 c3, .slice a2 n2 c2, .slice a4 n4 c4] W (StQ 38 b base (x * y) W) := fun W a3 a4 n3 n4 c3 c4 hW s3 s4 => by
    have := nbTimes_any b base (decide (x.num < 0) != decide (y.num < 0)) a1 a3 a2 a4 n1 n3 n2 n4 c1 c3 c2 c4 x.num.natAbs x.den y.num.natAbs y.den W (hr.stay hW) hbb (i1.stay hW).fr.sl s3 (i2.stay hW).fr.sl s4 (rat_cop x) (rat_cop y) y.den_nz x.den_nz hn1 (by rw [← s3.len]; exact l2) hn2 (by rw [← s4.len]; exact l4) (hT.below hW)
    rw [mul_mk x y] at this
    exact this
  have hB1 : ∀ W, Below w.heap.size w W → Calls Tryz.prog 273 #[.pointer (some ⟨b, 0, none⟩)] W fun e w' => ∃ ao k c, e = .returned (.slice ao k c) ∧ Sl w' ao k c (limbs x.den) ∧ Below W.heap.size W w' := fun W hW => nbRbelow_any b B1 _ _ _ W (Ra.stay H1 hW)
  have hB2 : ∀ W, Below w.heap.size w W → Calls Tryz.prog 273 #[.pointer (some ⟨b2, 0, none⟩)] W fun e w' => ∃ ao k c, e = .returned (.slice ao k c) ∧ Sl w' ao k c (limbs y.den) ∧ Below W.heap.size W w' := fun W hW => nbRbelow_any b2 B2 _ _ _ W (Ra.stay H2 hW)
  have x0 := i1.c0
  have x1 := i1.c1
  have y0 := i2.c0
  have y1 := i2.c1
  clear l1 l2 l3 l4 hT hbb hn1 hn2 i1 i2
  generalize decide (x.num < 0) = s1 at *
  generalize decide (y.num < 0) = s2 at *
  clear H1 H2 hr
  go_enter Tryz.func209, Tryz.ntmps209
  go_wp2
  refine till_region (fun w' => w'.cell? ⟨b, 0, none⟩ = some (.bool s1) ∧ w'.cell? ⟨b, 1, none⟩ = some (.slice a1 n1 c1) ∧ w'.cell? ⟨b2, 0, none⟩ = some (.bool s2) ∧ w'.cell? ⟨b2, 1, none⟩ = some (.slice a2 n2 c2)) 26 (by kernel_rfl) ⟨by simpa using x0, by simpa using x1, by simpa using y0, by simpa using y1⟩ (fun hS => ?_)
  refine till_take (i := 0) (v := ?_) [0, 26] rfl (by kernel_rfl) (by kernel_rfl) (by kernel_rfl) (by kernel_rfl) (fun _ _ _ h => h) (Or.inl ⟨by rfl, ?_⟩) hS ?_
  case refine_2 => (intro w hSw; go_split_ands; go_simp; try with_reducible rfl)
  simp only [List.getElem_toArray, List.getElem_cons_zero, Act.put, List.setIfInBounds_toArray, List.set_cons_zero, List.set_cons_succ]
  refine till_take (i := 1) (v := ?_) [1, 2, 3, 4, 5, 11, 26] rfl (by kernel_rfl) (by kernel_rfl) (by kernel_rfl) (by kernel_rfl) (fun _ _ _ h => h) (Or.inl ⟨by rfl, ?_⟩) hS ?_
  case refine_2 => (intro w hSw; go_split_ands; go_simp; try with_reducible rfl)
  simp only [List.getElem_toArray, List.getElem_cons_zero, List.getElem_cons_succ, Act.put, List.setIfInBounds_toArray, List.set_cons_zero, List.set_cons_succ]
  refine till_take (i := 2) (v := ?_) [2, 3, 4, 5, 11, 26] rfl (by kernel_rfl) (by kernel_rfl) (by kernel_rfl) (by kernel_rfl) (fun _ _ _ h => h) (Or.inl ⟨by rfl, ?_⟩) hS ?_
  case refine_2 => (intro w hSw; go_split_ands; go_simp; try with_reducible rfl)
  simp only [List.getElem_toArray, List.getElem_cons_zero, List.getElem_cons_succ, Act.put, List.setIfInBounds_toArray, List.set_cons_zero, List.set_cons_succ]
  refine till_take (i := 3) (v := ?_) [3, 4, 5, 11, 26] rfl (by kernel_rfl) (by kernel_rfl) (by kernel_rfl) (by kernel_rfl) (fun _ _ _ h => h) (Or.inl ⟨by rfl, ?_⟩) hS ?_
  case refine_2 => (intro w hSw; go_split_ands; go_simp; try with_reducible rfl)
  simp only [List.getElem_toArray, List.getElem_cons_zero, List.getElem_cons_succ, Act.put, List.setIfInBounds_toArray, List.set_cons_zero, List.set_cons_succ]
  refine till_take (i := 4) (v := ?_) [4, 5, 11, 26] rfl (by kernel_rfl) (by kernel_rfl) (by kernel_rfl) (by kernel_rfl) (fun _ _ _ h => h) (Or.inl ⟨by rfl, ?_⟩) hS ?_
  case refine_2 => (intro w hSw; go_split_ands; go_simp; try with_reducible rfl)
  simp only [List.getElem_toArray, List.getElem_cons_zero, List.getElem_cons_succ, Act.put, List.setIfInBounds_toArray, List.set_cons_zero, List.set_cons_succ]
  refine till_take (i := 5) (v := ?_) [5, 11, 26] rfl (by kernel_rfl) (by kernel_rfl) (by kernel_rfl) (by kernel_rfl) (fun _ _ _ h => h) (Or.inl ⟨by rfl, ?_⟩) hS ?_
  case refine_2 => (intro w hSw; go_split_ands; go_simp; try with_reducible rfl)
  simp only [List.getElem_toArray, List.getElem_cons_zero, List.getElem_cons_succ, Act.put, List.setIfInBounds_toArray, List.set_cons_zero, List.set_cons_succ]
  refine till_take (i := 6) (v := ?_) [6, 7, 8, 9, 10, 11, 26] rfl (by kernel_rfl) (by kernel_rfl) (by kernel_rfl) (by kernel_rfl) (fun _ _ _ h => h) (Or.inl ⟨by rfl, ?_⟩) hS ?_
  case refine_2 => (intro w hSw; go_split_ands; go_simp; try with_reducible rfl)
  simp only [List.getElem_toArray, List.getElem_cons_zero, List.getElem_cons_succ, Act.put, List.setIfInBounds_toArray, List.set_cons_zero, List.set_cons_succ]
  refine till_take (i := 7) (v := ?_) [7, 8, 9, 10, 11, 26] rfl (by kernel_rfl) (by kernel_rfl) (by kernel_rfl) (by kernel_rfl) (fun _ _ _ h => h) (Or.inl ⟨by rfl, ?_⟩) hS ?_
  case refine_2 => (intro w hSw; go_split_ands; go_simp; try with_reducible rfl)
  simp only [List.getElem_toArray, List.getElem_cons_zero, List.getElem_cons_succ, Act.put, List.setIfInBounds_toArray, List.set_cons_zero, List.set_cons_succ]
  refine till_take (i := 8) (v := ?_) [8, 9, 10, 11, 26] rfl (by kernel_rfl) (by kernel_rfl) (by kernel_rfl) (by kernel_rfl) (fun _ _ _ h => h) (Or.inl ⟨by rfl, ?_⟩) hS ?_
  case refine_2 => (intro w hSw; go_split_ands; go_simp; try with_reducible rfl)
  simp only [List.getElem_toArray, List.getElem_cons_zero, List.getElem_cons_succ, Act.put, List.setIfInBounds_toArray, List.set_cons_zero, List.set_cons_succ]
  refine till_take (i := 9) (v := ?_) [9, 10, 11, 26] rfl (by kernel_rfl) (by kernel_rfl) (by kernel_rfl) (by kernel_rfl) (fun _ _ _ h => h) (Or.inl ⟨by rfl, ?_⟩) hS ?_
  case refine_2 => (intro w hSw; go_split_ands; go_simp; try with_reducible rfl)
  simp only [List.getElem_toArray, List.getElem_cons_zero, List.getElem_cons_succ, Act.put, List.setIfInBounds_toArray, List.set_cons_zero, List.set_cons_succ]
  refine till_take (i := 10) (v := ?_) [10, 11, 26] rfl (by kernel_rfl) (by kernel_rfl) (by kernel_rfl) (by kernel_rfl) (fun _ _ _ h => h) (Or.inl ⟨by rfl, ?_⟩) hS ?_
  case refine_2 => (intro w hSw; go_split_ands; go_simp; try with_reducible rfl)
  simp only [List.getElem_toArray, List.getElem_cons_zero, List.getElem_cons_succ, Act.put, List.setIfInBounds_toArray, List.set_cons_zero, List.set_cons_succ]
  refine till_take (i := 11) (v := ?_) [11, 26] rfl (by kernel_rfl) (by kernel_rfl) (by kernel_rfl) (by kernel_rfl) (fun _ _ _ h => h) (Or.inl ⟨by rfl, ?_⟩) hS ?_
  case refine_2 => (intro w hSw; go_split_ands; go_simp; try with_reducible rfl)
  simp only [List.getElem_toArray, List.getElem_cons_zero, List.getElem_cons_succ, Act.put, List.setIfInBounds_toArray, List.set_cons_zero, List.set_cons_succ]
  refine till_take (i := 12) (v := ?_) [12, 13, 14, 15, 16, 26] rfl (by kernel_rfl) (by kernel_rfl) (by kernel_rfl) (by kernel_rfl) (fun _ _ _ h => h) (Or.inl ⟨by rfl, ?_⟩) hS ?_
  case refine_2 => (intro w hSw; go_split_ands; go_simp; try with_reducible rfl)
  simp only [List.getElem_toArray, List.getElem_cons_zero, List.getElem_cons_succ, Act.put, List.setIfInBounds_toArray, List.set_cons_zero, List.set_cons_succ]
  refine till_take (i := 13) (v := ?_) [13, 14, 15, 16, 26] rfl (by kernel_rfl) (by kernel_rfl) (by kernel_rfl) (by kernel_rfl) (fun _ _ _ h => h) (Or.inl ⟨by rfl, ?_⟩) hS ?_
  case refine_2 => (intro w hSw; go_split_ands; go_simp; try with_reducible rfl)
  simp only [List.getElem_toArray, List.getElem_cons_zero, List.getElem_cons_succ, Act.put, List.setIfInBounds_toArray, List.set_cons_zero, List.set_cons_succ]
  refine till_take (i := 14) (v := ?_) [14, 15, 16, 26] rfl (by kernel_rfl) (by kernel_rfl) (by kernel_rfl) (by kernel_rfl) (fun _ _ _ h => h) (Or.inl ⟨by rfl, ?_⟩) hS ?_
  case refine_2 => (intro w hSw; go_split_ands; go_simp; try with_reducible rfl)
  simp only [List.getElem_toArray, List.getElem_cons_zero, List.getElem_cons_succ, Act.put, List.setIfInBounds_toArray, List.set_cons_zero, List.set_cons_succ]
  refine till_take (i := 15) (v := ?_) [15, 16, 26] rfl (by kernel_rfl) (by kernel_rfl) (by kernel_rfl) (by kernel_rfl) (fun _ _ _ h => h) (Or.inl ⟨by rfl, ?_⟩) hS ?_
  case refine_2 => (intro w hSw; go_split_ands; go_simp; try with_reducible rfl)
  simp only [List.getElem_toArray, List.getElem_cons_zero, List.getElem_cons_succ, Act.put, List.setIfInBounds_toArray, List.set_cons_zero, List.set_cons_succ]
  refine till_take (i := 16) (v := ?_) [16, 26] rfl (by kernel_rfl) (by kernel_rfl) (by kernel_rfl) (by kernel_rfl) (fun _ _ _ h => h) (Or.inl ⟨by rfl, ?_⟩) hS ?_
  case refine_2 => (intro w hSw; go_split_ands; go_simp; try with_reducible rfl)
  simp only [List.getElem_toArray, List.getElem_cons_zero, List.getElem_cons_succ, Act.put, List.setIfInBounds_toArray, List.set_cons_zero, List.set_cons_succ]
  refine till_take (i := 17) (v := ?_) [17, 18, 26] rfl (by kernel_rfl) (by kernel_rfl) (by kernel_rfl) (by kernel_rfl) (fun _ _ _ h => h) (Or.inl ⟨by rfl, ?_⟩) hS ?_
  case refine_2 => (intro w hSw; go_split_ands; go_simp; try with_reducible rfl)
  simp only [List.getElem_toArray, List.getElem_cons_zero, List.getElem_cons_succ, Act.put, List.setIfInBounds_toArray, List.set_cons_zero, List.set_cons_succ]
  refine till_take (i := 19) (v := ?_) [19, 20, 21, 22, 23, 26] rfl (by kernel_rfl) (by kernel_rfl) (by kernel_rfl) (by kernel_rfl) (fun _ _ _ h => h) (Or.inl ⟨by rfl, ?_⟩) hS ?_
  case refine_2 => (intro w hSw; go_split_ands; go_simp; try with_reducible rfl)
  simp only [List.getElem_toArray, List.getElem_cons_zero, List.getElem_cons_succ, Act.put, List.setIfInBounds_toArray, List.set_cons_zero, List.set_cons_succ]
  refine till_take (i := 20) (v := ?_) [20, 21, 22, 23, 26] rfl (by kernel_rfl) (by kernel_rfl) (by kernel_rfl) (by kernel_rfl) (fun _ _ _ h => h) (Or.inl ⟨by rfl, ?_⟩) hS ?_
  case refine_2 => (intro w hSw; go_split_ands; go_simp; try with_reducible rfl)
  simp only [List.getElem_toArray, List.getElem_cons_zero, List.getElem_cons_succ, Act.put, List.setIfInBounds_toArray, List.set_cons_zero, List.set_cons_succ]
  refine till_take (i := 21) (v := ?_) [21, 22, 23, 26] rfl (by kernel_rfl) (by kernel_rfl) (by kernel_rfl) (by kernel_rfl) (fun _ _ _ h => h) (Or.inl ⟨by rfl, ?_⟩) hS ?_
  case refine_2 => (intro w hSw; go_split_ands; go_simp; try with_reducible rfl)
  simp only [List.getElem_toArray, List.getElem_cons_zero, List.getElem_cons_succ, Act.put, List.setIfInBounds_toArray, List.set_cons_zero, List.set_cons_succ]
  refine till_take (i := 22) (v := ?_) [22, 23, 26] rfl (by kernel_rfl) (by kernel_rfl) (by kernel_rfl) (by kernel_rfl) (fun _ _ _ h => h) (Or.inl ⟨by rfl, ?_⟩) hS ?_
  case refine_2 => (intro w hSw; go_split_ands; go_simp; try with_reducible rfl)
  simp only [List.getElem_toArray, List.getElem_cons_zero, List.getElem_cons_succ, Act.put, List.setIfInBounds_toArray, List.set_cons_zero, List.set_cons_succ]
  refine till_take (i := 23) (v := ?_) [23, 26] rfl (by kernel_rfl) (by kernel_rfl) (by kernel_rfl) (by kernel_rfl) (fun _ _ _ h => h) (Or.inl ⟨by rfl, ?_⟩) hS ?_
  case refine_2 => (intro w hSw; go_split_ands; go_simp; try with_reducible rfl)
  simp only [List.getElem_toArray, List.getElem_cons_zero, List.getElem_cons_succ, Act.put, List.setIfInBounds_toArray, List.set_cons_zero, List.set_cons_succ]
  refine till_take (i := 24) (v := ?_) [24, 25, 26] rfl (by kernel_rfl) (by kernel_rfl) (by kernel_rfl) (by kernel_rfl) (fun _ _ _ h => h) (Or.inl ⟨by rfl, ?_⟩) hS ?_
  case refine_2 => (intro w hSw; go_split_ands; go_simp; try with_reducible rfl)
  simp only [List.getElem_toArray, List.getElem_cons_zero, List.getElem_cons_succ, Act.put, List.setIfInBounds_toArray, List.set_cons_zero, List.set_cons_succ]
  refine till_step (i := 18) (by kernel_rfl) rfl (by decide) (fun K hK => ?_)
  simp only [List.getElem_toArray, List.getElem_cons_zero, List.getElem_cons_succ]
  go_simp
  go_at_call 273
  with_reducible refine (hB1 _ ?_).mono ?_
  · first | exact Below.refl _ _ | exact (Below.refl _ _).drew
  rintro en wA ⟨a3, n3, c3, rfl, s3, hbB⟩
  have hWA : Below w.heap.size w wA := by first | exact hbB | exact undrew hbB
  try go_wp2_with fail
  refine hK.out _ _ ⟨cellStay x0 hWA, cellStay x1 hWA, cellStay y0 hWA, cellStay y1 hWA⟩ ?_
  clear hK K hS
  refine till_step (i := 25) (by kernel_rfl) rfl (by decide) (fun K hK => ?_)
  simp only [List.getElem_toArray, List.getElem_cons_zero, List.getElem_cons_succ]
  go_simp
  go_at_call 273
  with_reducible refine (hB2 _ hWA).mono ?_
  rintro en wB ⟨a4, n4, c4, rfl, s4, hbC⟩
  have hWB := next hWA hbC
  have s3B := s3.below hbC
  try go_wp2_with fail
  refine hK.out _ _ ⟨cellStay x0 hWB, cellStay x1 hWB, cellStay y0 hWB, cellStay y1 hWB⟩ ?_
  clear hK K
  refine till_last (by kernel_rfl) rfl (fun K hK => ?_)
  simp only [List.getElem_toArray, List.getElem_cons_zero, List.getElem_cons_succ]
  go_simp
  go_at_call 275
  with_reducible refine (hR _ a3 a4 n3 n4 c3 c4 hWB s3B s4).mono ?_
  rintro en wC ⟨rfl, hRa, hgB⟩
  try go_wp2_with fail
  refine hK.out _ _ ?_
  clear hK K
  refine wpAny_take (i := 27) (v := ?_) rfl (by kernel_rfl) (by kernel_rfl) (by kernel_rfl) (fun _ _ _ h => h) (Or.inl ⟨by rfl, ?_⟩) ?_
  case refine_2 => (intro w; go_simp; try with_reducible rfl)
  simp only [List.getElem_toArray, List.getElem_cons_zero, List.getElem_cons_succ, Act.put, List.setIfInBounds_toArray, List.set_cons_zero, List.set_cons_succ]
  refine wpAny_done (by kernel_rfl) ?_ _
  go_wp2
  go_ret
  exact ⟨rfl, hRa, grown_trans (grown_below hWB _) hgB⟩

end Go.Proofs.YtklibjdhlmdkpaaGreatDoor

/-
  Plain: a float's worth rounds to that float, by every mode, without a flag. No program in sight.
-/
namespace Go.Proofs.YtklibjdhlmdkpaaGreatDoor

open Go.RowKit Go.Lb

/-- M times 2 to the power of X, as a fraction. -/
def upN (M : Nat) (X : Int) : Nat := M * 2 ^ X.toNat

def upD (X : Int) : Nat := 2 ^ (-X).toNat

theorem upD_pos (X : Int) : upD X ≠ 0 := Nat.ne_of_gt (Nat.two_pow_pos _)

theorem upN_ne {M : Nat} (h : M ≠ 0) (X : Int) : upN M X ≠ 0 := Nat.mul_ne_zero h (Nat.ne_of_gt (Nat.two_pow_pos _))

theorem up_sc (M : Nat) (X : Int) (F j : Nat) (g : Int) (hg : g = X + F + j) : ∃ K, 0 < K ∧ scN (upN M X) (-g) = M * K ∧ scD (upD X) (-g) = 2 ^ (F + j) * K := by
  refine ⟨2 ^ (X.toNat + (-g).toNat), Nat.two_pow_pos _, ?_, ?_⟩
  · unfold scN upN
    rw [Nat.mul_assoc, ← Nat.pow_add]
  · unfold scD upD
    rw [← Nat.pow_add, ← Nat.pow_add]
    congr 1
    omega

theorem lg_up {M F : Nat} {X : Int} (h1 : 2 ^ F ≤ M) (h2 : M < 2 ^ (F + 1)) : lgE (upN M X) (upD X) = X + F := by
  have hp := Nat.two_pow_pos F
  have hM : M ≠ 0 := by omega
  refine lg_uniq (upD_pos X) (lg_spec (upN_ne hM X) (upD_pos X)) ?_
  obtain ⟨K, hK, e1, e2⟩ := up_sc M X F 0 (X + F) (by omega)
  unfold LgP
  rw [e1, e2, Nat.add_zero]
  refine ⟨Nat.mul_le_mul_right _ h1, ?_⟩
  rw [← Nat.mul_assoc]
  refine Nat.mul_lt_mul_of_pos_right ?_ hK
  rw [Nat.pow_succ] at h2
  omega

theorem lg_up_low {M F : Nat} {X : Int} (h0 : M ≠ 0) (h1 : M < 2 ^ F) : lgE (upN M X) (upD X) < X + F := by
  by_cases h : lgE (upN M X) (upD X) < X + F
  · exact h
  · exfalso
    obtain ⟨a, _⟩ := lg_spec (upN_ne h0 X) (upD_pos X)
    obtain ⟨K, hK, e1, e2⟩ := up_sc M X F (lgE (upN M X) (upD X) - (X + F)).toNat (lgE (upN M X) (upD X)) (by omega)
    rw [e1, e2] at a
    have := Nat.le_of_mul_le_mul_right a hK
    have h3 : 2 ^ F ≤ 2 ^ (F + (lgE (upN M X) (upD X) - (X + F)).toNat) := Nat.pow_le_pow_right (by decide) (by omega)
    omega

/-- A float's fields: e and r the exponent and the fraction, M and X its worth. -/
structure Flt (E F e r M : Nat) (X : Int) : Prop where
  hr : r < 2 ^ F
  he : e < 2 * bsN E + 1
  hm : M = if e = 0 then r else 2 ^ F + r
  hx : X = if e = 0 then 1 - (bsN E : Int) - F else (e : Int) - bsN E - F

theorem Flt.lw {E F e r M : Nat} {X : Int} (h : Flt E F e r M X) (h0 : M ≠ 0) : lwE E (upN M X) (upD X) = X + F := by
  have hr := h.hr
  have hm := h.hm
  have hx := h.hx
  unfold lwE
  by_cases he : e = 0
  · rw [if_pos he] at hm hx
    have := lg_up_low (X := X) h0 (by omega : M < 2 ^ F)
    omega
  · rw [if_neg he] at hm hx
    have := lg_up (F := F) (M := M) (X := X) (by omega) (by rw [Nat.pow_succ]; omega)
    omega

theorem Flt.sc {E F e r M : Nat} {X : Int} (h : Flt E F e r M X) (h0 : M ≠ 0) : ∃ K, 0 < K ∧ scN (upN M X) (F - lwE E (upN M X) (upD X)) = M * K ∧ scD (upD X) (F - lwE E (upN M X) (upD X)) = K := by
  rw [h.lw h0, show (F : Int) - (X + F) = -X by omega]
  refine ⟨2 ^ (X.toNat + (-X).toNat), Nat.two_pow_pos _, ?_, ?_⟩
  · unfold scN upN
    rw [Nat.mul_assoc, ← Nat.pow_add]
  · unfold scD upD
    rw [← Nat.pow_add]
    congr 1
    omega

theorem rd_whole (M : Nat) {K : Nat} (hK : 0 < K) (neg : Bool) (m : Nat) : rdN (M * K) K neg m = M ∧ exB (M * K) K = true := by
  constructor
  · unfold rdN
    rw [if_pos (Nat.mul_mod_left M K), Nat.mul_div_cancel _ hK]
  · unfold exB
    exact decide_eq_true (Nat.mul_mod_left M K)

theorem inf_eq {E : Nat} (hE : 2 ≤ E) (F : Nat) : infN E F = (2 * bsN E + 1) * 2 ^ F := by
  unfold infN bsN
  have h1 : 2 ^ E = 2 * 2 ^ (E - 1) := by
    rw [show 2 * 2 ^ (E - 1) = 2 ^ (E - 1) * 2 by omega, ← Nat.pow_succ]
    congr 1
    omega
  have := Nat.two_pow_pos (E - 1)
  rw [Nat.pow_add, h1, show 2 * (2 ^ (E - 1) - 1) + 1 = 2 * 2 ^ (E - 1) - 1 by omega, Nat.sub_mul, Nat.one_mul]

theorem Flt.bits {E F e r M : Nat} {X : Int} (h : Flt E F e r M X) (hE : 2 ≤ E) (h0 : M ≠ 0) (neg : Bool) (m : Nat) :
    flB E F (upN M X) (upD X) neg m = e * 2 ^ F + r ∧ flG E F (upN M X) (upD X) neg m = 0 := by
  obtain ⟨K, hK, k1, k2⟩ := h.sc h0
  obtain ⟨q1, q2⟩ := rd_whole M hK neg m
  have hlw := h.lw h0
  have hr := h.hr
  have hm := h.hm
  have hx := h.hx
  have he := h.he
  have hM : sgM E F (upN M X) (upD X) neg m = M := by unfold sgM; rw [k1, k2, q1]
  have hX : sgX E F (upN M X) (upD X) = true := by unfold sgX; rw [k1, k2, q2]
  have hB : Lb.sgB E F (upN M X) (upD X) neg m = e * 2 ^ F + r := by
    unfold Lb.sgB
    rw [hM, hlw]
    by_cases h1 : e = 0
    · rw [if_pos h1] at hm hx
      have : (X + F + bsN E - 1).toNat = 0 := by omega
      rw [this, hm, h1]
      omega
    · rw [if_neg h1] at hm hx
      obtain ⟨d, rfl⟩ : ∃ d, e = d + 1 := ⟨e - 1, by omega⟩
      have : (X + F + bsN E - 1).toNat = d := by omega
      rw [this, hm, Nat.add_mul, Nat.one_mul]
      omega
  have hI : e * 2 ^ F + r < infN E F := by
    rw [inf_eq hE]
    have h2 : (e + 1) * 2 ^ F ≤ (2 * bsN E + 1) * 2 ^ F := Nat.mul_le_mul_right _ (by omega)
    rw [Nat.add_mul, Nat.one_mul] at h2
    omega
  have hO : ovB E F (upN M X) (upD X) neg m = false := by
    unfold ovB
    rw [hlw, hB]
    refine decide_eq_false ?_
    rintro (h | h)
    · by_cases h1 : e = 0
      · rw [if_pos h1] at hx
        have : bsN E ≠ 0 := by
          unfold bsN
          have : 2 ^ 1 ≤ 2 ^ (E - 1) := Nat.pow_le_pow_right (by decide) (by omega)
          omega
        omega
      · rw [if_neg h1] at hx
        omega
    · omega
  unfold flB flG
  rw [hO, hB, hX]
  exact ⟨rfl, rfl⟩

/-- Rounded: whatever fraction is of that worth. -/
theorem Flt.round {E F e r M N D : Nat} {X : Int} (h : Flt E F e r M X) (hE : 2 ≤ E) (hD : D ≠ 0) (hx : N * upD X = upN M X * D) (s neg : Bool) (m : Nat) (hz : M = 0 → neg = s) :
    sgBits E F N D (if M = 0 then false else s) neg m = e * 2 ^ F + r + (if s = true then 2 ^ (E + F) else 0) ∧ sgFlags E F N D (if M = 0 then false else s) m = 0 := by
  have hs := sgs_same (E := E) (F := F) hD (upD_pos X) hx (if M = 0 then false else s) neg m
  rw [hs.1, hs.2]
  by_cases h0 : M = 0
  · have hN : upN M X = 0 := by unfold upN; rw [h0, Nat.zero_mul]
    have hm := h.hm
    have he : e = 0 ∧ r = 0 := by
      by_cases h1 : e = 0
      · rw [if_pos h1] at hm; omega
      · rw [if_neg h1] at hm
        have := Nat.two_pow_pos F
        omega
    unfold sgBits sgFlags
    rw [if_pos hN, if_pos hN, he.1, he.2, hz h0]
    exact ⟨by omega, rfl⟩
  · have hN := upN_ne h0 X
    rw [if_neg h0]
    obtain ⟨b1, b2⟩ := h.bits hE h0 s m
    unfold sgBits sgFlags
    rw [if_neg hN, if_neg hN, b1, b2]
    refine ⟨?_, rfl⟩
    cases s <;> simp

end Go.Proofs.YtklibjdhlmdkpaaGreatDoor

