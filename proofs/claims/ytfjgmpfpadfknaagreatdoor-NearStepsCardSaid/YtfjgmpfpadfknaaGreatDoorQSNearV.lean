/-
  Plain: places as whole numbers with a sign: steps, neighbours, the order.
-/
import Derived.Test.YtfjgmpfpadfknaaGreatDoorQNbBase
import Derived.Test.YtfjgmpfpadfknaaGreatDoorQSNearO
namespace Go.Proofs.YtfjgmpfpadfknaaGreatDoor

open Go.RowKit Go.Lb

/-- A float's place, a whole number with a sign. -/
def plI (e f b : Nat) : Int := if sgB e f b = true then -(mgN e f b : Int) else (mgN e f b : Int)

theorem pl_two {e f b : Nat} (hf : formE (e : Int) (f : Int) = 0) (hb : b < pw (1 + e + f)) : -9223372036854775808 < plI e f b ∧ plI e f b < 9223372036854775808 ∧ ((plN e f b : Int) = plI e f b ∨ (plN e f b : Int) = plI e f b + 18446744073709551616) := by
  have hm := mg_lt e f b
  have hP := (top63 hf).2
  have he := mg_eq hb
  unfold plI plN
  cases hs : sgB e f b
  · rw [hs] at he
    simp at he
    simp
    omega
  · simp
    omega

theorem pl_i64 {e f b : Nat} (hf : formE (e : Int) (f : Int) = 0) (hb : b < pw (1 + e + f)) : IntKind.i64.wrap (plN e f b : Int) = plI e f b := by
  obtain ⟨h1, h2, h3⟩ := pl_two hf hb
  rw [IntKind.wrap_i64]
  omega

theorem st_plain {E F a b : Nat} (hf : formE (E : Int) (F : Int) = 0) (l1 : a < pw (1 + E + F)) (l2 : b < pw (1 + E + F)) :
    stD E F a b = decide (plI E F b < plI E F a) ∧ stI E F a b = ((plI E F a - plI E F b).natAbs : Int) := by
  have hD : stD E F a b = decide (plI E F b < plI E F a) := by unfold stD; rw [pl_i64 hf l1, pl_i64 hf l2]
  refine ⟨hD, ?_⟩
  obtain ⟨a1, a2, a3⟩ := pl_two hf l1
  obtain ⟨b1, b2, b3⟩ := pl_two hf l2
  unfold stI
  rw [hD]
  by_cases h : plI E F b < plI E F a
  · rw [if_pos (decide_eq_true h), IntKind.wrap_u64]; omega
  · rw [if_neg (by simpa using h), IntKind.wrap_u64]; omega

theorem st_off {E F a b : Nat} (hf : formE (E : Int) (F : Int) = 0) (l1 : a < pw (1 + E + F)) (l2 : b < pw (1 + E + F)) :
    (stD E F a b = true → IntKind.u64.wrap (-(stI E F a b)) = IntKind.u64.wrap (plI E F b - plI E F a)) ∧ (stD E F a b = false → stI E F a b = IntKind.u64.wrap (plI E F b - plI E F a)) := by
  obtain ⟨h1, h2⟩ := st_plain hf l1 l2
  obtain ⟨a1, a2, a3⟩ := pl_two hf l1
  obtain ⟨b1, b2, b3⟩ := pl_two hf l2
  rw [h1, h2]
  constructor
  · intro h
    have := of_decide_eq_true h
    congr 1
    omega
  · intro h
    have := of_decide_eq_false h
    rw [IntKind.wrap_u64]
    omega

theorem wrap_sum (x y : Int) : IntKind.u64.wrap (IntKind.u64.wrap x + IntKind.u64.wrap y) = IntKind.u64.wrap (x + y) := by
  rw [IntKind.wrap_u64, IntKind.wrap_u64, IntKind.wrap_u64, IntKind.wrap_u64]
  omega

theorem fl_pl {e f b : Nat} (hb : b < pw (1 + e + f)) : plI e f (flN e f b) = -plI e f b := by
  obtain ⟨_, h2, h3, _, _⟩ := fl_bits hb
  unfold plI
  rw [h2, h3]
  cases sgB e f b <;> simp

/-- The neighbour above. -/
theorem hi_one {e f b : Nat} (hf : formE (e : Int) (f : Int) = 0) (hb : b < pw (1 + e + f)) (hE : hiE (e : Int) (f : Int) b = 0) :
    plI e f (hiN e f b) = plI e f b + 1 ∧ hiN e f b < pw (1 + e + f) ∧ nanB e f (hiN e f b) = false ∧ (sgB e f (hiN e f b) = true → mgN e f (hiN e f b) < ifN e f) ∧ (sgB e f (hiN e f b) = false → mgN e f (hiN e f b) ≠ 0) := by
  have hm := mg_lt e f b
  have hi := if_lt hf
  have hF := fits_of hf hb
  unfold hiE at hE
  rw [if_neg (by simp [hF])] at hE
  have hn : nanB e f b = false := by
    cases hh : nanB e f b
    · rfl
    · rw [if_pos (by exact hh)] at hE; cases hE
  rw [if_neg (by show ¬ nanB e f b = true; rw [hn]; simp)] at hE
  have hn' := hn
  rw [nan_iff] at hn'
  have hle : mgN e f b ≤ ifN e f := by have := of_decide_eq_false hn'; omega
  by_cases hc : sgB e f b = true ∧ mgN e f b ≠ 0
  · have hN : hiN e f b = (mgN e f b - 1) + if true = true then pw (e + f) else 0 := by unfold hiN; rw [if_pos hc]; simp; omega
    obtain ⟨k1, k2, k3⟩ := sg_mk (e := e) (f := f) (M := mgN e f b - 1) (by omega) true
    rw [← hN] at k1 k2 k3
    refine ⟨?_, k1, ?_, fun _ => by rw [k3]; omega, fun h => by rw [k2] at h; cases h⟩
    · unfold plI
      rw [k2, k3, hc.1]
      simp
      omega
    · rw [nan_iff, k3]; exact decide_eq_false (by omega)
  · rw [if_neg (by exact hc)] at hE
    have hin : infB e f b = false := by
      cases hh : infB e f b
      · rfl
      · rw [if_pos (by exact hh)] at hE; cases hE
    rw [inf_iff] at hin
    have hne := of_decide_eq_false hin
    have hN : hiN e f b = (mgN e f b + 1) + if false = true then pw (e + f) else 0 := by unfold hiN; rw [if_neg hc]; simp
    obtain ⟨k1, k2, k3⟩ := sg_mk (e := e) (f := f) (M := mgN e f b + 1) (by omega) false
    rw [← hN] at k1 k2 k3
    refine ⟨?_, k1, ?_, (fun h => by rw [k2] at h; cases h), fun _ => by rw [k3]; omega⟩
    · unfold plI
      rw [k2, k3]
      cases hs : sgB e f b
      · simp
      · have h0 : mgN e f b = 0 := by
          apply Classical.byContradiction
          intro h0
          exact hc ⟨hs, h0⟩
        rw [h0]
        simp
    · rw [nan_iff, k3]; exact decide_eq_false (by omega)

/-- The neighbour above, and down again. -/
theorem hi_lo {e f b : Nat} (hf : formE (e : Int) (f : Int) = 0) (hb : b < pw (1 + e + f)) (hE : hiE (e : Int) (f : Int) b = 0) :
    ∃ u d : Nat, hiB (e : Int) (f : Int) b = u ∧ loE (e : Int) (f : Int) u = 0 ∧ loB (e : Int) (f : Int) u = d ∧ u < pw (1 + e + f) ∧ d < pw (1 + e + f) ∧ nanB e f u = false ∧ nanB e f d = false ∧ plI e f u = plI e f b + 1 ∧ plI e f d = plI e f b := by
  obtain ⟨h1, h2, h3, h4, h5⟩ := hi_one hf hb hE
  have hB : hiB (e : Int) (f : Int) b = hiN e f b := if_pos hE
  obtain ⟨k1, k2, k3, k4, k5⟩ := fl_bits h2
  have hF := fits_of hf h2
  have hF2 := fits_of hf k1
  have hE2 : hiE (e : Int) (f : Int) (flN e f (hiN e f b)) = 0 := by
    unfold hiE
    rw [if_neg (by simp [hF2]), if_neg (by show ¬ nanB e f (flN e f (hiN e f b)) = true; rw [k4, h3]; simp)]
    show (if sgB e f (flN e f (hiN e f b)) = true ∧ mgN e f (flN e f (hiN e f b)) ≠ 0 then (0 : Int) else if infB e f (flN e f (hiN e f b)) = true then 60 else 0) = 0
    rw [k2, k3, k5]
    cases hs : sgB e f (hiN e f b)
    · rw [if_pos ⟨rfl, h5 hs⟩]
    · rw [if_neg (by simp), if_neg]
      rw [inf_iff, decide_eq_false (by have := h4 hs; omega)]
      simp
  have hL : loE (e : Int) (f : Int) (hiN e f b) = 0 := by
    unfold loE
    rw [if_neg (by simp [hF])]
    exact hE2
  obtain ⟨m1, m2, m3, _, _⟩ := hi_one hf k1 hE2
  have hLB : loB (e : Int) (f : Int) (hiN e f b) = flN e f (hiN e f (flN e f (hiN e f b))) := by
    unfold loB
    rw [if_pos hL]
    show flN e f (hiB (e : Int) (f : Int) (flN e f (hiN e f b))) = _
    rw [show hiB (e : Int) (f : Int) (flN e f (hiN e f b)) = hiN e f (flN e f (hiN e f b)) from if_pos hE2]
  obtain ⟨n1, _, _, n4, _⟩ := fl_bits m2
  refine ⟨_, _, hB, hL, hLB, h2, n1, h3, by rw [n4, m3], h1, ?_⟩
  rw [fl_pl m2, m1, fl_pl h2, h1]
  omega

theorem row_less {E F a b : Nat} (l1 : a < pw (1 + E + F)) (l2 : b < pw (1 + E + F)) :
    (plI E F a < plI E F b → (rwA E F a < rwA E F b ∨ rwA E F a = rwA E F b ∧ rwN E F a < rwN E F b) ∧ a ≠ b) ∧ (plI E F b < plI E F a → ¬ (rwA E F a < rwA E F b ∨ rwA E F a = rwA E F b ∧ rwN E F a < rwN E F b) ∧ a ≠ b) := by
  have ea := mg_eq l1
  have eb := mg_eq l2
  have ma := mg_lt E F a
  have mb := mg_lt E F b
  unfold plI rwA rwN
  refine ⟨fun h => ⟨?_, fun hab => ?_⟩, fun h => ⟨?_, fun hab => ?_⟩⟩
  · cases hs : sgB E F a <;> cases ht : sgB E F b <;> rw [hs] at h ea <;> rw [ht] at h eb <;> simp at h ea eb ⊢ <;> omega
  · subst hab; omega
  · cases hs : sgB E F a <;> cases ht : sgB E F b <;> rw [hs] at h ea <;> rw [ht] at h eb <;> simp at h ea eb ⊢ <;> omega
  · subst hab; omega

theorem st_ok {E F a b : Nat} : stE (E : Int) (F : Int) a b = 0 ↔ formE (E : Int) (F : Int) = 0 ∧ a < pw (1 + E + F) ∧ b < pw (1 + E + F) ∧ nanB E F a = false ∧ nanB E F b = false := by
  constructor
  · intro h
    obtain ⟨E', F', h1, h2, hf, l1, l2, h0⟩ := st_forms h
    obtain rfl : E = E' := by omega
    obtain rfl : F = F' := by omega
    unfold stE at h
    rw [if_neg (by simp [h0])] at h
    refine ⟨hf, l1, l2, ?_⟩
    cases ha : nanB E F a <;> cases hb : nanB E F b
    · exact ⟨rfl, rfl⟩
    all_goals
      exfalso
      rw [if_pos (by show (nanB E F a || nanB E F b) = true; rw [ha, hb]; rfl)] at h
      cases h
  · rintro ⟨hf, l1, l2, n1, n2⟩
    have h0 : twoE (E : Int) (F : Int) a b = 0 := by unfold twoE; rw [if_neg (by simp [fits_of hf l1]), fits_of hf l2]
    unfold stE
    rw [if_neg (by simp [h0]), if_neg]
    show ¬ (nanB E F a || nanB E F b) = true
    rw [n1, n2]
    simp

theorem st_comm (e f : Int) (a b : Nat) : stE e f a b = 0 ↔ stE e f b a = 0 := by
  have key : ∀ a b, stE e f a b = 0 → stE e f b a = 0 := fun a b h => by
    obtain ⟨E, F, rfl, rfl, _⟩ := st_forms h
    obtain ⟨hf, l1, l2, n1, n2⟩ := st_ok.1 h
    exact st_ok.2 ⟨hf, l2, l1, n2, n1⟩
  exact ⟨key a b, key b a⟩

/-- Where the third float has no place. -/
theorem st_bad {E F a b c : Nat} (h : stE (E : Int) (F : Int) a b = 0) (hc : stE (E : Int) (F : Int) b c ≠ 0 ∨ stE (E : Int) (F : Int) a c ≠ 0) : stE (E : Int) (F : Int) b c = 2 ∨ stE (E : Int) (F : Int) b c = 6 := by
  obtain ⟨hf, l1, l2, n1, n2⟩ := st_ok.1 h
  have hfc : ¬ (c < pw (1 + E + F) ∧ nanB E F c = false) := by
    rintro ⟨l3, n3⟩
    rcases hc with h | h
    · exact h (st_ok.2 ⟨hf, l2, l3, n2, n3⟩)
    · exact h (st_ok.2 ⟨hf, l1, l3, n1, n3⟩)
  have hb0 := fits_of hf l2
  by_cases l3 : c < pw (1 + E + F)
  · left
    have hc0 := fits_of hf l3
    have h0 : twoE (E : Int) (F : Int) b c = 0 := by unfold twoE; rw [if_neg (by simp [hb0]), hc0]
    unfold stE
    rw [if_neg (by simp [h0]), if_pos]
    show (nanB E F b || nanB E F c) = true
    cases hn : nanB E F c
    · exact absurd ⟨l3, hn⟩ hfc
    · simp
  · right
    have h0 : twoE (E : Int) (F : Int) b c = 6 := by unfold twoE; rw [if_neg (by simp [hb0]), fitsE_bits hf l3]
    unfold stE
    rw [if_pos (by rw [h0]; decide), h0]

end Go.Proofs.YtfjgmpfpadfknaaGreatDoor

