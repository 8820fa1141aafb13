/-
  Plain: whole numbers that a float's form has come back; what is cut off is less than one. No program in sight.
-/
import Derived.Laws.FloatBits
import Derived.Test.YtaddnoneoflimaaGreatDoorQTwBase
import Derived.Test.YtaddnoneoflimaaGreatDoorQZTurU
namespace Go.Proofs.YtaddnoneoflimaaGreatDoor

open Go.RowKit Go.Lb

theorem sgZ_of (n : Int) : sgZ (decide (n < 0)) n.natAbs = n := by
  unfold sgZ
  by_cases h : n < 0
  · rw [decide_eq_true h, if_pos rfl]
    omega
  · rw [decide_eq_false h, if_neg (by decide)]
    omega

/-- A whole number that a form has, rounded into it: its worth is the number. -/
theorem sg_there {E F : Nat} {n : Int} (hE : 2 ≤ E) (h0 : n ≠ 0) (hk : n.natAbs.log2 < 2 ^ (E - 1)) (hd : n.natAbs.log2 ≤ F ∨ n.natAbs % 2 ^ (n.natAbs.log2 - F) = 0) (neg : Bool) (m : Nat) :
    finB E F (sgBits E F n.natAbs 1 (decide (n < 0)) neg m) = true ∧ tzV E F (sgBits E F n.natAbs 1 (decide (n < 0)) neg m) = n := by
  have hN : n.natAbs ≠ 0 := by omega
  obtain ⟨mm, j, r1, r2⟩ := write_whole (E := E) (F := F) (T := n.natAbs) (decide (n < 0)) hE hN hk hd
  have hlt : (Ieee.Format.mk E F).write (.number (decide (n < 0)) n.natAbs 0) < pw (1 + E + F) := by
    rw [pw_is]
    exact Ieee.Format.write_lt _ _
  generalize (Ieee.Format.mk E F).write (.number (decide (n < 0)) n.natAbs 0) = c at *
  obtain ⟨x1, x2, x3, x4⟩ := num_ex hE r1
  have hfl := flt_of (F := F) (b := c) hE x1
  rw [x3, x4] at hfl
  have hc : upN mm j / upD j = n.natAbs := by
    rw [cut_same (s := decide (n < 0)) (k := n.natAbs) (j := 0) (by rw [r2]; unfold dQ; rw [p2_zero, Rat.mul_one])]
    unfold upN upD
    simp
  have hx : n.natAbs * upD j = upN mm j * 1 := by
    have e2 : ((sgZ (decide (n < 0)) mm : Int) : Rat) * p2 j = ((sgZ (decide (n < 0)) n.natAbs : Int) : Rat) * p2 0 := by
      rw [p2_zero, Rat.mul_one]
      exact r2
    have u := sg_up_same e2
    unfold upN upD at u ⊢
    simpa using u.symm
  have hM : mm ≠ 0 := fun h => by
    rw [h] at hx
    unfold upN at hx
    rw [Nat.zero_mul, Nat.zero_mul] at hx
    rcases Nat.mul_eq_zero.1 hx with h1 | h1
    · exact hN h1
    · exact upD_pos j h1
  obtain ⟨b1, _⟩ := hfl.round hE (D := 1) (N := n.natAbs) (by decide) hx (decide (n < 0)) neg m (fun h => absurd h hM)
  rw [if_neg hM] at b1
  have hp := (bits_parts hlt).1
  rw [x2] at hp
  rw [b1, hp]
  refine ⟨decide_eq_true x1, ?_⟩
  unfold tzV
  rw [x2, x3, x4, hc]
  exact sgZ_of n

theorem zero_there : (finB 11 52 0 = true ∧ tzV 11 52 0 = 0) ∧ finB 8 23 0 = true ∧ tzV 8 23 0 = 0 := by decide +kernel

theorem log_two {N k : Nat} (h0 : N ≠ 0) (h : N ≤ 2 ^ k) : N.log2 ≤ k - 1 ∨ N.log2 = k ∧ N = 2 ^ k := by
  have h1 := Nat.log2_self_le h0
  by_cases hN : N = 2 ^ k
  · right
    refine ⟨?_, hN⟩
    rw [hN, Nat.log2_two_pow]
  · left
    have : N.log2 < k := (Nat.log2_lt h0).2 (by omega)
    omega

theorem there64 {n : Int} (h1 : -9007199254740992 ≤ n) (h2 : n ≤ 9007199254740992) (neg : Bool) (m : Nat) (hneg : neg = false) :
    finB 11 52 (sgBits 11 52 n.natAbs 1 (decide (n < 0)) neg m) = true ∧ tzV 11 52 (sgBits 11 52 n.natAbs 1 (decide (n < 0)) neg m) = n := by
  by_cases h0 : n = 0
  · subst h0 hneg
    exact zero_there.1
  · have e : 2 ^ 53 = 9007199254740992 := by decide
    rcases log_two (N := n.natAbs) (k := 53) (by omega) (by omega) with h | ⟨h, hN⟩
    · exact sg_there (by decide) h0 (by omega) (.inl (by omega)) neg m
    · exact sg_there (by decide) h0 (by omega) (.inr (by rw [h, hN])) neg m

theorem there32 {n : Int} (h1 : -16777216 ≤ n) (h2 : n ≤ 16777216) (neg : Bool) (m : Nat) (hneg : neg = false) :
    finB 8 23 (sgBits 8 23 n.natAbs 1 (decide (n < 0)) neg m) = true ∧ tzV 8 23 (sgBits 8 23 n.natAbs 1 (decide (n < 0)) neg m) = n := by
  by_cases h0 : n = 0
  · subst h0 hneg
    exact zero_there.2
  · have e : 2 ^ 24 = 16777216 := by decide
    rcases log_two (N := n.natAbs) (k := 24) (by omega) (by omega) with h | ⟨h, hN⟩
    · exact sg_there (by decide) h0 (by omega) (.inl (by omega)) neg m
    · exact sg_there (by decide) h0 (by omega) (.inr (by rw [h, hN])) neg m

/-- A whole number that is rounded without a flag comes back. -/
theorem from_back {E F m : Nat} {n : Int} (hf : formE (E : Int) (F : Int) = 0) (hm : m < 5) (h1 : -9223372036854775808 ≤ n) (h2 : n ≤ 9223372036854775807) (hg : sgFlags E F n.natAbs 1 (decide (n < 0)) m = 0) :
    sgBits E F n.natAbs 1 (decide (n < 0)) false m < pw (1 + E + F) ∧ inV E F (sgBits E F n.natAbs 1 (decide (n < 0)) false m) 63 m = n ∧ inG E F (sgBits E F n.natAbs 1 (decide (n < 0)) false m) 63 m = 0 := by
  have hs : decide (n < 0) = true → n.natAbs ≠ 0 := fun h => by
    have := of_decide_eq_true h
    omega
  have hb : ∀ k, sgBits E F n.natAbs 1 (decide (n < 0)) false k = sgBits E F n.natAbs 1 (decide (n < 0)) (decide (n < 0)) k := fun k => by
    unfold sgBits
    by_cases h0 : n.natAbs = 0
    · rw [if_pos h0, if_pos h0, show decide (n < 0) = false from decide_eq_false (by omega)]
    · rw [if_neg h0, if_neg h0]
  obtain ⟨f1, _, f3, f4⟩ := sides_facts hf (N := n.natAbs) (D := 1) (s := decide (n < 0)) (by decide) (Nat.gcd_one_right _) hs (fun k => sgBits E F n.natAbs 1 (decide (n < 0)) (decide (n < 0)) k) (fun k => sgFlags E F n.natAbs 1 (decide (n < 0)) k) (fun _ => rfl) (fun _ => rfl)
  rw [hb]
  rcases f4 with ⟨_, e34, hx, hw⟩ | ⟨g0, _⟩
  · have he : sgBits E F n.natAbs 1 (decide (n < 0)) (decide (n < 0)) m = sgBits E F n.natAbs 1 (decide (n < 0)) (decide (n < 0)) 4 := by
      rcases f3 m hm with h | h
      · exact h
      · exact h.trans e34
    have hp := f1 m hm
    rw [he] at hp ⊢
    generalize sgBits E F n.natAbs 1 (decide (n < 0)) (decide (n < 0)) 4 = c at *
    obtain ⟨l1, l2, l3⟩ := mk_low (s := decide (n < 0)) (N := n.natAbs) (D := 1) (by decide) (Nat.gcd_one_right _) hs
    rw [← hw] at l1 l2 l3
    have hr := rd_whole n.natAbs (K := 1) (by decide) (decide (n < 0)) m
    rw [Nat.mul_one] at hr
    have hok : inOk 63 (decide (n < 0)) n.natAbs = true := by
      unfold inOk
      have e : 2 ^ 63 = 9223372036854775808 := by decide
      rw [e, decide_eq_true_eq, decide_eq_true_eq]
      omega
    refine ⟨hp, ?_, ?_⟩
    · unfold inV inR
      rw [show naB E F c = false from decide_eq_false fun hh => hx hh.1, show enB E F c = false from decide_eq_false fun hh => hx hh.1, l1, l2, l3, hr.1, hok]
      exact sgZ_of n
    · unfold inG inR
      rw [show naB E F c = false from decide_eq_false fun hh => hx hh.1, show enB E F c = false from decide_eq_false fun hh => hx hh.1, l1, l2, l3, hr.1, hok, hr.2]
      rfl
  · exfalso
    have := g0 m hm
    omega

end Go.Proofs.YtaddnoneoflimaaGreatDoor

