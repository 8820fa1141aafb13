/-
  Contracts of numerallaw05.asked, key; ratio.Cmp of what may be.
-/
import Derived.Test.YtgdhleiokfaeoaaGreatDoorQRndQ
import Derived.Test.YtgdhleiokfaeoaaGreatDoorQRdE
import Derived.Test.YtgdhleiokfaeoaaGreatDoorQBgU
namespace Go.Proofs.YtgdhleiokfaeoaaGreatDoor

open Go.RowKit Go.Lb

attribute [local go_sem] Go.World.cell?_alloc_some

/-- A fraction in cells, by its worth. -/
theorem ra_rq {w : World} {base b N D : Nat} {s : Bool} (h : Ra 43 w base b s N D) (hD : D ≠ 0) (hG : Nat.gcd N D = 1) (hs : s = true → N ≠ 0) : Rq 43 w base b (sgQ' s N D) := by
  obtain ⟨q1, q2, q3⟩ := mk_low hD hG hs
  unfold Rq
  rw [q1, q2, q3]
  exact h

theorem rat_facts5 {w : World} {a1 a2 : Option Addr} {n1 n2 c1 c2 : Nat} {s : Bool} {xs ys : List Nat} (h1 : Sl w a1 n1 c1 xs) (h2 : Sl w a2 n2 c2 ys) (hr : ratB s xs ys = true) :
    Fine xs ∧ Fine ys ∧ val ys ≠ 0 ∧ Nat.gcd (val xs) (val ys) = 1 ∧ (s = true → val xs ≠ 0) ∧ n1 ≤ 16384 ∧ n2 ≤ 16384 := by
  obtain ⟨hx, hy, hl, hG, hs⟩ : chk xs = 0 ∧ chk ys = 0 ∧ ys.length ≠ 0 ∧ Nat.gcd (val xs) (val ys) = 1 ∧ (s = true → val xs ≠ 0) := of_decide_eq_true hr
  exact ⟨fine_of_chk h1.ok hx, fine_of_chk h2.ok hy, fun h => hl ((val_zero_iff h2.ok hy).1 h), hG, hs, by rw [← h1.len]; exact chk_zero_len hx, by rw [← h2.len]; exact chk_zero_len hy⟩

theorem taken_ok {s : Bool} {a1 a2 : Option Addr} {n1 n2 c1 c2 : Nat} {xs ys : List Nat} {w : World} (h1 : Sl w a1 n1 c1 xs) (h2 : Sl w a2 n2 c2 ys) (hT : Tab w) (hr : ratB s xs ys = true) :
    Calls Tryz.prog 81 #[.agg #[.bool s, .slice a1 n1 c1, .slice a2 n2 c2]] w fun en w' => ∃ b, en = .returned (.tuple #[.pointer (some ⟨b, 0, none⟩), .int .i64 0]) ∧ Rq 43 w' w.heap.size b (sgQ' s (val xs) (val ys)) ∧ Below w.heap.size w w' := by
  obtain ⟨_, _, hD, hG, hs, _, _⟩ := rat_facts5 h1 h2 hr
  refine (rtTaken_any s a1 a2 n1 n2 c1 c2 xs ys w h1 h2 hT).mono ?_
  rintro en w' (⟨_, b, rfl, hR, hb⟩ | ⟨hn, _⟩)
  · exact ⟨b, rfl, ra_rq hR hD hG hs, hb⟩
  · rw [hr] at hn; cases hn

end Go.Proofs.YtgdhleiokfaeoaaGreatDoor

