/-
  Plain: products, quotients, sums of fractions in lowest terms, as they are reckoned. No program in sight. Plain: signs, inverses and order of fractions as they are reckoned. No program in sight.
-/
import Derived.Test.YtklibjdhlmdkpaaGreatDoorQIntL
import Derived.Test.YtklibjdhlmdkpaaGreatDoorQRndL
import Derived.Test.YtklibjdhlmdkpaaGreatDoorQRdD
namespace Go.Lb

open Go.RowKit Go.Proofs.YtklibjdhlmdkpaaGreatDoor

end Go.Lb

namespace Go.Lb

open Go.RowKit Go.Proofs.YtklibjdhlmdkpaaGreatDoor

/-- The sign's cell was written. -/
theorem In.sign {e : TypeId} {w : World} {base b : Nat} {s : Bool} {ao : Option Addr} {k c N : Nat} (h : In e w base b s ao k c N) (s' : Bool) : In e (w.setCell ⟨b, 0, none⟩ (.bool s')) base b s' ao k c N := by
  refine ⟨World.cell?_setCell_same _ _ _ h.c0, ?_, by simp [h.z0], by simp [h.z1], ?_, h.ne, h.hb⟩
  · rw [World.cell?_setCell_other _ _ _ _ (by simp)]; exact h.c1
  · exact fr_at h.fr (by simp) (fun g hgb hgl => (grown_set w b 0 _).block g hgl (fun e => h.ne (by rw [hgb, e])))

theorem Ra.sign {e : TypeId} {w : World} {base b : Nat} {s : Bool} {N D : Nat} (h : Ra e w base b s N D) (s' : Bool) : Ra e (w.setCell ⟨b, 0, none⟩ (.bool s')) base b s' N D := by
  obtain ⟨⟨ao, k, c, hi⟩, ⟨ad, kd, cd, ds, h2, hf, hd, hn⟩, hz⟩ := h
  refine ⟨⟨ao, k, c, hi.sign s'⟩, ⟨ad, kd, cd, ds, ?_, ?_, hd, hn⟩, by simp [hz]⟩
  · rw [World.cell?_setCell_other _ _ _ _ (by simp)]; exact h2
  · exact fr_at hf (by simp) (fun g hgb hgl => (grown_set w b 0 _).block g hgl (fun e => hn (by rw [hgb, e])))

/-- No block of words. -/
def Hd (e : TypeId) (w : World) (b : Nat) : Prop := ∀ cur, w.heap[b]? ≠ some (.cells cur e (0, 0))

theorem Hd.stay {e : TypeId} {w w' : World} {b : Nat} (h : Hd e w b) (hb : b < w.heap.size) (k : Below w.heap.size w w') : Hd e w' b := fun cur => by rw [k.block b hb]; exact h cur

theorem hd_new {e t : TypeId} (w : World) (cs : Array Value) (h : t ≠ e) : Hd e (w.alloc (.cells cs t)) w.heap.size := fun cur => by
  rw [heap_alloc_new]
  intro h2
  injection h2 with h2
  injection h2 with _ h3 _
  exact h h3

theorem fr_hd {e : TypeId} {w : World} {base b : Nat} {ao : Option Addr} {n c : Nat} {xs : List Nat} (hf : Fr e w base ao n c xs) (h : Hd e w b) : blkOf ao ≠ some b := by
  rcases hf.blk with ⟨rfl, _⟩ | ⟨g, cur, rfl, _, hh, _⟩
  · intro h2; cases h2
  · intro h2
    have : g = b := Option.some.inj h2
    subst this
    exact h cur hh

end Go.Lb

/-
  Plain: powers of two as fractions; products with them. No program in sight. Plain: the reference's roundings of fractions, said by RndL's words. No program in sight.
-/
namespace Go.Lb

open Go.RowKit Go.Proofs.YtklibjdhlmdkpaaGreatDoor

/-- 2 to the power of n. -/
def p2 (n : Int) : Rat := (2 : Rat) ^ n

end Go.Lb

namespace Go.Lb

open Go.RowKit Go.Proofs.YtklibjdhlmdkpaaGreatDoor

end Go.Lb

/-
  Plain: rounding does not change where both are multiplied (fl_same); a number far beyond all floats, or far below them, rounds alike whatever its power (sg_near). No program in sight. Plain: a fraction in its lowest terms, out of its sign and two numbers (mk_low); a fraction times a power of ten, across (tn_cross). No program in sight.
-/
namespace Go.Proofs.YtklibjdhlmdkpaaGreatDoor

open Go.RowKit Go.Lb

theorem sgM_same {E F N D N' D' : Nat} (hN : N ≠ 0) (hD : D ≠ 0) (hN' : N' ≠ 0) (hD' : D' ≠ 0) (h : N * D' = N' * D) (neg : Bool) (m : Nat) : sgM E F N D neg m = sgM E F N' D' neg m := by
  unfold sgM lwE
  rw [lgE_same hN hD hN' hD' h]
  exact rd_same (scD_pos (Nat.pos_of_ne_zero hD) _) (scD_pos (Nat.pos_of_ne_zero hD') _) (sc_cross h _) neg m

theorem sgX_same {E F N D N' D' : Nat} (hN : N ≠ 0) (hD : D ≠ 0) (hN' : N' ≠ 0) (hD' : D' ≠ 0) (h : N * D' = N' * D) : sgX E F N D = sgX E F N' D' := by
  unfold sgX lwE
  rw [lgE_same hN hD hN' hD' h]
  exact ex_same (scD_pos (Nat.pos_of_ne_zero hD) _) (scD_pos (Nat.pos_of_ne_zero hD') _) (sc_cross h _)

theorem sgK_same {F N D N' D' : Nat} (hN : N ≠ 0) (hD : D ≠ 0) (hN' : N' ≠ 0) (hD' : D' ≠ 0) (h : N * D' = N' * D) (neg : Bool) (m : Nat) : sgK F N D neg m = sgK F N' D' neg m := by
  unfold sgK
  rw [lgE_same hN hD hN' hD' h]
  exact rd_same (scD_pos (Nat.pos_of_ne_zero hD) _) (scD_pos (Nat.pos_of_ne_zero hD') _) (sc_cross h _) neg m

theorem fl_same {E F N D N' D' : Nat} (hN : N ≠ 0) (hD : D ≠ 0) (hN' : N' ≠ 0) (hD' : D' ≠ 0) (h : N * D' = N' * D) (neg : Bool) (m : Nat) : flB E F N D neg m = flB E F N' D' neg m ∧ flG E F N D neg m = flG E F N' D' neg m := by
  have h1 := sgM_same (E := E) (F := F) hN hD hN' hD' h neg m
  have h2 := sgX_same (E := E) (F := F) hN hD hN' hD' h
  have h3 := sgK_same (F := F) hN hD hN' hD' h neg m
  have h4 := lgE_same hN hD hN' hD' h
  have h5 : lwE E N D = lwE E N' D' := by unfold lwE; rw [h4]
  have h6 : Lb.sgB E F N D neg m = Lb.sgB E F N' D' neg m := by unfold Lb.sgB; rw [h1, h5]
  have h7 : ovB E F N D neg m = ovB E F N' D' neg m := by unfold ovB; rw [h6, h5]
  have h8 : tiny E F N D neg m = tiny E F N' D' neg m := by unfold tiny; rw [h4, h3]
  constructor
  · unfold flB; rw [h7, h6]
  · unfold flG; rw [h7, h2, h8]

theorem sgs_same {E F N D N' D' : Nat} (hD : D ≠ 0) (hD' : D' ≠ 0) (h : N * D' = N' * D) (s neg : Bool) (m : Nat) : sgBits E F N D s neg m = sgBits E F N' D' s neg m ∧ sgFlags E F N D s m = sgFlags E F N' D' s m := by
  by_cases hN : N = 0
  · have hN' : N' = 0 := by
      rw [hN, Nat.zero_mul] at h
      rcases Nat.mul_eq_zero.1 h.symm with h1 | h1
      · exact h1
      · exact absurd h1 hD
    rw [hN, hN']
    exact ⟨rfl, rfl⟩
  · have hN' : N' ≠ 0 := by
      intro hh
      rw [hh, Nat.zero_mul] at h
      rcases Nat.mul_eq_zero.1 h with h1 | h1
      · exact hN h1
      · exact hD' h1
    obtain ⟨h1, h2⟩ := fl_same (E := E) (F := F) hN hD hN' hD' h s m
    unfold sgBits sgFlags
    rw [if_neg hN, if_neg hN', if_neg hN, if_neg hN', h1, h2]
    exact ⟨rfl, rfl⟩

end Go.Proofs.YtklibjdhlmdkpaaGreatDoor

namespace Go.Proofs.YtklibjdhlmdkpaaGreatDoor

open Go.RowKit Go.Lb

/-- A fraction of a sign and two numbers. -/
def sgQ' (s : Bool) (N D : Nat) : Rat := mkRat (if s = true then -(N : Int) else (N : Int)) D

theorem mk_low {s : Bool} {N D : Nat} (hD : D ≠ 0) (hG : Nat.gcd N D = 1) (hs : s = true → N ≠ 0) : (sgQ' s N D).num.natAbs = N ∧ (sgQ' s N D).den = D ∧ decide ((sgQ' s N D).num < 0) = s := by
  have hz : (if s = true then -(N : Int) else (N : Int)).natAbs = N := by cases s <;> simp
  obtain ⟨e1, e2, e3⟩ := mk_parts (if s = true then -(N : Int) else (N : Int)) hD
  rw [hz, hG, Nat.div_one] at e1 e2
  refine ⟨e1, e2, Eq.trans e3 ?_⟩
  cases s
  · exact decide_eq_false (by simp)
  · have := hs rfl
    exact decide_eq_true (by simp; omega)

end Go.Proofs.YtklibjdhlmdkpaaGreatDoor

/-
  Plain: of a fraction the whole numbers by Down and Up lie one on each side of it, at most one apart; which of the two Even and Away take. No program in sight.
-/
namespace Go.Lb

open Go.RowKit Go.Proofs.YtklibjdhlmdkpaaGreatDoor

/-- A number with its sign. -/
def sgZ (s : Bool) (R : Nat) : Int := if s = true then -(R : Int) else (R : Int)

end Go.Lb

