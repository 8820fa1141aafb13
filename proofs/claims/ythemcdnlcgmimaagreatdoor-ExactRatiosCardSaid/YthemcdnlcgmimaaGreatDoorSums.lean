/-
  The book between calls, in one word; what is kept where one answer more goes in. The walk of the law's helper sums. (Printed by wip/gen/sums.py.)
-/
import Derived.Test.YthemcdnlcgmimaaGreatDoorBooks
import Derived.Test.YthemcdnlcgmimaaGreatDoorSumNs
import Derived.Test.YthemcdnlcgmimaaGreatDoorExs
import Derived.Test.YthemcdnlcgmimaaGreatDoorRfs
namespace Go.Proofs.YthemcdnlcgmimaaGreatDoor
open Go.RowKit Go.Lb

/-- A book of k answers, whose own blocks keep clear of those from lo up to hi. -/
def Bk (w : World) (pb k lo hi : Nat) : Prop :=
  ∃ L vg vw, L.length = k ∧ Book w pb pb L vg vw ∧ (∀ x ∈ L, ∀ g, blkOf x.wo = some g → pb ≤ g) ∧ ∀ g, lo ≤ g → g < hi → Clear pb vg vw g

theorem bk_below {w w' : World} {pb k lo hi : Nat} (h : Bk w pb k lo hi) (hb : Below w.heap.size w w') : Bk w' pb k lo hi := by
  obtain ⟨L, vg, vw, h1, h2, h3, h4⟩ := h
  exact ⟨L, vg, vw, h1, h2.below hb, h3, h4⟩

theorem bk_range {w : World} {pb k lo hi : Nat} (hi' : Nat) (h : Bk w pb k lo hi) : Bk w pb k w.heap.size hi' := by
  obtain ⟨L, vg, vw, h1, h2, h3, _⟩ := h
  exact ⟨L, vg, vw, h1, h2, h3, fun g hg _ => h2.clear hg⟩

theorem bk_none {w : World} {pb k lo hi : Nat} (h : Bk w pb k lo hi) : Bk w pb k 0 0 := by
  obtain ⟨L, vg, vw, h1, h2, h3, _⟩ := h
  exact ⟨L, vg, vw, h1, h2, h3, fun g _ hg => absurd hg (by omega)⟩

theorem bk_new (w : World) (t : TypeId) : Bk (w.alloc (.cells #[.slice none 0 0, .slice none 0 0, .bool false] t)) w.heap.size 0 0 0 :=
  ⟨[], _, _, rfl, book_new w t (Nat.le_refl _), (fun x hx => by cases hx), fun g _ hg => absurd hg (by omega)⟩

theorem bk_lt {w : World} {pb k lo hi : Nat} (h : Bk w pb k lo hi) : pb < w.heap.size := by
  obtain ⟨L, vg, vw, h1, h2, h3, _⟩ := h
  exact h2.lt

/-- dyadic, of an answer that is what it must be. -/
theorem bk_dyadic {w0 w : World} {pb k lo hi : Nat} (hk : Bk w0 pb k lo hi) (hb : Below w0.heap.size w0 w) (hhi : hi ≤ w0.heap.size) (neg : Bool) (x er : Int) (a b : Option Addr) (n c c2 : Nat) (ys : List Nat)
    (hg : Fr 46 w w0.heap.size a n c ys) (hw : Fr 46 w w0.heap.size b n c2 ys) (hs : n + 41 ≤ 35184372088832) (hkk : k ≤ 1000) :
    Calls Tryz.prog 11 #[.pointer (some ⟨pb, 0, none⟩), .agg #[.bool neg, .slice a n c, .int .i64 x], .int .i64 er, .agg #[.bool neg, .slice b n c2, .int .i64 x], .int .i64 er] w
      fun e w' => e = .returned (.tuple #[]) ∧ Bk w' pb (k + 1) lo hi ∧ Below pb w w' ∧ ∀ g, lo ≤ g → g < hi → w'.heap[g]? = w.heap[g]? := by
  obtain ⟨L, vg, vw, rfl, h2, h3, h4⟩ := hk
  have hl := h2.lt
  have hW := h2.below hb
  have hsz := hb.size
  refine (dyadic_any pb L.length vg vw (L.map Item.got) (L.map Item.want) neg x er a b n c c2 ys w hW.c0 hW.c1 hW.z0 hW.z1 hW.og hW.ow hW.hvw (by omega) hg.sl hw.sl).mono ?_
  rintro e w' ⟨rfl, hA⟩
  have hbl : ∀ g, lo ≤ g → g < hi → w'.heap[g]? = w.heap[g]? := fun g g1 g2 => by
    obtain ⟨c1, c2, c3⟩ := h4 g g1 g2
    exact hA.block g (by omega) c1 (fun e => c2 e.symm) (fun e => c3 e.symm)
  obtain ⟨vg', vw', hB⟩ := hW.adds (x := ⟨a, n, c, b, c2, ys⟩) hA (hg.mono (by omega)) (hw.mono (Nat.zero_le _)) (fun g hh => h2.clear (fr_lt hg hh).1) (fun g hh => h2.clear (fr_lt hw hh).1)
    (fun y hy g hh hh2 => by
      have e1 := (fr_lt (h2.got y hy) hh).2
      have e2 := (fr_lt hg hh2).1
      omega) hs
  refine ⟨rfl, ⟨_, vg', vw', by simp, hB, ?_, ?_⟩, hA.below (Nat.le_refl _) hW.lt hW.og.lt hW.ow.lt, hbl⟩
  · intro y hy g hh
    rcases List.mem_append.1 hy with hy | hy
    · exact h3 y hy g hh
    · obtain rfl := List.mem_singleton.1 hy
      have := (fr_lt hw hh).1
      omega
  · intro g g1 g2
    obtain ⟨c1, c2, c3⟩ := h4 g g1 g2
    obtain ⟨p1, q1, p2, q2, r1, r2, _, _, r5, r6, _⟩ := hA.new
    have e1 : vg' = _ := Option.some.inj (hB.c0.symm.trans r1)
    have e2 : vw' = _ := Option.some.inj (hB.c1.symm.trans r2)
    subst e1
    subst e2
    refine ⟨c1, fun e => ?_, fun e => ?_⟩
    · have e' : p1 = g := Option.some.inj e
      subst e'
      rcases r5 with h5 | h5
      · exact c2 h5
      · omega
    · have e' : p2 = g := Option.some.inj e
      subst e'
      rcases r6 with h6 | h6
      · exact c3 h6
      · omega

/-- A write into a block that is older than the book. -/
theorem bk_set {w : World} {pb k lo hi : Nat} (h : Bk w pb k lo hi) {p : Addr} (hp : p.block < pb) (v : Value) : Bk (w.setCell p v) pb k lo hi := by
  obtain ⟨L, vg, vw, h1, h2, h3, h4⟩ := h
  have hc : ∀ j, (w.setCell p v).cell? ⟨pb, j, none⟩ = w.cell? ⟨pb, j, none⟩ := fun j => World.cell?_setCell_other _ _ _ _ (fun e => by have := congrArg Addr.block e; simp at this; omega)
  have hF : ∀ {base : Nat} {ao : Option Addr} {n c : Nat} {xs : List Nat}, Fr 46 w base ao n c xs → (∀ g, blkOf ao = some g → pb ≤ g) → Fr 46 (w.setCell p v) base ao n c xs := fun hF hh =>
    fr_at hF (by simp) fun g hg _ => Below.heap_setCell w p v g (by have := hh g hg; omega)
  refine ⟨L, vg, vw, h1, ⟨h2.base, (hc 0).trans h2.c0, (hc 1).trans h2.c1, (hc 2).trans h2.c2, (World.frozen?_setCell ..).trans h2.z0, (World.frozen?_setCell ..).trans h2.z1, ownsRow_setCell_below h2.og (by omega) v, ownsRow_setCell_below h2.ow (by omega) v, h2.hvw, fun x hx => hF (h2.got x hx) fun g hg => (fr_lt (h2.got x hx) hg).1, fun x hx => hF (h2.want x hx) (h3 x hx), h2.gotB, h2.wantB, h2.apart, h2.small⟩, h3, h4⟩

theorem cell3_of {w w' : World} {b : Nat} {u v x : Value} (h : w.cell? ⟨b, 0, none⟩ = some u ∧ w.cell? ⟨b, 1, none⟩ = some v ∧ w.cell? ⟨b, 2, none⟩ = some x) (e : w'.heap[b]? = w.heap[b]?) : w'.cell? ⟨b, 0, none⟩ = some u ∧ w'.cell? ⟨b, 1, none⟩ = some v ∧ w'.cell? ⟨b, 2, none⟩ = some x :=
  ⟨(World.cell?_of_block e).trans h.1, (World.cell?_of_block e).trans h.2.1, (World.cell?_of_block e).trans h.2.2⟩

theorem limbs_mono {m n : Nat} (h : m ≤ n) : (limbs m).length ≤ (limbs n).length := limbs_length_le (Nat.lt_of_le_of_lt h (lt_of_limbs_length (Nat.le_refl _)))

theorem mkN_le (ys : List Nat) (x : Int) : mkN ys x ≤ val ys := by
  unfold mkN
  split
  · exact Nat.div_le_self _ _
  · exact Nat.zero_le _

theorem big_len {N : Nat} (h : bigE N = 0) : (limbs N).length ≤ 16384 := by
  unfold bigE at h
  split at h
  · assumption
  · cases h

theorem val_len {xs : List Nat} (hok : Ok xs) (hc : chk xs = 0) : (limbs (val xs)).length ≤ 16384 := by
  rw [limbs_val (fine_of_chk hok hc)]
  exact chk_zero_len hc

theorem mkA_small {s : Bool} {N : Nat} {x : Int} (h : (limbs N).length ≤ 16384) : (limbs (mkA s N x).N).length ≤ 16384 := by
  have h1 := mkN_le (limbs N) x
  rw [val_limbs'] at h1
  exact Nat.le_trans (limbs_mono h1) h

theorem addA_small {s t : Bool} {xs ys : List Nat} {x y : Int} (hx : Ok xs) (hy : Ok ys) : (limbs (addA s xs x t ys y).N).length ≤ 16384 := by
  unfold addA
  have hz : ∀ e : Int, (limbs (noA e).N).length ≤ 16384 := fun e => by show (limbs 0).length ≤ _; rw [limbs_zero]; decide
  split
  · exact hz _
  · rename_i d1
    split
    · exact hz _
    · rename_i d2
      split
      · exact val_len hy (dchk_chk (Decidable.byContradiction d2))
      · split
        · exact val_len hx (dchk_chk (Decidable.byContradiction d1))
        · split
          · exact hz _
          · rename_i hg
            split
            · split
              · exact hz _
              · rename_i h3
                exact mkA_small (big_len (Decidable.byContradiction h3))
            · split
              · exact mkA_small (Nat.le_trans (limbs_mono (Nat.sub_le _ _)) (big_len (Decidable.byContradiction fun hh => hg (.inl hh))))
              · exact mkA_small (Nat.le_trans (limbs_mono (Nat.sub_le _ _)) (big_len (Decidable.byContradiction fun hh => hg (.inr hh))))

theorem mulA_small {s t : Bool} {xs ys : List Nat} {x y : Int} : (limbs (mulA s xs x t ys y).N).length ≤ 16384 := by
  unfold mulA
  have hz : ∀ e : Int, (limbs (noA e).N).length ≤ 16384 := fun e => by show (limbs 0).length ≤ _; rw [limbs_zero]; decide
  split
  · exact hz _
  · split
    · exact hz _
    · split
      · exact hz _
      · split
        · exact hz _
        · rename_i h3
          exact mkA_small (big_len (Decidable.byContradiction h3))

theorem negA_small {s : Bool} {xs : List Nat} {x : Int} (hx : Ok xs) : (limbs (negA s xs x).N).length ≤ 16384 := by
  unfold negA
  have hz : ∀ e : Int, (limbs (noA e).N).length ≤ 16384 := fun e => by show (limbs 0).length ≤ _; rw [limbs_zero]; decide
  split
  · exact hz _
  · rename_i d1
    split
    · exact hz _
    · exact val_len hx (dchk_chk (Decidable.byContradiction d1))

end Go.Proofs.YthemcdnlcgmimaaGreatDoor

namespace Go.Proofs.YthemcdnlcgmimaaGreatDoor
open Go.RowKit Go.Lb

theorem cell3_at {w w' : World} {b : Nat} {u v x : Value} (h : Cell3 w b u v x) (e : w'.heap[b]? = w.heap[b]?) : Cell3 w' b u v x :=
  ⟨(World.cell?_of_block e).trans h.c0, (World.cell?_of_block e).trans h.c1, (World.cell?_of_block e).trans h.c2⟩

theorem cell3_box {w : World} {b : Nat} {u v x : Value} (h : Box3 w b u v x) : Cell3 w b u v x := ⟨h.c0, h.c1, h.c2⟩

/-- Four blocks of three cells, laid one behind the other. -/
theorem four_new (w w5 : World) (x0 x1 x2 y0 y1 y2 u0 u1 u2 z0 z1 z2 : Value) (t : TypeId)
    (hb : Below ((((w.alloc (.cells #[x0, x1, x2] t)).alloc (.cells #[y0, y1, y2] t)).alloc (.cells #[u0, u1, u2] t)).alloc (.cells #[z0, z1, z2] t)).heap.size ((((w.alloc (.cells #[x0, x1, x2] t)).alloc (.cells #[y0, y1, y2] t)).alloc (.cells #[u0, u1, u2] t)).alloc (.cells #[z0, z1, z2] t)) w5) :
    Cell3 w5 w.heap.size x0 x1 x2 ∧ Cell3 w5 (w.heap.size + 1) y0 y1 y2 ∧ Cell3 w5 (w.heap.size + 1 + 1) u0 u1 u2 ∧ Cell3 w5 (w.heap.size + 1 + 1 + 1) z0 z1 z2 ∧ Below w.heap.size w w5 ∧ w.heap.size + 4 ≤ w5.heap.size := by
  have A := cell3_box (((((box3_new w x0 x1 x2 t).alloc (.cells #[y0, y1, y2] t)).alloc (.cells #[u0, u1, u2] t)).alloc (.cells #[z0, z1, z2] t)).stay hb)
  have B := cell3_box ((((box3_new (w.alloc (.cells #[x0, x1, x2] t)) y0 y1 y2 t).alloc (.cells #[u0, u1, u2] t)).alloc (.cells #[z0, z1, z2] t)).stay hb)
  have C := cell3_box (((box3_new ((w.alloc (.cells #[x0, x1, x2] t)).alloc (.cells #[y0, y1, y2] t)) u0 u1 u2 t).alloc (.cells #[z0, z1, z2] t)).stay hb)
  have D := cell3_box ((box3_new (((w.alloc (.cells #[x0, x1, x2] t)).alloc (.cells #[y0, y1, y2] t)).alloc (.cells #[u0, u1, u2] t)) z0 z1 z2 t).stay hb)
  rw [World.size_alloc] at B
  rw [World.size_alloc, World.size_alloc] at C
  rw [World.size_alloc, World.size_alloc, World.size_alloc] at D
  have h := hb.size
  simp only [World.size_alloc] at h
  exact ⟨A, B, C, D, next (more (more (more (more (Below.refl _ _) _) _) _) _) hb, h⟩

theorem le_al (w : World) (o : Obj) : w.heap.size ≤ (w.alloc o).heap.size := by simp
theorem nxp {n : Nat} {V wp w' : World} (h : Below n V wp) (hn : n ≤ wp.heap.size) (k : Below wp.heap.size wp w') : Below n V w' := h.trans (k.mono hn)

/-- The blocks from lo on that were there are as they were. -/
def Hr (w : World) (lo : Nat) (W : World) : Prop := ∀ g, lo ≤ g → g < w.heap.size → W.heap[g]? = w.heap[g]?
theorem hr_refl (w : World) (lo : Nat) : Hr w lo w := fun _ _ _ => rfl
theorem hr_below {w W W' : World} {lo : Nat} (h : Hr w lo W) (hb : Below W.heap.size W W') (hs : w.heap.size ≤ W.heap.size) : Hr w lo W' := fun g g1 g2 => (hb.block g (by omega)).trans (h g g1 g2)
theorem hr_same {w W W' : World} {lo : Nat} (h : Hr w lo W) (hb : ∀ g, lo ≤ g → g < w.heap.size → W'.heap[g]? = W.heap[g]?) : Hr w lo W' := fun g g1 g2 => (hb g g1 g2).trans (h g g1 g2)

theorem bk_more {w : World} {pb k lo : Nat} (hi : Nat) (h : Bk w pb k lo w.heap.size) : Bk w pb k lo hi := by
  obtain ⟨L, vg, vw, h1, h2, h3, h4⟩ := h
  refine ⟨L, vg, vw, h1, h2, h3, fun g g1 g2 => ?_⟩
  rcases Nat.lt_or_ge g w.heap.size with hh | hh
  · exact h4 g g1 hh
  · exact h2.clear hh

end Go.Proofs.YthemcdnlcgmimaaGreatDoor
