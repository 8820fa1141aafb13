/-
  The book between calls, in one word; what is kept where one answer more goes in. The walk of the law's helper sums. (Printed by wip/gen/sums.py.)
-/
import Derived.Test.YtnokabglkmiidaaDoorBook
import Derived.Test.YtnokabglkmiidaaDoorSumN
import Derived.Test.YtnokabglkmiidaaDoorExAdd
import Derived.Test.YtnokabglkmiidaaDoorRfAdd
import Derived.Test.YtnokabglkmiidaaDoorRfCmp
namespace Go.Proofs.YtnokabglkmiidaaDoor
open Go.RowKit Go.Lb

/-- A book of k answers, whose own blocks keep clear of those from lo up to hi. -/
def Bk (w : World) (pb k lo hi : Nat) : Prop :=
  ∃ L vg vw, L.length = k ∧ Book w pb pb L vg vw ∧ (∀ x ∈ L, ∀ g, blkOf x.wo = some g → pb ≤ g) ∧ ∀ g, lo ≤ g → g < hi → Clear pb vg vw g

theorem bk_below {w w' : World} {pb k lo hi : Nat} (h : Bk w pb k lo hi) (hb : Below w.heap.size w w') : Bk w' pb k lo hi := by
  obtain ⟨L, vg, vw, h1, h2, h3, h4⟩ := h
  exact ⟨L, vg, vw, h1, h2.below hb, h3, h4⟩

theorem bk_range {w : World} {pb k lo hi : Nat} (hi' : Nat) (h : Bk w pb k lo hi) : Bk w pb k w.heap.size hi' := by
  obtain ⟨L, vg, vw, h1, h2, h3, _⟩ := h
  exact ⟨L, vg, vw, h1, h2, h3, fun g hg _ => h2.clear hg⟩

theorem bk_none {w : World} {pb k lo hi : Nat} (h : Bk w pb k lo hi) : Bk w pb k 0 0 := by
  obtain ⟨L, vg, vw, h1, h2, h3, _⟩ := h
  exact ⟨L, vg, vw, h1, h2, h3, fun g _ hg => absurd hg (by omega)⟩

theorem bk_new (w : World) (t : TypeId) : Bk (w.alloc (.cells #[.slice none 0 0, .slice none 0 0, .bool false] t)) w.heap.size 0 0 0 :=
  ⟨[], _, _, rfl, book_new w t (Nat.le_refl _), (fun x hx => by cases hx), fun g _ hg => absurd hg (by omega)⟩

theorem bk_lt {w : World} {pb k lo hi : Nat} (h : Bk w pb k lo hi) : pb < w.heap.size := by
  obtain ⟨L, vg, vw, h1, h2, h3, _⟩ := h
  exact h2.lt

/-- dyadic, of an answer that is what it must be. -/
theorem bk_dyadic {w0 w : World} {pb k lo hi : Nat} (hk : Bk w0 pb k lo hi) (hb : Below w0.heap.size w0 w) (hhi : hi ≤ w0.heap.size) (neg : Bool) (x er : Int) (a b : Option Addr) (n c c2 : Nat) (ys : List Nat)
    (hg : Fr 55 w w0.heap.size a n c ys) (hw : Fr 55 w w0.heap.size b n c2 ys) (hs : n + 41 ≤ 35184372088832) (hkk : k ≤ 1000) :
    Calls Tryd.prog 10 #[.pointer (some ⟨pb, 0, none⟩), .agg #[.bool neg, .slice a n c, .int .i64 x], .int .i64 er, .agg #[.bool neg, .slice b n c2, .int .i64 x], .int .i64 er] w
      fun e w' => e = .returned (.tuple #[]) ∧ Bk w' pb (k + 1) lo hi ∧ Below pb w w' ∧ ∀ g, lo ≤ g → g < hi → w'.heap[g]? = w.heap[g]? := by
  obtain ⟨L, vg, vw, rfl, h2, h3, h4⟩ := hk
  have hl := h2.lt
  have hW := h2.below hb
  have hsz := hb.size
  refine (dyadic_any pb L.length vg vw (L.map Item.got) (L.map Item.want) neg x er a b n c c2 ys w hW.c0 hW.c1 hW.z0 hW.z1 hW.og hW.ow hW.hvw (by omega) hg.sl hw.sl).mono ?_
  rintro e w' ⟨rfl, hA⟩
  have hbl : ∀ g, lo ≤ g → g < hi → w'.heap[g]? = w.heap[g]? := fun g g1 g2 => by
    obtain ⟨c1, c2, c3⟩ := h4 g g1 g2
    exact hA.block g (by omega) c1 (fun e => c2 e.symm) (fun e => c3 e.symm)
  obtain ⟨vg', vw', hB⟩ := hW.adds (x := ⟨a, n, c, b, c2, ys⟩) hA (hg.mono (by omega)) (hw.mono (Nat.zero_le _)) (fun g hh => h2.clear (fr_lt hg hh).1) (fun g hh => h2.clear (fr_lt hw hh).1)
    (fun y hy g hh hh2 => by
      have e1 := (fr_lt (h2.got y hy) hh).2
      have e2 := (fr_lt hg hh2).1
      omega) hs
  refine ⟨rfl, ⟨_, vg', vw', by simp, hB, ?_, ?_⟩, hA.below (Nat.le_refl _) hW.lt hW.og.lt hW.ow.lt, hbl⟩
  · intro y hy g hh
    rcases List.mem_append.1 hy with hy | hy
    · exact h3 y hy g hh
    · obtain rfl := List.mem_singleton.1 hy
      have := (fr_lt hw hh).1
      omega
  · intro g g1 g2
    obtain ⟨c1, c2, c3⟩ := h4 g g1 g2
    obtain ⟨p1, q1, p2, q2, r1, r2, _, _, r5, r6, _⟩ := hA.new
    have e1 : vg' = _ := Option.some.inj (hB.c0.symm.trans r1)
    have e2 : vw' = _ := Option.some.inj (hB.c1.symm.trans r2)
    subst e1
    subst e2
    refine ⟨c1, fun e => ?_, fun e => ?_⟩
    · have e' : p1 = g := Option.some.inj e
      subst e'
      rcases r5 with h5 | h5
      · exact c2 h5
      · omega
    · have e' : p2 = g := Option.some.inj e
      subst e'
      rcases r6 with h6 | h6
      · exact c3 h6
      · omega

/-- A write into a block that is older than the book. -/
theorem bk_set {w : World} {pb k lo hi : Nat} (h : Bk w pb k lo hi) {p : Addr} (hp : p.block < pb) (v : Value) : Bk (w.setCell p v) pb k lo hi := by
  obtain ⟨L, vg, vw, h1, h2, h3, h4⟩ := h
  have hc : ∀ j, (w.setCell p v).cell? ⟨pb, j, none⟩ = w.cell? ⟨pb, j, none⟩ := fun j => World.cell?_setCell_other _ _ _ _ (fun e => by have := congrArg Addr.block e; simp at this; omega)
  have hF : ∀ {base : Nat} {ao : Option Addr} {n c : Nat} {xs : List Nat}, Fr 55 w base ao n c xs → (∀ g, blkOf ao = some g → pb ≤ g) → Fr 55 (w.setCell p v) base ao n c xs := fun hF hh =>
    fr_at hF (by simp) fun g hg _ => Below.heap_setCell w p v g (by have := hh g hg; omega)
  refine ⟨L, vg, vw, h1, ⟨h2.base, (hc 0).trans h2.c0, (hc 1).trans h2.c1, (hc 2).trans h2.c2, (World.frozen?_setCell ..).trans h2.z0, (World.frozen?_setCell ..).trans h2.z1, ownsRow_setCell_below h2.og (by omega) v, ownsRow_setCell_below h2.ow (by omega) v, h2.hvw, fun x hx => hF (h2.got x hx) fun g hg => (fr_lt (h2.got x hx) hg).1, fun x hx => hF (h2.want x hx) (h3 x hx), h2.gotB, h2.wantB, h2.apart, h2.small⟩, h3, h4⟩

theorem cell3_of {w w' : World} {b : Nat} {u v x : Value} (h : w.cell? ⟨b, 0, none⟩ = some u ∧ w.cell? ⟨b, 1, none⟩ = some v ∧ w.cell? ⟨b, 2, none⟩ = some x) (e : w'.heap[b]? = w.heap[b]?) : w'.cell? ⟨b, 0, none⟩ = some u ∧ w'.cell? ⟨b, 1, none⟩ = some v ∧ w'.cell? ⟨b, 2, none⟩ = some x :=
  ⟨(World.cell?_of_block e).trans h.1, (World.cell?_of_block e).trans h.2.1, (World.cell?_of_block e).trans h.2.2⟩

theorem limbs_mono {m n : Nat} (h : m ≤ n) : (limbs m).length ≤ (limbs n).length := limbs_length_le (Nat.lt_of_le_of_lt h (lt_of_limbs_length (Nat.le_refl _)))

theorem mkN_le (ys : List Nat) (x : Int) : mkN ys x ≤ val ys := by
  unfold mkN
  split
  · exact Nat.div_le_self _ _
  · exact Nat.zero_le _

theorem big_len {N : Nat} (h : bigE N = 0) : (limbs N).length ≤ 16384 := by
  unfold bigE at h
  split at h
  · assumption
  · cases h

theorem val_len {xs : List Nat} (hok : Ok xs) (hc : chk xs = 0) : (limbs (val xs)).length ≤ 16384 := by
  rw [limbs_val (fine_of_chk hok hc)]
  exact chk_zero_len hc

theorem mkA_small {s : Bool} {N : Nat} {x : Int} (h : (limbs N).length ≤ 16384) : (limbs (mkA s N x).N).length ≤ 16384 := by
  have h1 := mkN_le (limbs N) x
  rw [val_limbs'] at h1
  exact Nat.le_trans (limbs_mono h1) h

theorem addA_small {s t : Bool} {xs ys : List Nat} {x y : Int} (hx : Ok xs) (hy : Ok ys) : (limbs (addA s xs x t ys y).N).length ≤ 16384 := by
  unfold addA
  have hz : ∀ e : Int, (limbs (noA e).N).length ≤ 16384 := fun e => by show (limbs 0).length ≤ _; rw [limbs_zero]; decide
  split
  · exact hz _
  · rename_i d1
    split
    · exact hz _
    · rename_i d2
      split
      · exact val_len hy (dchk_chk (Decidable.byContradiction d2))
      · split
        · exact val_len hx (dchk_chk (Decidable.byContradiction d1))
        · split
          · exact hz _
          · rename_i hg
            split
            · split
              · exact hz _
              · rename_i h3
                exact mkA_small (big_len (Decidable.byContradiction h3))
            · split
              · exact mkA_small (Nat.le_trans (limbs_mono (Nat.sub_le _ _)) (big_len (Decidable.byContradiction fun hh => hg (.inl hh))))
              · exact mkA_small (Nat.le_trans (limbs_mono (Nat.sub_le _ _)) (big_len (Decidable.byContradiction fun hh => hg (.inr hh))))

theorem mulA_small {s t : Bool} {xs ys : List Nat} {x y : Int} : (limbs (mulA s xs x t ys y).N).length ≤ 16384 := by
  unfold mulA
  have hz : ∀ e : Int, (limbs (noA e).N).length ≤ 16384 := fun e => by show (limbs 0).length ≤ _; rw [limbs_zero]; decide
  split
  · exact hz _
  · split
    · exact hz _
    · split
      · exact hz _
      · split
        · exact hz _
        · rename_i h3
          exact mkA_small (big_len (Decidable.byContradiction h3))

theorem negA_small {s : Bool} {xs : List Nat} {x : Int} (hx : Ok xs) : (limbs (negA s xs x).N).length ≤ 16384 := by
  unfold negA
  have hz : ∀ e : Int, (limbs (noA e).N).length ≤ 16384 := fun e => by show (limbs 0).length ≤ _; rw [limbs_zero]; decide
  split
  · exact hz _
  · rename_i d1
    split
    · exact hz _
    · exact val_len hx (dchk_chk (Decidable.byContradiction d1))

end Go.Proofs.YtnokabglkmiidaaDoor

namespace Go.Proofs.YtnokabglkmiidaaDoor
open Go.RowKit Go.Lb

theorem cell3_at {w w' : World} {b : Nat} {u v x : Value} (h : Cell3 w b u v x) (e : w'.heap[b]? = w.heap[b]?) : Cell3 w' b u v x :=
  ⟨(World.cell?_of_block e).trans h.c0, (World.cell?_of_block e).trans h.c1, (World.cell?_of_block e).trans h.c2⟩

theorem cell3_box {w : World} {b : Nat} {u v x : Value} (h : Box3 w b u v x) : Cell3 w b u v x := ⟨h.c0, h.c1, h.c2⟩

/-- Four blocks of three cells, laid one behind the other. -/
theorem four_new (w w5 : World) (x0 x1 x2 y0 y1 y2 u0 u1 u2 z0 z1 z2 : Value) (t : TypeId)
    (hb : Below ((((w.alloc (.cells #[x0, x1, x2] t)).alloc (.cells #[y0, y1, y2] t)).alloc (.cells #[u0, u1, u2] t)).alloc (.cells #[z0, z1, z2] t)).heap.size ((((w.alloc (.cells #[x0, x1, x2] t)).alloc (.cells #[y0, y1, y2] t)).alloc (.cells #[u0, u1, u2] t)).alloc (.cells #[z0, z1, z2] t)) w5) :
    Cell3 w5 w.heap.size x0 x1 x2 ∧ Cell3 w5 (w.heap.size + 1) y0 y1 y2 ∧ Cell3 w5 (w.heap.size + 1 + 1) u0 u1 u2 ∧ Cell3 w5 (w.heap.size + 1 + 1 + 1) z0 z1 z2 ∧ Below w.heap.size w w5 ∧ w.heap.size + 4 ≤ w5.heap.size := by
  have A := cell3_box (((((box3_new w x0 x1 x2 t).alloc (.cells #[y0, y1, y2] t)).alloc (.cells #[u0, u1, u2] t)).alloc (.cells #[z0, z1, z2] t)).stay hb)
  have B := cell3_box ((((box3_new (w.alloc (.cells #[x0, x1, x2] t)) y0 y1 y2 t).alloc (.cells #[u0, u1, u2] t)).alloc (.cells #[z0, z1, z2] t)).stay hb)
  have C := cell3_box (((box3_new ((w.alloc (.cells #[x0, x1, x2] t)).alloc (.cells #[y0, y1, y2] t)) u0 u1 u2 t).alloc (.cells #[z0, z1, z2] t)).stay hb)
  have D := cell3_box ((box3_new (((w.alloc (.cells #[x0, x1, x2] t)).alloc (.cells #[y0, y1, y2] t)).alloc (.cells #[u0, u1, u2] t)) z0 z1 z2 t).stay hb)
  rw [World.size_alloc] at B
  rw [World.size_alloc, World.size_alloc] at C
  rw [World.size_alloc, World.size_alloc, World.size_alloc] at D
  have h := hb.size
  simp only [World.size_alloc] at h
  exact ⟨A, B, C, D, next (more (more (more (more (Below.refl _ _) _) _) _) _) hb, h⟩

theorem le_al (w : World) (o : Obj) : w.heap.size ≤ (w.alloc o).heap.size := by simp
theorem nxp {n : Nat} {V wp w' : World} (h : Below n V wp) (hn : n ≤ wp.heap.size) (k : Below wp.heap.size wp w') : Below n V w' := h.trans (k.mono hn)

/-- The blocks from lo on that were there are as they were. -/
def Hr (w : World) (lo : Nat) (W : World) : Prop := ∀ g, lo ≤ g → g < w.heap.size → W.heap[g]? = w.heap[g]?
theorem hr_refl (w : World) (lo : Nat) : Hr w lo w := fun _ _ _ => rfl
theorem hr_below {w W W' : World} {lo : Nat} (h : Hr w lo W) (hb : Below W.heap.size W W') (hs : w.heap.size ≤ W.heap.size) : Hr w lo W' := fun g g1 g2 => (hb.block g (by omega)).trans (h g g1 g2)
theorem hr_same {w W W' : World} {lo : Nat} (h : Hr w lo W) (hb : ∀ g, lo ≤ g → g < w.heap.size → W'.heap[g]? = W.heap[g]?) : Hr w lo W' := fun g g1 g2 => (hb g g1 g2).trans (h g g1 g2)

theorem bk_more {w : World} {pb k lo : Nat} (hi : Nat) (h : Bk w pb k lo w.heap.size) : Bk w pb k lo hi := by
  obtain ⟨L, vg, vw, h1, h2, h3, h4⟩ := h
  refine ⟨L, vg, vw, h1, h2, h3, fun g g1 g2 => ?_⟩
  rcases Nat.lt_or_ge g w.heap.size with hh | hh
  · exact h4 g g1 hh
  · exact h2.clear hh

set_option maxRecDepth 100000 in
set_option maxHeartbeats 4000000 in
theorem sums_any (pb k lo : Nat) (s t : Bool) (a1 a2 b1 b2 : Option Addr) (n1 n2 c1 c2 d1 d2 : Nat) (x y : Int) (xs ys : List Nat) (V w : World) (hV : Below pb V w) (S1 : ∀ W : World, Below pb V W → Sl W a1 n1 c1 xs) (S2 : ∀ W : World, Below pb V W → Sl W a2 n2 c2 ys)
    (S3 : ∀ W : World, Below pb V W → Hr w lo W → Sl W b1 n1 d1 xs) (S4 : ∀ W : World, Below pb V W → Sl W b2 n2 d2 ys) (hT : ∀ W : World, Below pb V W → Tab W) (hk : Bk w pb k lo w.heap.size) (hlo : lo ≤ w.heap.size) (hkk : k ≤ 900) :
    Calls Tryd.prog 25 #[.pointer (some ⟨pb, 0, none⟩), .agg #[.bool s, .slice a1 n1 c1, .int .i64 x], .agg #[.bool t, .slice a2 n2 c2, .int .i64 y], .agg #[.bool s, .slice b1 n1 d1, .int .i64 x], .agg #[.bool t, .slice b2 n2 d2, .int .i64 y]] w fun e w' =>
      e = .returned (.bool true) ∧ Bk w' pb (k + 2) 0 0 ∧ Below pb V w' ∧ w.heap.size ≤ w'.heap.size := by
  have lD : (limbs (addA s xs x t ys y).N).length ≤ 16384 := addA_small (S1 w hV).ok (S2 w hV).ok
  have lM : (limbs (mulA s xs x t ys y).N).length ≤ 16384 := mulA_small
  have cC : ∀ W : World, Below pb V W → Calls Tryd.prog 54 #[.agg #[.bool s, .slice a1 n1 c1, .int .i64 x], .agg #[.bool t, .slice a2 n2 c2, .int .i64 y]] W fun e w' => e = .returned (.tuple #[.int .i64 (cmpA s xs x t ys y), .int .i64 (cmpF s xs x t ys y)]) ∧ Below W.heap.size W w' := fun W hW => exCmp_any s t a1 a2 n1 n2 c1 c2 x y xs ys W (S1 W hW) (S2 W hW)
  have cD : ∀ W : World, Below pb V W → Hr w lo W → Calls Tryd.prog 55 #[.agg #[.bool s, .slice b1 n1 d1, .int .i64 x], .agg #[.bool t, .slice b2 n2 d2, .int .i64 y]] W fun e w' => e = .returned (.tuple #[.int .i64 (cmpA s xs x t ys y), .int .i64 (cmpF s xs x t ys y)]) ∧ Below W.heap.size W w' := fun W hW hH => rfCmp_any s t b1 b2 n1 n2 d1 d2 x y xs ys W (S3 W hW hH) (S4 W hW)
  have cA : ∀ W : World, Below pb V W → Calls Tryd.prog 56 #[.agg #[.bool s, .slice a1 n1 c1, .int .i64 x], .agg #[.bool t, .slice a2 n2 c2, .int .i64 y]] W (Dyn (addA s xs x t ys y) W) := fun W hW => exAdd_any s t a1 a2 n1 n2 c1 c2 x y xs ys W (S1 W hW) (S2 W hW) (hT W hW)
  have cB : ∀ W : World, Below pb V W → Hr w lo W → Calls Tryd.prog 57 #[.agg #[.bool s, .slice b1 n1 d1, .int .i64 x], .agg #[.bool t, .slice b2 n2 d2, .int .i64 y]] W (Dyn (addA s xs x t ys y) W) := fun W hW hH => rfAdd_any s t b1 b2 n1 n2 d1 d2 x y xs ys W (S3 W hW hH) (S4 W hW)
  have cM : ∀ W : World, Below pb V W → Calls Tryd.prog 58 #[.agg #[.bool s, .slice a1 n1 c1, .int .i64 x], .agg #[.bool t, .slice a2 n2 c2, .int .i64 y]] W (Dyn (mulA s xs x t ys y) W) := fun W hW => exMul_any s t a1 a2 n1 n2 c1 c2 x y xs ys W (S1 W hW) (S2 W hW) (hT W hW)
  have cN : ∀ W : World, Below pb V W → Hr w lo W → Calls Tryd.prog 59 #[.agg #[.bool s, .slice b1 n1 d1, .int .i64 x], .agg #[.bool t, .slice b2 n2 d2, .int .i64 y]] W (Dyn (mulA s xs x t ys y) W) := fun W hW hH => rfMul_any s t b1 b2 n1 n2 d1 d2 x y xs ys W (S3 W hW hH) (S4 W hW)
  clear S1 S2 S3 S4 hT
  generalize addA s xs x t ys y = D at lD cA cB
  generalize mulA s xs x t ys y = M at lM cM cN
  generalize cmpA s xs x t ys y = cv at cC cD
  generalize cmpF s xs x t ys y = ce at cC cD
  have hpw := bk_lt hk
  go_enter Tryd.func25, Tryd.ntmps25
  go_wp2_with (first
    | (go_at_call 54; (with_reducible refine (cC _ ((((hV.alloc (by omega) _).alloc (by simp; omega) _).alloc (by simp; omega) _).alloc (by simp; omega) _)).mono ?_); rintro e w5 ⟨rfl, hb5⟩; obtain ⟨X, Y, U, Z, hW, hhi⟩ := four_new w w5 _ _ _ _ _ _ _ _ _ _ _ _ _ hb5; have hVW := nxp hV (by omega) hW; have hR := hr_below (hr_refl w lo) hW (Nat.le_refl _); have hsz := hW.size; have K := bk_below (bk_more (w.heap.size + 4) hk) hW; have ⟨v1_0, v1_1, v1_2⟩ := X; have ⟨v2_0, v2_1, v2_2⟩ := Y; have ⟨v3_0, v3_1, v3_2⟩ := U; have ⟨v4_0, v4_1, v4_2⟩ := Z)
    | (go_at_call 55; (with_reducible refine (cD _ hVW hR).mono ?_); rintro e w6 ⟨rfl, hb6⟩; replace hR := hr_below hR hb6 hsz; replace hVW := nxp hVW (by omega) hb6; replace hsz := Nat.le_trans hsz hb6.size; replace K := bk_below K hb6; replace hhi := Nat.le_trans hhi hb6.size; replace X := X.stay hb6; replace Y := Y.stay hb6; replace U := U.stay hb6; replace Z := Z.stay hb6; have ⟨v5_0, v5_1, v5_2⟩ := X; have ⟨v6_0, v6_1, v6_2⟩ := Y; have ⟨v7_0, v7_1, v7_2⟩ := U; have ⟨v8_0, v8_1, v8_2⟩ := Z)
    | (go_at_call 56; (with_reducible refine (cA _ hVW).mono ?_); rintro e w7 ⟨ao1, m1, e1, rfl, hF1, hb7⟩; have hK := (Below.refl _ _).trans hb7; replace hK := more hK (.cells #[.bool D.s, .slice ao1 m1 e1, .int .i64 D.x] 26); replace hF1 := hF1.alloc (.cells #[.bool D.s, .slice ao1 m1 e1, .int .i64 D.x] 26); have G1 := box3_new w7 (.bool D.s) (.slice ao1 m1 e1) (.int .i64 D.x) 26; have ⟨g1a, g1b, g1c, g1d, g1e, g1f⟩ := G1; replace hR := hr_below (hr_below hR hb7 (by omega)) (more (Below.refl _ _) (.cells #[.bool D.s, .slice ao1 m1 e1, .int .i64 D.x] 26)) (by have := hb7.size; omega); replace hVW := (nxp hVW (by omega) hb7).alloc (by have := hb7.size; omega) (.cells #[.bool D.s, .slice ao1 m1 e1, .int .i64 D.x] 26); replace hsz := Nat.le_trans (Nat.le_trans hsz hb7.size) (le_al w7 (.cells #[.bool D.s, .slice ao1 m1 e1, .int .i64 D.x] 26)); replace X := cell3_alloc (X.stay hb7) (.cells #[.bool D.s, .slice ao1 m1 e1, .int .i64 D.x] 26); replace Y := cell3_alloc (Y.stay hb7) (.cells #[.bool D.s, .slice ao1 m1 e1, .int .i64 D.x] 26); replace U := cell3_alloc (U.stay hb7) (.cells #[.bool D.s, .slice ao1 m1 e1, .int .i64 D.x] 26); replace Z := cell3_alloc (Z.stay hb7) (.cells #[.bool D.s, .slice ao1 m1 e1, .int .i64 D.x] 26); have ⟨v9_0, v9_1, v9_2⟩ := X; have ⟨v10_0, v10_1, v10_2⟩ := Y; have ⟨v11_0, v11_1, v11_2⟩ := U; have ⟨v12_0, v12_1, v12_2⟩ := Z)
    | (go_at_call 57; (with_reducible refine (cB _ hVW hR).mono ?_); rintro e w8 ⟨ao2, m2, e2, rfl, hF2, hb8⟩; obtain rfl : m1 = m2 := (by rw [← hF1.sl.len, ← hF2.sl.len]); have hzK := hK.size; replace hF1 := (hF1.below hb8).alloc (.cells #[.bool D.s, .slice ao2 m1 e2, .int .i64 D.x] 26); replace hF2 := (hF2.mono hzK).alloc (.cells #[.bool D.s, .slice ao2 m1 e2, .int .i64 D.x] 26); replace hK := more (next hK hb8) (.cells #[.bool D.s, .slice ao2 m1 e2, .int .i64 D.x] 26); have H1 := (G1.stay hb8).alloc (.cells #[.bool D.s, .slice ao2 m1 e2, .int .i64 D.x] 26); have ⟨h1a, h1b, h1c, h1d, h1e, h1f⟩ := H1; have G2 := box3_new w8 (.bool D.s) (.slice ao2 m1 e2) (.int .i64 D.x) 26; have ⟨g2a, g2b, g2c, g2d, g2e, g2f⟩ := G2; replace hR := hr_below (hr_below hR hb8 (by omega)) (more (Below.refl _ _) (.cells #[.bool D.s, .slice ao2 m1 e2, .int .i64 D.x] 26)) (by have := hb8.size; omega); replace hVW := (nxp hVW (by omega) hb8).alloc (by have := hb8.size; omega) (.cells #[.bool D.s, .slice ao2 m1 e2, .int .i64 D.x] 26); replace hsz := Nat.le_trans (Nat.le_trans hsz hb8.size) (le_al w8 (.cells #[.bool D.s, .slice ao2 m1 e2, .int .i64 D.x] 26)); replace X := cell3_alloc (X.stay hb8) (.cells #[.bool D.s, .slice ao2 m1 e2, .int .i64 D.x] 26); replace Y := cell3_alloc (Y.stay hb8) (.cells #[.bool D.s, .slice ao2 m1 e2, .int .i64 D.x] 26); replace U := cell3_alloc (U.stay hb8) (.cells #[.bool D.s, .slice ao2 m1 e2, .int .i64 D.x] 26); replace Z := cell3_alloc (Z.stay hb8) (.cells #[.bool D.s, .slice ao2 m1 e2, .int .i64 D.x] 26); have ⟨v13_0, v13_1, v13_2⟩ := X; have ⟨v14_0, v14_1, v14_2⟩ := Y; have ⟨v15_0, v15_1, v15_2⟩ := U; have ⟨v16_0, v16_1, v16_2⟩ := Z)
    | (go_at_call 10; (with_reducible refine (bk_dyadic K hK hhi D.s D.x D.e ao1 ao2 m1 e1 e2 (limbs D.N) hF1 hF2 (by rw [hF1.sl.len] at lD; omega) (by omega)).mono ?_); rintro e w21 ⟨rfl, K2, hB, hbl⟩; replace hVW := hVW.trans hB; replace hR := hr_same hR (fun g g1 g2 => hbl g g1 (by omega)); replace hsz := Nat.le_trans hsz hB.size; have hhj := Nat.le_trans hhi (Nat.le_trans hK.size hB.size); replace K := K2; clear K2 hK hhi; replace X := cell3_at X (hbl _ (by omega) (by omega)); replace Y := cell3_at Y (hbl _ (by omega) (by omega)); replace U := cell3_at U (hbl _ (by omega) (by omega)); replace Z := cell3_at Z (hbl _ (by omega) (by omega)); have hhi := hhj; clear hhj; have ⟨v17_0, v17_1, v17_2⟩ := X; have ⟨v18_0, v18_1, v18_2⟩ := Y; have ⟨v19_0, v19_1, v19_2⟩ := U; have ⟨v20_0, v20_1, v20_2⟩ := Z)
    | (go_at_call 58; (with_reducible refine (cM _ hVW).mono ?_); rintro e w9 ⟨ao3, m3, e3, rfl, hF3, hb9⟩; have hK := (Below.refl _ _).trans hb9; replace hK := more hK (.cells #[.bool M.s, .slice ao3 m3 e3, .int .i64 M.x] 26); replace hF3 := hF3.alloc (.cells #[.bool M.s, .slice ao3 m3 e3, .int .i64 M.x] 26); have G3 := box3_new w9 (.bool M.s) (.slice ao3 m3 e3) (.int .i64 M.x) 26; have ⟨g3a, g3b, g3c, g3d, g3e, g3f⟩ := G3; replace hR := hr_below (hr_below hR hb9 (by omega)) (more (Below.refl _ _) (.cells #[.bool M.s, .slice ao3 m3 e3, .int .i64 M.x] 26)) (by have := hb9.size; omega); replace hVW := (nxp hVW (by omega) hb9).alloc (by have := hb9.size; omega) (.cells #[.bool M.s, .slice ao3 m3 e3, .int .i64 M.x] 26); replace hsz := Nat.le_trans (Nat.le_trans hsz hb9.size) (le_al w9 (.cells #[.bool M.s, .slice ao3 m3 e3, .int .i64 M.x] 26)); replace X := cell3_alloc (X.stay hb9) (.cells #[.bool M.s, .slice ao3 m3 e3, .int .i64 M.x] 26); replace Y := cell3_alloc (Y.stay hb9) (.cells #[.bool M.s, .slice ao3 m3 e3, .int .i64 M.x] 26); replace U := cell3_alloc (U.stay hb9) (.cells #[.bool M.s, .slice ao3 m3 e3, .int .i64 M.x] 26); replace Z := cell3_alloc (Z.stay hb9) (.cells #[.bool M.s, .slice ao3 m3 e3, .int .i64 M.x] 26); have ⟨v21_0, v21_1, v21_2⟩ := X; have ⟨v22_0, v22_1, v22_2⟩ := Y; have ⟨v23_0, v23_1, v23_2⟩ := U; have ⟨v24_0, v24_1, v24_2⟩ := Z)
    | (go_at_call 59; (with_reducible refine (cN _ hVW hR).mono ?_); rintro e w10 ⟨ao4, m4, e4, rfl, hF4, hb10⟩; obtain rfl : m3 = m4 := (by rw [← hF3.sl.len, ← hF4.sl.len]); have hzK := hK.size; replace hF3 := (hF3.below hb10).alloc (.cells #[.bool M.s, .slice ao4 m3 e4, .int .i64 M.x] 26); replace hF4 := (hF4.mono hzK).alloc (.cells #[.bool M.s, .slice ao4 m3 e4, .int .i64 M.x] 26); replace hK := more (next hK hb10) (.cells #[.bool M.s, .slice ao4 m3 e4, .int .i64 M.x] 26); have H3 := (G3.stay hb10).alloc (.cells #[.bool M.s, .slice ao4 m3 e4, .int .i64 M.x] 26); have ⟨h3a, h3b, h3c, h3d, h3e, h3f⟩ := H3; have G4 := box3_new w10 (.bool M.s) (.slice ao4 m3 e4) (.int .i64 M.x) 26; have ⟨g4a, g4b, g4c, g4d, g4e, g4f⟩ := G4; replace hR := hr_below (hr_below hR hb10 (by omega)) (more (Below.refl _ _) (.cells #[.bool M.s, .slice ao4 m3 e4, .int .i64 M.x] 26)) (by have := hb10.size; omega); replace hVW := (nxp hVW (by omega) hb10).alloc (by have := hb10.size; omega) (.cells #[.bool M.s, .slice ao4 m3 e4, .int .i64 M.x] 26); replace hsz := Nat.le_trans (Nat.le_trans hsz hb10.size) (le_al w10 (.cells #[.bool M.s, .slice ao4 m3 e4, .int .i64 M.x] 26)); replace X := cell3_alloc (X.stay hb10) (.cells #[.bool M.s, .slice ao4 m3 e4, .int .i64 M.x] 26); replace Y := cell3_alloc (Y.stay hb10) (.cells #[.bool M.s, .slice ao4 m3 e4, .int .i64 M.x] 26); replace U := cell3_alloc (U.stay hb10) (.cells #[.bool M.s, .slice ao4 m3 e4, .int .i64 M.x] 26); replace Z := cell3_alloc (Z.stay hb10) (.cells #[.bool M.s, .slice ao4 m3 e4, .int .i64 M.x] 26); have ⟨v25_0, v25_1, v25_2⟩ := X; have ⟨v26_0, v26_1, v26_2⟩ := Y; have ⟨v27_0, v27_1, v27_2⟩ := U; have ⟨v28_0, v28_1, v28_2⟩ := Z)
    | (go_at_call 10; (with_reducible refine (bk_dyadic K hK hhi M.s M.x M.e ao3 ao4 m3 e3 e4 (limbs M.N) hF3 hF4 (by rw [hF3.sl.len] at lM; omega) (by omega)).mono ?_); rintro e w23 ⟨rfl, K2, hB, hbl⟩; replace hVW := hVW.trans hB; replace hR := hr_same hR (fun g g1 g2 => hbl g g1 (by omega)); replace hsz := Nat.le_trans hsz hB.size; have hhj := Nat.le_trans hhi (Nat.le_trans hK.size hB.size); replace K := K2; clear K2 hK hhi; replace X := cell3_at X (hbl _ (by omega) (by omega)); replace Y := cell3_at Y (hbl _ (by omega) (by omega)); replace U := cell3_at U (hbl _ (by omega) (by omega)); replace Z := cell3_at Z (hbl _ (by omega) (by omega)); have hhi := hhj; clear hhj; have ⟨v29_0, v29_1, v29_2⟩ := X; have ⟨v30_0, v30_1, v30_2⟩ := Y; have ⟨v31_0, v31_1, v31_2⟩ := U; have ⟨v32_0, v32_1, v32_2⟩ := Z))
  go_ret
  exact ⟨rfl, bk_none K, hVW, hsz⟩

end Go.Proofs.YtnokabglkmiidaaDoor
