/-
  A word for a number that lies in a block of its own (Fr): what an answer is. No program in sight. Words for a block of one or three cells that a call may write (Box1, Box3). No program in sight. A word for a block of two cells. No program in sight.
-/
import Derived.Test.YtfjgmpfpadfknaaGreatDoorQbNBase
namespace Go.Lb
open Go.RowKit
structure Fr (e : TypeId) (w : World) (base : Nat) (ao : Option Addr) (n c : Nat) (xs : List Nat) : Prop where
 sl : Sl w ao n c xs
 blk : (ao = none ∧ n = 0 ∧ c = 0) ∨ ∃ g cur, ao = some ⟨g, 0, none⟩ ∧ base ≤ g ∧ w.heap[g]? = some (.cells cur e (0, 0)) ∧ c ≤ cur.size
theorem sl_none (w : World) : Sl w none 0 0 [] := ⟨rfl, Nat.le_refl _, by decide, ok_nil, fun h => absurd h (by decide)⟩
theorem fr_nil (e : TypeId) (w : World) (base : Nat) : Fr e w base none 0 0 [] := ⟨sl_none w, .inl ⟨rfl, rfl, rfl⟩⟩
theorem Fr.other {e : TypeId} {w w' : World} {base : Nat} {ao : Option Addr} {n c : Nat} {xs : List Nat} (h : Fr e w base ao n c xs) (hs : w.heap.size ≤ w'.heap.size) (hk : ∀ k, base ≤ k → k < w.heap.size → w'.heap[k]? = w.heap[k]?) : Fr e w' base ao n c xs := by
 obtain ⟨h1, h2⟩ := h
 rcases h2 with ⟨rfl, rfl, rfl⟩ | ⟨g, cur, rfl, hg, hh, hc⟩
 · exact ⟨⟨h1.len, h1.le, h1.cap, h1.ok, fun hn => absurd hn (by decide)⟩, .inl ⟨rfl, rfl, rfl⟩⟩
 · have hl := (Array.getElem?_eq_some_iff.1 hh).1
   have hb := hk g hg hl
   refine ⟨⟨h1.len, h1.le, h1.cap, h1.ok, fun hn => ?_⟩, .inr ⟨g, cur, rfl, hg, hb.trans hh, hc⟩⟩
   obtain ⟨b, o, e1, _, hcell⟩ := h1.at_ hn
   cases e1
   exact ⟨g, 0, rfl, Nat.lt_of_lt_of_le hl hs, fun j hj => (World.cell?_of_block hb).trans (hcell j hj)⟩
theorem Fr.setCell {e : TypeId} {w : World} {base : Nat} {ao : Option Addr} {n c : Nat} {xs : List Nat} (h : Fr e w base ao n c xs) {p : Addr} (hp : p.block < base) (v : Value) : Fr e (w.setCell p v) base ao n c xs :=
 h.other (by simp) fun k hk _ => Below.heap_setCell w p v k (by omega)
theorem Fr.below {e : TypeId} {w w' : World} {base : Nat} {ao : Option Addr} {n c : Nat} {xs : List Nat} (h : Fr e w base ao n c xs) (hb : Below w.heap.size w w') : Fr e w' base ao n c xs := by
 refine ⟨h.sl.below hb, h.blk.imp id ?_⟩
 rintro ⟨g, cur, h1, h2, h3, h4⟩
 exact ⟨g, cur, h1, h2, (hb.block g (Array.getElem?_eq_some_iff.1 h3).1).trans h3, h4⟩
theorem Fr.drew {e : TypeId} {w : World} {base : Nat} {ao : Option Addr} {n c : Nat} {xs : List Nat} (h : Fr e w base ao n c xs) : Fr e w.drew base ao n c xs := ⟨h.sl.drew, h.blk⟩
theorem Fr.alloc {e : TypeId} {w : World} {base : Nat} {ao : Option Addr} {n c : Nat} {xs : List Nat} (h : Fr e w base ao n c xs) (o : Obj) : Fr e (w.alloc o) base ao n c xs :=
 h.below ((Below.refl _ _).alloc (Nat.le_refl _) o)
theorem Fr.mono {e : TypeId} {w : World} {base base' : Nat} {ao : Option Addr} {n c : Nat} {xs : List Nat} (h : Fr e w base ao n c xs) (hb : base' ≤ base) : Fr e w base' ao n c xs :=
 ⟨h.sl, h.blk.imp id fun ⟨g, cur, h1, h2, h3⟩ => ⟨g, cur, h1, Nat.le_trans hb h2, h3⟩⟩
theorem fr_own {w : World} {base e g n cap : Nat} {ys : List Nat} (h : w.ownsRow base e 1 (.slice (some ⟨g, 0, none⟩) n cap) n (lvs ys)) (hok : Ok ys) {k c : Nat} (hk : k ≤ n) (hkc : k ≤ c) (hc : c ≤ cap) : Fr e w base (some ⟨g, 0, none⟩) k c (ys.take k) := by
 have hl : ys.length = n := by have := h.1; simpa [lvs] using this
 obtain ⟨c1, c2⟩ := own_cap h
 refine ⟨⟨by rw [List.length_take]; omega, hkc, by omega, ok_take hok k, fun _ => ⟨g, 0, rfl, (h.lt g rfl).2, fun j hj => ?_⟩⟩, .inr ?_⟩
 · rw [Nat.zero_add, own_cell h (by omega)]
   unfold nth
   rw [List.getD_eq_getElem?_getD, List.getD_eq_getElem?_getD, List.getElem?_take, if_pos hj]
 · rcases h.2 with ⟨h', _⟩ | ⟨g', cap', cur, h', hb, hh, _, _, hs, _⟩
   · cases h'
   · cases h'
     exact ⟨g, cur, rfl, hb, hh, by omega⟩
theorem own_sl {w : World} {base e g n cap : Nat} {ys : List Nat} (h : w.ownsRow base e 1 (.slice (some ⟨g, 0, none⟩) n cap) n (lvs ys)) (hok : Ok ys) : Sl w (some ⟨g, 0, none⟩) n cap ys := by
 have hl : ys.length = n := by have := h.1; simpa [lvs] using this
 have := (fr_own (k := n) (c := cap) h hok (Nat.le_refl _) (own_cap h).1 (Nat.le_refl _)).sl
 rw [List.take_of_length_le (by omega)] at this
 exact this
theorem fr_own_any {w : World} {base e n : Nat} {v : Value} {ys : List Nat} (h : w.ownsRow base e 1 v n (lvs ys)) (hok : Ok ys) : ∃ ao c, v = .slice ao n c ∧ Fr e w base ao n c ys := by
 rcases h.2 with ⟨rfl, rfl⟩ | ⟨g, cap, cur, rfl, hb, hh, h1, h2, hs, ht⟩
 · have : ys = [] := by have := h.1; simpa [lvs] using this
   subst this
   exact ⟨none, 0, rfl, fr_nil _ _ _⟩
 · have hl : ys.length = n := by have := h.1; simpa [lvs] using this
   have := fr_own (k := n) (c := cap) h hok (Nat.le_refl _) h1 (Nat.le_refl _)
   rw [List.take_of_length_le (by omega)] at this
   exact ⟨_, _, rfl, this⟩
theorem Sl.drop {w : World} {b o n c : Nat} {xs : List Nat} (h : Sl w (some ⟨b, o, none⟩) n c xs) {i : Nat} (hi : i < n) : Sl w (some ⟨b, o + i, none⟩) (n - i) (c - i) (xs.drop i) := by
 obtain ⟨b', o', e, hb, hc⟩ := h.at_ (by omega)
 cases e
 refine ⟨by rw [List.length_drop, h.len], by have := h.le; omega, by have := h.cap; omega, ok_drop h.ok i, fun _ => ⟨b, o + i, rfl, hb, fun j hj => ?_⟩⟩
 rw [Nat.add_assoc, hc (i + j) (by omega)]
 unfold nth
 rw [List.getD_eq_getElem?_getD, List.getD_eq_getElem?_getD, List.getElem?_drop]
structure Box1 (w : World) (b : Nat) (u : Value) : Prop where
 c0 : w.cell? ⟨b, 0, none⟩ = some u
 z0 : w.frozen? ⟨b, 0, none⟩ = false
structure Box3 (w : World) (b : Nat) (u v x : Value) : Prop where
 c0 : w.cell? ⟨b, 0, none⟩ = some u
 c1 : w.cell? ⟨b, 1, none⟩ = some v
 c2 : w.cell? ⟨b, 2, none⟩ = some x
 z0 : w.frozen? ⟨b, 0, none⟩ = false
 z1 : w.frozen? ⟨b, 1, none⟩ = false
 z2 : w.frozen? ⟨b, 2, none⟩ = false
theorem Box1.stay {wp w' : World} {b : Nat} {u : Value} (h : Box1 wp b u) (k : Below wp.heap.size wp w') : Box1 w' b u := ⟨(cfStay ⟨h.c0, h.z0⟩ k).1, (cfStay ⟨h.c0, h.z0⟩ k).2⟩
theorem Box1.alloc {w : World} {b : Nat} {u : Value} (h : Box1 w b u) (o : Obj) : Box1 (w.alloc o) b u := h.stay ((Below.refl _ _).alloc (Nat.le_refl _) o)
theorem Box1.lt {w : World} {b : Nat} {u : Value} (h : Box1 w b u) : b < w.heap.size := World.block_lt_of_cell? w ⟨b, 0, none⟩ h.c0
theorem box1_new (w : World) (u : Value) (t : TypeId) : Box1 (w.alloc (.cells #[u] t)) w.heap.size u := ⟨by simp, by simp [go_sem]⟩
theorem Box1.set {w : World} {b : Nat} {u : Value} (h : Box1 w b u) (v : Value) : (w.setCell ⟨b, 0, none⟩ v).cell? ⟨b, 0, none⟩ = some v := World.cell?_setCell_same _ _ _ h.c0
theorem Box3.stay {wp w' : World} {b : Nat} {u v x : Value} (h : Box3 wp b u v x) (k : Below wp.heap.size wp w') : Box3 w' b u v x :=
 ⟨(cfStay ⟨h.c0, h.z0⟩ k).1, (cfStay ⟨h.c1, h.z1⟩ k).1, (cfStay ⟨h.c2, h.z2⟩ k).1, (cfStay ⟨h.c0, h.z0⟩ k).2, (cfStay ⟨h.c1, h.z1⟩ k).2, (cfStay ⟨h.c2, h.z2⟩ k).2⟩
theorem Box3.alloc {w : World} {b : Nat} {u v x : Value} (h : Box3 w b u v x) (o : Obj) : Box3 (w.alloc o) b u v x := h.stay ((Below.refl _ _).alloc (Nat.le_refl _) o)
theorem Box3.lt {w : World} {b : Nat} {u v x : Value} (h : Box3 w b u v x) : b < w.heap.size := World.block_lt_of_cell? w ⟨b, 0, none⟩ h.c0
theorem box3_new (w : World) (u v x : Value) (t : TypeId) : Box3 (w.alloc (.cells #[u, v, x] t)) w.heap.size u v x := ⟨by simp, by simp, by simp, by simp [go_sem], by simp [go_sem], by simp [go_sem]⟩
theorem Box3.set {w : World} {b : Nat} {u v x : Value} (h : Box3 w b u v x) (p q r : Value) :
 (((w.setCell ⟨b, 0, none⟩ p).setCell ⟨b, 1, none⟩ q).setCell ⟨b, 2, none⟩ r).cell? ⟨b, 0, none⟩ = some p ∧
 (((w.setCell ⟨b, 0, none⟩ p).setCell ⟨b, 1, none⟩ q).setCell ⟨b, 2, none⟩ r).cell? ⟨b, 1, none⟩ = some q ∧
 (((w.setCell ⟨b, 0, none⟩ p).setCell ⟨b, 1, none⟩ q).setCell ⟨b, 2, none⟩ r).cell? ⟨b, 2, none⟩ = some r := set3 p q r h.c0 h.c1 h.c2
structure Box2 (w : World) (b : Nat) (u v : Value) : Prop where
 c0 : w.cell? ⟨b, 0, none⟩ = some u
 c1 : w.cell? ⟨b, 1, none⟩ = some v
theorem Box2.stay {wp w' : World} {b : Nat} {u v : Value} (h : Box2 wp b u v) (k : Below wp.heap.size wp w') : Box2 w' b u v := ⟨cellStay h.c0 k, cellStay h.c1 k⟩
theorem Box2.alloc {w : World} {b : Nat} {u v : Value} (h : Box2 w b u v) (o : Obj) : Box2 (w.alloc o) b u v := h.stay ((Below.refl _ _).alloc (Nat.le_refl _) o)
theorem Box2.lt {w : World} {b : Nat} {u v : Value} (h : Box2 w b u v) : b < w.heap.size := World.block_lt_of_cell? w ⟨b, 0, none⟩ h.c0
theorem box2_new (w : World) (u v : Value) (t : TypeId) : Box2 (w.alloc (.cells #[u, v] t)) w.heap.size u v := ⟨by simp, by simp⟩
def cellOf (w : World) (b j : Nat) : Value := (w.cell? ⟨b, j, none⟩).getD undef
theorem cellOf_of {w : World} {b j : Nat} {u : Value} (h : w.cell? ⟨b, j, none⟩ = some u) : w.cell? ⟨b, j, none⟩ = some (cellOf w b j) := by
 unfold cellOf
 rw [h]
 rfl
structure Res3 (w : World) (b : Nat) : Prop where
 c0 : w.cell? ⟨b, 0, none⟩ = some (cellOf w b 0)
 c1 : w.cell? ⟨b, 1, none⟩ = some (cellOf w b 1)
 c2 : w.cell? ⟨b, 2, none⟩ = some (cellOf w b 2)
 z0 : w.frozen? ⟨b, 0, none⟩ = false
 z1 : w.frozen? ⟨b, 1, none⟩ = false
 z2 : w.frozen? ⟨b, 2, none⟩ = false
theorem Box3.res {w : World} {b : Nat} {u v x : Value} (h : Box3 w b u v x) : Res3 w b := ⟨cellOf_of h.c0, cellOf_of h.c1, cellOf_of h.c2, h.z0, h.z1, h.z2⟩
theorem Res3.box {w : World} {b : Nat} (h : Res3 w b) : Box3 w b (cellOf w b 0) (cellOf w b 1) (cellOf w b 2) := ⟨h.c0, h.c1, h.c2, h.z0, h.z1, h.z2⟩
theorem Res3.stay {wp w' : World} {b : Nat} (h : Res3 wp b) (k : Below wp.heap.size wp w') : Res3 w' b := (h.box.stay k).res
theorem Res3.drew {w : World} {b : Nat} (h : Res3 w b) : Res3 w.drew b := h.stay ((Below.refl _ _).drew)
theorem Res3.set {w : World} {b : Nat} (h : Res3 w b) (p q r : Value) : Res3 (((w.setCell ⟨b, 0, none⟩ p).setCell ⟨b, 1, none⟩ q).setCell ⟨b, 2, none⟩ r) b := by
 obtain ⟨t0, t1, t2⟩ := h.box.set p q r
 exact ⟨cellOf_of t0, cellOf_of t1, cellOf_of t2, by simp [h.z0], by simp [h.z1], by simp [h.z2]⟩
theorem cell_set3 {w : World} {b p j : Nat} (hne : p ≠ b) (u v x : Value) : (((w.setCell ⟨b, 0, none⟩ u).setCell ⟨b, 1, none⟩ v).setCell ⟨b, 2, none⟩ x).cell? ⟨p, j, none⟩ = w.cell? ⟨p, j, none⟩ := by
 have hn : ∀ i : Nat, (⟨b, i, none⟩ : Addr) ≠ ⟨p, j, none⟩ := fun i e => hne (congrArg Addr.block e).symm
 rw [World.cell?_setCell_other _ _ _ _ (hn 2), World.cell?_setCell_other _ _ _ _ (hn 1), World.cell?_setCell_other _ _ _ _ (hn 0)]
end Go.Lb
