/-
  The book of answers: what holds of it between the calls (Book), one answer more (Book.adds), and its end (stands_book).
-/
import Derived.Test.YtnokabglkmiidaaDoorStands
namespace Go.Proofs.YtnokabglkmiidaaDoor
open Go.RowKit Go.Lb

/-- One answer: where it lies, and what it must be. -/
structure Item where
  ao : Option Addr
  n : Nat
  c : Nat
  wo : Option Addr
  wc : Nat
  ys : List Nat

def Item.got (x : Item) : Value := .slice x.ao x.n x.c
def Item.want (x : Item) : Value := .slice x.wo x.n x.wc

/-- A block that is none of the book's own. -/
def Clear (pb : Nat) (vg vw : Value) (g : Nat) : Prop := g ≠ pb ∧ vg.ownBlock ≠ some g ∧ vw.ownBlock ≠ some g

structure Book (w : World) (B pb : Nat) (L : List Item) (vg vw : Value) : Prop where
  base : B ≤ pb
  c0 : w.cell? ⟨pb, 0, none⟩ = some vg
  c1 : w.cell? ⟨pb, 1, none⟩ = some vw
  c2 : w.cell? ⟨pb, 2, none⟩ = some (.bool false)
  z0 : w.frozen? ⟨pb, 0, none⟩ = false
  z1 : w.frozen? ⟨pb, 1, none⟩ = false
  og : w.ownsRow (pb + 1) 24 1 vg L.length (L.map Item.got)
  ow : w.ownsRow (pb + 1) 24 1 vw L.length (L.map Item.want)
  hvw : ∀ g, vg.ownBlock = some g → vw.ownBlock ≠ some g
  got : ∀ x ∈ L, Fr 55 w B x.ao x.n x.c x.ys
  want : ∀ x ∈ L, Fr 55 w 0 x.wo x.n x.wc x.ys
  gotB : ∀ x ∈ L, ∀ g, blkOf x.ao = some g → Clear pb vg vw g
  wantB : ∀ x ∈ L, ∀ g, blkOf x.wo = some g → Clear pb vg vw g
  apart : L.Pairwise (fun x y => ∀ g, blkOf x.ao = some g → blkOf y.ao ≠ some g)
  small : ∀ x ∈ L, x.n + 41 ≤ 35184372088832

theorem fr_lt {e : TypeId} {w : World} {base : Nat} {ao : Option Addr} {n c : Nat} {xs : List Nat} (h : Fr e w base ao n c xs) {g : Nat} (hg : blkOf ao = some g) : base ≤ g ∧ g < w.heap.size := by
  rcases h.blk with ⟨h1, _⟩ | ⟨g', cur, h1, h2, h3, _⟩
  · rw [h1] at hg; cases hg
  · rw [h1] at hg; cases hg; exact ⟨h2, (Array.getElem?_eq_some_iff.1 h3).1⟩

theorem fr_at {e : TypeId} {w w' : World} {base : Nat} {ao : Option Addr} {n c : Nat} {xs : List Nat} (h : Fr e w base ao n c xs) (hs : w.heap.size ≤ w'.heap.size) (hk : ∀ g, blkOf ao = some g → g < w.heap.size → w'.heap[g]? = w.heap[g]?) : Fr e w' base ao n c xs := by
  obtain ⟨h1, h2⟩ := h
  rcases h2 with ⟨rfl, rfl, rfl⟩ | ⟨g, cur, rfl, hg, hh, hc⟩
  · exact ⟨⟨h1.len, h1.le, h1.cap, h1.ok, fun hn => absurd hn (by decide)⟩, .inl ⟨rfl, rfl, rfl⟩⟩
  · have hl := (Array.getElem?_eq_some_iff.1 hh).1
    have hb := hk g rfl hl
    refine ⟨⟨h1.len, h1.le, h1.cap, h1.ok, fun hn => ?_⟩, .inr ⟨g, cur, rfl, hg, hb.trans hh, hc⟩⟩
    obtain ⟨b, o, e1, _, hcell⟩ := h1.at_ hn
    cases e1
    exact ⟨g, 0, rfl, Nat.lt_of_lt_of_le hl hs, fun j hj => (World.cell?_of_block hb).trans (hcell j hj)⟩

theorem Book.lt {w : World} {B pb : Nat} {L : List Item} {vg vw : Value} (h : Book w B pb L vg vw) : pb < w.heap.size := World.block_lt_of_cell? w ⟨pb, 0, none⟩ h.c0

theorem Book.below {w w' : World} {B pb : Nat} {L : List Item} {vg vw : Value} (h : Book w B pb L vg vw) (hb : Below w.heap.size w w') : Book w' B pb L vg vw :=
  ⟨h.base, cellStay h.c0 hb, cellStay h.c1 hb, cellStay h.c2 hb, (cfStay ⟨h.c0, h.z0⟩ hb).2, (cfStay ⟨h.c1, h.z1⟩ hb).2, own_keep h.og hb, own_keep h.ow hb, h.hvw, fun x hx => (h.got x hx).below hb, fun x hx => (h.want x hx).below hb, h.gotB, h.wantB, h.apart, h.small⟩

/-- The new book: nothing in it. -/
theorem book_new (w : World) (t : TypeId) {B : Nat} (hB : B ≤ w.heap.size) : Book (w.alloc (.cells #[.slice none 0 0, .slice none 0 0, .bool false] t)) B w.heap.size [] (.slice none 0 0) (.slice none 0 0) :=
  ⟨hB, by simp, by simp, by simp, by simp [go_sem], by simp [go_sem], World.ownsRow_nil _ _ _ _, World.ownsRow_nil _ _ _ _, (fun g h => by cases h), (fun x hx => by cases hx), (fun x hx => by cases hx), (fun x hx => by cases hx), (fun x hx => by cases hx), List.Pairwise.nil, (fun x hx => by cases hx)⟩

/-- A block that is newer than the book's world is clear of it. -/
theorem Book.clear {w : World} {B pb : Nat} {L : List Item} {vg vw : Value} (h : Book w B pb L vg vw) {g : Nat} (hg : w.heap.size ≤ g) : Clear pb vg vw g :=
  ⟨by have := h.lt; omega, fun e => by have := (h.og.lt g e).2; omega, fun e => by have := (h.ow.lt g e).2; omega⟩

theorem Book.clear_low {w : World} {B pb : Nat} {L : List Item} {vg vw : Value} (h : Book w B pb L vg vw) {g : Nat} (hg : g < pb) : Clear pb vg vw g :=
  ⟨by omega, fun e => by have := (h.og.lt g e).1; omega, fun e => by have := (h.ow.lt g e).1; omega⟩

/-- One answer more. -/
theorem Book.adds {w w' : World} {B pb : Nat} {L : List Item} {vg vw : Value} (h : Book w B pb L vg vw) {x : Item} (hA : Added w w' pb L.length vg vw (L.map Item.got) (L.map Item.want) x.got x.want)
    (hg : Fr 55 w B x.ao x.n x.c x.ys) (hw : Fr 55 w 0 x.wo x.n x.wc x.ys) (hgB : ∀ g, blkOf x.ao = some g → Clear pb vg vw g) (hwB : ∀ g, blkOf x.wo = some g → Clear pb vg vw g)
    (hap : ∀ y ∈ L, ∀ g, blkOf y.ao = some g → blkOf x.ao ≠ some g) (hs : x.n + 41 ≤ 35184372088832) : ∃ vg' vw', Book w' B pb (L ++ [x]) vg' vw' := by
  obtain ⟨g1, p1, g2, p2, r1, r2, r3, r4, r5, r6, r7⟩ := hA.new
  have keep : ∀ {base : Nat} {ao : Option Addr} {n c : Nat} {xs : List Nat}, Fr 55 w base ao n c xs → (∀ g, blkOf ao = some g → Clear pb vg vw g) → Fr 55 w' base ao n c xs := fun hF hc =>
    fr_at hF hA.size fun g hg hl => hA.block g hl (hc g hg).1 (fun e => (hc g hg).2.1 e.symm) (fun e => (hc g hg).2.2 e.symm)
  have clr : ∀ {base : Nat} {ao : Option Addr} {n c : Nat} {xs : List Nat}, Fr 55 w base ao n c xs → (∀ g, blkOf ao = some g → Clear pb vg vw g) → ∀ g, blkOf ao = some g → Clear pb (.slice (some ⟨g1, 0, none⟩) (L.length + 1) p1) (.slice (some ⟨g2, 0, none⟩) (L.length + 1) p2) g := fun hF hc g hg => by
    have hl := (fr_lt hF hg).2
    refine ⟨(hc g hg).1, fun e => ?_, fun e => ?_⟩
    · have e' : g1 = g := Option.some.inj e
      subst e'
      rcases r5 with h5 | h5
      · exact (hc _ hg).2.1 h5
      · omega
    · have e' : g2 = g := Option.some.inj e
      subst e'
      rcases r6 with h6 | h6
      · exact (hc _ hg).2.2 h6
      · omega
  refine ⟨.slice (some ⟨g1, 0, none⟩) (L.length + 1) p1, .slice (some ⟨g2, 0, none⟩) (L.length + 1) p2, h.base, r1, r2, hA.c2.trans h.c2, (hA.frozen 0).trans h.z0, (hA.frozen 1).trans h.z1, ?_, ?_, ?_, ?_, ?_, ?_, ?_, ?_, ?_⟩
  · simpa using r3
  · simpa using r4
  · intro g e1 e2
    cases e1
    cases e2
    exact r7 rfl
  · intro y hy
    rcases List.mem_append.1 hy with hy | hy
    · exact keep (h.got y hy) (h.gotB y hy)
    · obtain rfl := List.mem_singleton.1 hy; exact keep hg hgB
  · intro y hy
    rcases List.mem_append.1 hy with hy | hy
    · exact keep (h.want y hy) (h.wantB y hy)
    · obtain rfl := List.mem_singleton.1 hy; exact keep hw hwB
  · intro y hy
    rcases List.mem_append.1 hy with hy | hy
    · exact clr (h.got y hy) (h.gotB y hy)
    · obtain rfl := List.mem_singleton.1 hy; exact clr hg hgB
  · intro y hy
    rcases List.mem_append.1 hy with hy | hy
    · exact clr (h.want y hy) (h.wantB y hy)
    · obtain rfl := List.mem_singleton.1 hy; exact clr hw hwB
  · rw [List.pairwise_append]
    exact ⟨h.apart, List.pairwise_singleton _ _, fun y hy z hz => by obtain rfl := List.mem_singleton.1 hz; exact hap y hy⟩
  · intro y hy
    rcases List.mem_append.1 hy with hy | hy
    · exact h.small y hy
    · obtain rfl := List.mem_singleton.1 hy; exact hs

/-- Older memory is as it was. -/
theorem Added.below {w w' : World} {B pb k : Nat} {vg vw x y : Value} {gs ws : List Value} (hA : Added w w' pb k vg vw gs ws x y) (hB : B ≤ pb) (hl : pb < w.heap.size)
    (h1 : ∀ g, vg.ownBlock = some g → pb + 1 ≤ g ∧ g < w.heap.size) (h2 : ∀ g, vw.ownBlock = some g → pb + 1 ≤ g ∧ g < w.heap.size) : Below B w w' :=
  ⟨hA.os, hA.tape, hA.output, hA.size, fun b hb => hA.block b (by omega) (by omega) (fun e => by have := (h1 b e.symm).1; omega) (fun e => by have := (h2 b e.symm).1; omega)⟩

/-- dyadic, of an answer that is what it must be. -/
theorem book_dyadic (w : World) (B pb : Nat) (L : List Item) (vg vw : Value) (h : Book w B pb L vg vw) (neg : Bool) (x er : Int) (a b : Option Addr) (n c c2 : Nat) (ys : List Nat)
    (hg : Fr 55 w B a n c ys) (hw : Fr 55 w 0 b n c2 ys) (hgB : ∀ g, blkOf a = some g → Clear pb vg vw g) (hwB : ∀ g, blkOf b = some g → Clear pb vg vw g)
    (hap : ∀ y ∈ L, ∀ g, blkOf y.ao = some g → blkOf a ≠ some g) (hs : n + 41 ≤ 35184372088832) (hk : L.length ≤ 1000000) :
    Calls Tryd.prog 10 #[.pointer (some ⟨pb, 0, none⟩), .agg #[.bool neg, .slice a n c, .int .i64 x], .int .i64 er, .agg #[.bool neg, .slice b n c2, .int .i64 x], .int .i64 er] w
      fun e w' => e = .returned (.tuple #[]) ∧ (∃ vg' vw', Book w' B pb (L ++ [⟨a, n, c, b, c2, ys⟩]) vg' vw') ∧ Below pb w w' := by
  refine (dyadic_any pb L.length vg vw (L.map Item.got) (L.map Item.want) neg x er a b n c c2 ys w h.c0 h.c1 h.z0 h.z1 h.og h.ow h.hvw hk hg.sl hw.sl).mono ?_
  rintro e w' ⟨he, hA⟩
  exact ⟨he, h.adds (x := ⟨a, n, c, b, c2, ys⟩) hA hg hw hgB hwB hap hs, hA.below (Nat.le_refl _) h.lt h.og.lt h.ow.lt⟩

/-- The list of all: what was answered, what was lent. -/
def famOf (L : List (Option Addr × Nat × Nat)) : Fam := ⟨L.length, fun t => (L.getD t (none, 0, 0)).1, fun t => (L.getD t (none, 0, 0)).2.1, fun t => (L.getD t (none, 0, 0)).2.2⟩

def Item.trip (x : Item) : Option Addr × Nat × Nat := (x.ao, x.n, x.c)

theorem getD_mem {α : Type} (L : List α) (d : α) {t : Nat} (h : t < L.length) : L.getD t d ∈ L := by
  rw [List.getD_eq_getElem?_getD, List.getElem?_eq_getElem h]
  exact List.getElem_mem h

theorem stands_book (w : World) (B pb : Nat) (L : List Item) (M : List (Option Addr × Nat × Nat)) (vg vw : Value) (lo : Option Addr) (lc : Nat) (h : Book w B pb L vg vw) (h0 : L ≠ [])
    (hl : M = [] ∧ lo = none ∧ lc = 0 ∨ ∃ bl, lo = some ⟨bl, 0, none⟩ ∧ ∀ j y, M[j]? = some y → w.cell? ⟨bl, j, none⟩ = some (.slice y.1 y.2.1 y.2.2))
    (hR : ∀ y ∈ M, Room 55 w y.1 y.2.1 y.2.2) (hB : ∀ y ∈ M, ∀ g, blkOf y.1 = some g → B ≤ g ∧ vg.ownBlock ≠ some g)
    (hap : (L.map Item.trip ++ M).Pairwise (fun x y => ∀ g, blkOf x.1 = some g → blkOf y.1 ≠ some g)) (hs : ∀ y ∈ M, y.2.1 + 41 ≤ 35184372088832) (hk : L.length + M.length ≤ 1000) :
    Calls Tryd.prog 12 #[.pointer (some ⟨pb, 0, none⟩), .slice lo M.length lc] w fun e w' => e = .returned (.bool true) ∧ Below B w w' := by
  have hL : 0 < L.length := List.length_pos_iff.2 h0
  obtain ⟨gg, pg, rfl, hgg, _⟩ := h.og.form hL
  obtain ⟨gw, pw, rfl, hgw, _⟩ := h.ow.form hL
  have hk1 : ∀ t, t < L.length → (L.map Item.trip ++ M).getD t (none, 0, 0) = (L.getD t ⟨none, 0, 0, none, 0, []⟩).trip := fun t ht => by
    rw [List.getD_eq_getElem?_getD, List.getElem?_append_left (by simpa using ht), List.getElem?_map, List.getD_eq_getElem?_getD, List.getElem?_eq_getElem ht]
    rfl
  have hk2 : ∀ t, L.length ≤ t → t < L.length + M.length → (L.map Item.trip ++ M).getD t (none, 0, 0) = M.getD (t - L.length) (none, 0, 0) := fun t ht _ => by
    rw [List.getD_eq_getElem?_getD, List.getElem?_append_right (by simpa using ht), List.length_map, ← List.getD_eq_getElem?_getD]
  have hlen : (L.map Item.trip ++ M).length = L.length + M.length := by simp
  have hall : ∀ y ∈ L.map Item.trip ++ M, Room 55 w y.1 y.2.1 y.2.2 ∧ (∀ g, blkOf y.1 = some g → B ≤ g ∧ (Value.slice (some ⟨gg, 0, none⟩) L.length pg).ownBlock ≠ some g) ∧ y.2.1 + 41 ≤ 35184372088832 := by
    intro y hy
    rcases List.mem_append.1 hy with hy | hy
    · obtain ⟨x, hx, rfl⟩ := List.mem_map.1 hy
      exact ⟨(h.got x hx).room, fun g hg => ⟨(fr_lt (h.got x hx) hg).1, (h.gotB x hx g hg).2.1⟩, h.small x hx⟩
    · exact ⟨hR y hy, hB y hy, hs y hy⟩
  refine stands_any (famOf (L.map Item.trip ++ M)) B pb L.length M.length gg pg gw pw lc lo (fun t => (L.getD t ⟨none, 0, 0, none, 0, []⟩).wo) (fun t => (L.getD t ⟨none, 0, 0, none, 0, []⟩).wc) (fun t => (L.getD t ⟨none, 0, 0, none, 0, []⟩).ys) w
    ⟨hlen, hL, by show (L.map Item.trip ++ M).length ≤ 1000; omega, h.c0, h.c1, h.c2, ?_, fun t ht => ?_, fun t ht => ?_, fun t ht => ?_, (own_cap h.ow).1, fun t ht => ?_, ?_, ⟨fun s t hs' ht hne g hg => ?_, fun t ht e => ?_, fun t ht g hg => ?_⟩, fun t ht => ?_, by have := h.lt; have := h.base; omega⟩
  · have e : (List.range L.length).map (fun t => Value.slice ((famOf (L.map Item.trip ++ M)).ao t) ((famOf (L.map Item.trip ++ M)).nn t) ((famOf (L.map Item.trip ++ M)).cc t)) = L.map Item.got := by
      refine List.ext_getElem (by simp) fun t h1 h2 => ?_
      simp only [List.length_map] at h2
      rw [List.getElem_map, List.getElem_map, List.getElem_range]
      show Value.slice ((L.map Item.trip ++ M).getD t (none, 0, 0)).1 ((L.map Item.trip ++ M).getD t (none, 0, 0)).2.1 ((L.map Item.trip ++ M).getD t (none, 0, 0)).2.2 = _
      rw [hk1 t h2, List.getD_eq_getElem?_getD, List.getElem?_eq_getElem h2]
      rfl
    rw [e]
    exact own_mono h.og (by have := h.base; omega)
  · rw [h.ow.cellAt t (by omega), List.getElem?_map, List.getElem?_eq_getElem ht]
    show some (Item.want L[t]) = some (Value.slice _ ((L.map Item.trip ++ M).getD t (none, 0, 0)).2.1 _)
    rw [hk1 t ht, List.getD_eq_getElem?_getD, List.getElem?_eq_getElem ht]
    rfl
  · show Sl w ((L.map Item.trip ++ M).getD t (none, 0, 0)).1 ((L.map Item.trip ++ M).getD t (none, 0, 0)).2.1 ((L.map Item.trip ++ M).getD t (none, 0, 0)).2.2 _
    rw [hk1 t ht]
    exact (h.got _ (getD_mem L _ ht)).sl
  · show Sl w _ ((L.map Item.trip ++ M).getD t (none, 0, 0)).2.1 _ _
    rw [hk1 t ht]
    exact (h.want _ (getD_mem L _ ht)).sl
  · exact (hall _ (getD_mem _ _ ht)).1
  · rcases hl with ⟨h1, h2, h3⟩ | ⟨bl, h1, h2⟩
    · exact .inl ⟨by rw [h1]; rfl, h2, h3⟩
    · refine .inr ⟨bl, h1, fun j hj => ?_⟩
      rw [h2 j M[j] (List.getElem?_eq_getElem hj)]
      show _ = some (Value.slice ((L.map Item.trip ++ M).getD (L.length + j) (none, 0, 0)).1 ((L.map Item.trip ++ M).getD (L.length + j) (none, 0, 0)).2.1 ((L.map Item.trip ++ M).getD (L.length + j) (none, 0, 0)).2.2)
      rw [hk2 _ (by omega) (by omega), show L.length + j - L.length = j by omega, List.getD_eq_getElem?_getD, List.getElem?_eq_getElem hj]
      rfl
  · have hp := List.pairwise_iff_getElem.1 hap
    have es : ∀ t, (ht : t < (L.map Item.trip ++ M).length) → (famOf (L.map Item.trip ++ M)).ao t = ((L.map Item.trip ++ M)[t]).1 := fun t ht => by
      show ((L.map Item.trip ++ M).getD t (none, 0, 0)).1 = _
      rw [List.getD_eq_getElem?_getD, List.getElem?_eq_getElem ht]
      rfl
    rw [es s hs'] at hg
    rw [es t ht]
    rcases Nat.lt_or_gt_of_ne hne with hlt | hgt
    · exact hp s t hs' ht hlt g hg
    · intro e
      exact hp t s ht hs' hgt g e hg
  · exact ((hall _ (getD_mem _ _ ht)).2.1 gg e).2 rfl
  · exact ((hall _ (getD_mem _ _ ht)).2.1 g hg).1
  · exact (hall _ (getD_mem _ _ ht)).2.2

end Go.Proofs.YtnokabglkmiidaaDoor
