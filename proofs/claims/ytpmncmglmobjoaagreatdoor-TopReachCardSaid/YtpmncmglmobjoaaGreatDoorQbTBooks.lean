/-
  The walks of the reference's cmp and Same, asked of two numbers that read alike. Plain: numbers that lie apart, written full with marks and then grown one by one: what stands in memory at each step (the laws' own test of what they were answered). No program in sight. The walk of the book's adds: one answer more, and what it must be. The walk of the book's dyadic: an answer that is what it must be. Plain: what holds while numbers that lie apart are written full (Wr) and grown (Gr, Gi). No program in sight. append of a list of values that is nil or begins a block onto a row of the call's own. No program in sight. The walk of the book's stands: all answers are what they must be, and none touches another when they are written full and grown. The book of answers: what holds of it between the calls (Book), one answer more (Book.adds), and its end (stands_book).
-/
import Derived.Test.YtpmncmglmobjoaaGreatDoorQbTMakes
import Derived.Deep.RegionLaw
import Derived.Deep.RegionHeld3
import Derived.Deep.LoopGhost
namespace Go.Proofs.YtpmncmglmobjoaaGreatDoor
open Go.RowKit Go.Lb
end Go.Proofs.YtpmncmglmobjoaaGreatDoor
namespace Go.Lb
open Go.RowKit
def blkOf : Option Addr → Option Nat
 | some a => some a.block
 | none => none
structure Room (e : TypeId) (w : World) (ao : Option Addr) (n c : Nat) : Prop where
 le : n ≤ c
 cap : c ≤ 9223372036854775807
 blk : (ao = none ∧ n = 0 ∧ c = 0) ∨ ∃ g cur, ao = some ⟨g, 0, none⟩ ∧ w.heap[g]? = some (.cells cur e (0, 0)) ∧ c ≤ cur.size
def Reads (w : World) (ao : Option Addr) (o n : Nat) (f : Nat → Nat) : Prop := ∀ j, j < n → ∃ g, ao = some ⟨g, 0, none⟩ ∧ w.cell? ⟨g, o + j, none⟩ = some (.int .u32 (f j : Int))
theorem Fr.room {e : TypeId} {w : World} {base : Nat} {ao : Option Addr} {n c : Nat} {xs : List Nat} (h : Fr e w base ao n c xs) : Room e w ao n c :=
 ⟨h.sl.le, h.sl.cap, h.blk.imp id fun ⟨g, cur, h1, _, h3, h4⟩ => ⟨g, cur, h1, h3, h4⟩⟩
theorem Room.other {e : TypeId} {w w' : World} {ao : Option Addr} {n c : Nat} (h : Room e w ao n c) (hk : ∀ g, blkOf ao = some g → g < w.heap.size → w'.heap[g]? = w.heap[g]?) : Room e w' ao n c :=
 ⟨h.le, h.cap, h.blk.imp id fun ⟨g, cur, h1, h2, h3⟩ => ⟨g, cur, h1, (hk g (by rw [h1]; rfl) (Array.getElem?_eq_some_iff.1 h2).1).trans h2, h3⟩⟩
theorem Reads.other {w w' : World} {ao : Option Addr} {o n : Nat} {f : Nat → Nat} (h : Reads w ao o n f) (hk : ∀ g, blkOf ao = some g → g < w.heap.size → w'.heap[g]? = w.heap[g]?) : Reads w' ao o n f := fun j hj => by
 obtain ⟨g, h1, h2⟩ := h j hj
 exact ⟨g, h1, (World.cell?_of_block (hk g (by rw [h1]; rfl) (World.block_lt_of_cell? _ _ h2))).trans h2⟩
theorem Room.grown {e : TypeId} {w w' : World} {ao : Option Addr} {n c : Nat} {row : Option Nat} (h : Room e w ao n c) (hg : w.grownBy w' row) (hne : ∀ g, blkOf ao = some g → some g ≠ row) : Room e w' ao n c :=
 h.other fun g h1 h2 => hg.block g h2 (hne g h1)
theorem Reads.grown {w w' : World} {ao : Option Addr} {o n : Nat} {f : Nat → Nat} {row : Option Nat} (h : Reads w ao o n f) (hg : w.grownBy w' row) (hne : ∀ g, blkOf ao = some g → some g ≠ row) : Reads w' ao o n f :=
 h.other fun g h1 h2 => hg.block g h2 (hne g h1)
theorem Room.set {e : TypeId} {w : World} {ao : Option Addr} {n c : Nat} (h : Room e w ao n c) (b j : Nat) (v : Value) : Room e (w.setCell ⟨b, j, none⟩ v) ao n c := by
 obtain ⟨h1, h2, h3⟩ := h
 refine ⟨h1, h2, h3.imp id ?_⟩
 rintro ⟨g, cur, e1, e2, e3⟩
 by_cases hb : g = b
 · subst hb
   exact ⟨g, _, e1, heap_setCell_same w g j cur e v e2, by simpa using e3⟩
 · exact ⟨g, cur, e1, (heap_setCell_other w ⟨b, j, none⟩ g v hb).trans e2, e3⟩
theorem Room.cell {e : TypeId} {w : World} {g n c : Nat} (h : Room e w (some ⟨g, 0, none⟩) n c) {j : Nat} (hj : j < n) : ∃ u, w.cell? ⟨g, j, none⟩ = some u := by
 rcases h.blk with ⟨h1, _⟩ | ⟨g', cur, h1, h2, h3⟩
 · cases h1
 · cases h1
   have hs : j < cur.size := by have := h.le; omega
   exact ⟨cur[j], by rw [cell_of_row w g j cur e (0, 0) h2, Array.getElem?_eq_getElem hs]⟩
theorem Room.frozen {e : TypeId} {w : World} {g n c : Nat} (h : Room e w (some ⟨g, 0, none⟩) n c) (j : Nat) : w.frozen? ⟨g, j, none⟩ = false := by
 rcases h.blk with ⟨h1, _⟩ | ⟨g', cur, h1, h2, h3⟩
 · cases h1
 · cases h1
   exact frozen_of_row w g j cur e h2
theorem Room.at_ {e : TypeId} {w : World} {ao : Option Addr} {n c : Nat} (h : Room e w ao n c) (hn : 0 < n) : ∃ g, ao = some ⟨g, 0, none⟩ ∧ g < w.heap.size := by
 rcases h.blk with ⟨_, h1, _⟩ | ⟨g, cur, h1, h2, _⟩
 · omega
 · exact ⟨g, h1, (Array.getElem?_eq_some_iff.1 h2).1⟩
end Go.Lb
namespace Go.Proofs.YtpmncmglmobjoaaGreatDoor
open Go.RowKit Go.Lb
theorem own_keep {w w' : World} {base e n : Nat} {v : Value} {xs : List Value} (h : w.ownsRow base e 1 v n xs) (hb : Below w.heap.size w w') : w'.ownsRow base e 1 v n xs := by
 have hl := h.lt
 obtain ⟨h1, h2⟩ := h
 refine ⟨h1, h2.imp id ?_⟩
 rintro ⟨g, cap, cur, rfl, hg, hh, r⟩
 exact ⟨g, cap, cur, rfl, hg, (hb.block g (hl g rfl).2).trans hh, r⟩
end Go.Proofs.YtpmncmglmobjoaaGreatDoor
namespace Go.Lb
open Go.RowKit
def mark (t j : Nat) : Nat := 1000 * t + j % 1000
structure Fam where
 k : Nat
 ao : Nat → Option Addr
 nn : Nat → Nat
 cc : Nat → Nat
structure Fam.Apart (F : Fam) (B ga : Nat) : Prop where
 items : ∀ s t, s < F.k → t < F.k → s ≠ t → ∀ g, blkOf (F.ao s) = some g → blkOf (F.ao t) ≠ some g
 all : ∀ t, t < F.k → blkOf (F.ao t) ≠ some ga
 base : ∀ t, t < F.k → ∀ g, blkOf (F.ao t) = some g → B ≤ g
def Fam.Row (F : Fam) (w : World) (ga : Nat) : Prop := ∀ t, t < F.k → w.cell? ⟨ga, t, none⟩ = some (.slice (F.ao t) (F.nn t) (F.cc t))
structure Wr (F : Fam) (e : TypeId) (B ga : Nat) (w0 w : World) (i j : Nat) : Prop where
 bel : Below B w0 w
 row : F.Row w ga
 room : ∀ t, t < F.k → Room e w (F.ao t) (F.nn t) (F.cc t)
 done : ∀ t, t < i → t < F.k → Reads w (F.ao t) 0 (F.nn t) (mark t)
 cur : Reads w (F.ao i) 0 j (mark i)
theorem Fam.Row.other {F : Fam} {w w' : World} {ga : Nat} (h : F.Row w ga) (hk : w'.heap[ga]? = w.heap[ga]?) : F.Row w' ga := fun t ht => (World.cell?_of_block hk).trans (h t ht)
theorem reads_none (w : World) (ao : Option Addr) (o : Nat) (f : Nat → Nat) : Reads w ao o 0 f := fun _ h => absurd h (by omega)
theorem blkOf_eq {g : Nat} {ao : Option Addr} (h : ao = some ⟨g, 0, none⟩) : blkOf ao = some g := by rw [h]; rfl
theorem Wr.next {F : Fam} {e : TypeId} {B ga : Nat} {w0 w : World} {i : Nat} (h : Wr F e B ga w0 w i (F.nn i)) : Wr F e B ga w0 w (i + 1) 0 :=
 ⟨h.bel, h.row, h.room, fun t ht hk => by
  by_cases e : t = i
  · subst e; exact h.cur
  · exact h.done t (by omega) hk, reads_none _ _ _ _⟩
theorem Wr.step {F : Fam} {e : TypeId} {B ga : Nat} {w0 w : World} {i j g : Nat} (h : Wr F e B ga w0 w i j) (hA : F.Apart B ga) (hi : i < F.k) (hj : j < F.nn i) (hg : F.ao i = some ⟨g, 0, none⟩) :
 Wr F e B ga w0 (w.setCell ⟨g, j, none⟩ (.int .u32 (mark i j : Nat))) i (j + 1) := by
 have hgb := blkOf_eq hg
 have hother : ∀ b, b ≠ g → (w.setCell ⟨g, j, none⟩ (.int .u32 (mark i j : Nat))).heap[b]? = w.heap[b]? := fun b hb => heap_setCell_other w ⟨g, j, none⟩ b _ hb
 have hrm := h.room i hi
 rw [hg] at hrm
 obtain ⟨u, hu⟩ := hrm.cell hj
 refine ⟨h.bel.setCell (hA.base i hi g hgb) _, h.row.other (hother ga (fun e => hA.all i hi (by rw [hgb, e]))), fun t ht => (h.room t ht).set g j _, fun t ht hk => ?_, fun q hq => ?_⟩
 · refine (h.done t ht hk).other fun b hb _ => hother b fun e => ?_
   subst e
   exact hA.items i t hi hk (by omega) b hgb hb
 · refine ⟨g, hg, ?_⟩
   rw [Nat.zero_add]
   by_cases e : q = j
   · subst e
     exact World.cell?_setCell_same _ _ _ hu
   · rw [World.cell?_setCell_other _ _ _ _ (fun e2 => e (by have := congrArg Addr.off e2; simpa using this.symm))]
     obtain ⟨g', hg', hc⟩ := h.cur q (by omega)
     rw [hg] at hg'
     cases hg'
     rw [Nat.zero_add] at hc
     exact hc
section
section
variable {P : Program} (w : World)
end
end
end Go.Lb
namespace Go.Proofs.YtpmncmglmobjoaaGreatDoor
open Go.RowKit Go.Lb
theorem fr_lt {e : TypeId} {w : World} {base : Nat} {ao : Option Addr} {n c : Nat} {xs : List Nat} (h : Fr e w base ao n c xs) {g : Nat} (hg : blkOf ao = some g) : base ≤ g ∧ g < w.heap.size := by
 rcases h.blk with ⟨h1, _⟩ | ⟨g', cur, h1, h2, h3, _⟩
 · rw [h1] at hg; cases hg
 · rw [h1] at hg; cases hg; exact ⟨h2, (Array.getElem?_eq_some_iff.1 h3).1⟩
theorem fr_at {e : TypeId} {w w' : World} {base : Nat} {ao : Option Addr} {n c : Nat} {xs : List Nat} (h : Fr e w base ao n c xs) (hs : w.heap.size ≤ w'.heap.size) (hk : ∀ g, blkOf ao = some g → g < w.heap.size → w'.heap[g]? = w.heap[g]?) : Fr e w' base ao n c xs := by
 obtain ⟨h1, h2⟩ := h
 rcases h2 with ⟨rfl, rfl, rfl⟩ | ⟨g, cur, rfl, hg, hh, hc⟩
 · exact ⟨⟨h1.len, h1.le, h1.cap, h1.ok, fun hn => absurd hn (by decide)⟩, .inl ⟨rfl, rfl, rfl⟩⟩
 · have hl := (Array.getElem?_eq_some_iff.1 hh).1
   have hb := hk g rfl hl
   refine ⟨⟨h1.len, h1.le, h1.cap, h1.ok, fun hn => ?_⟩, .inr ⟨g, cur, rfl, hg, hb.trans hh, hc⟩⟩
   obtain ⟨b, o, e1, _, hcell⟩ := h1.at_ hn
   cases e1
   exact ⟨g, 0, rfl, Nat.lt_of_lt_of_le hl hs, fun j hj => (World.cell?_of_block hb).trans (hcell j hj)⟩
end Go.Proofs.YtpmncmglmobjoaaGreatDoor
