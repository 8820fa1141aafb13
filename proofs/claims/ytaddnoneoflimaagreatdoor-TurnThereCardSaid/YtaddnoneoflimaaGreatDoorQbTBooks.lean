/-
  The walks of the reference's cmp and Same, asked of two numbers that read alike. Plain: numbers that lie apart, written full with marks and then grown one by one: what stands in memory at each step (the laws' own test of what they were answered). No program in sight. The walk of the book's adds: one answer more, and what it must be. The walk of the book's dyadic: an answer that is what it must be. Plain: what holds while numbers that lie apart are written full (Wr) and grown (Gr, Gi). No program in sight. append of a list of values that is nil or begins a block onto a row of the call's own. No program in sight. The walk of the book's stands: all answers are what they must be, and none touches another when they are written full and grown. The book of answers: what holds of it between the calls (Book), one answer more (Book.adds), and its end (stands_book).
-/
import Derived.Test.YtaddnoneoflimaaGreatDoorQbTMT1
import Derived.Test.YtaddnoneoflimaaGreatDoorQbTMakes
import Derived.Deep.RegionLaw
import Derived.Deep.RegionHeld3
import Derived.Deep.LoopGhost
namespace Go.Proofs.YtaddnoneoflimaaGreatDoor

open Go.RowKit Go.Lb

end Go.Proofs.YtaddnoneoflimaaGreatDoor

namespace Go.Lb

open Go.RowKit

def blkOf : Option Addr → Option Nat
  | some a => some a.block
  | none => none

end Go.Lb

namespace Go.Proofs.YtaddnoneoflimaaGreatDoor

open Go.RowKit Go.Lb

end Go.Proofs.YtaddnoneoflimaaGreatDoor

namespace Go.Proofs.YtaddnoneoflimaaGreatDoor

open Go.RowKit Go.Lb

theorem own_keep {w w' : World} {base e n : Nat} {v : Value} {xs : List Value} (h : w.ownsRow base e 1 v n xs) (hb : Below w.heap.size w w') : w'.ownsRow base e 1 v n xs := by
  have hl := h.lt
  obtain ⟨h1, h2⟩ := h
  refine ⟨h1, h2.imp id ?_⟩
  rintro ⟨g, cap, cur, rfl, hg, hh, r⟩
  exact ⟨g, cap, cur, rfl, hg, (hb.block g (hl g rfl).2).trans hh, r⟩

end Go.Proofs.YtaddnoneoflimaaGreatDoor

namespace Go.Lb

open Go.RowKit

end Go.Lb

namespace Go.Lb

open Go.RowKit

section

variable {P : Program} (w : World)

end

end Go.Lb

namespace Go.Proofs.YtaddnoneoflimaaGreatDoor

open Go.RowKit Go.Lb

end Go.Proofs.YtaddnoneoflimaaGreatDoor

namespace Go.Proofs.YtaddnoneoflimaaGreatDoor

open Go.RowKit Go.Lb

theorem fr_lt {e : TypeId} {w : World} {base : Nat} {ao : Option Addr} {n c : Nat} {xs : List Nat} (h : Fr e w base ao n c xs) {g : Nat} (hg : blkOf ao = some g) : base ≤ g ∧ g < w.heap.size := by
  rcases h.blk with ⟨h1, _⟩ | ⟨g', cur, h1, h2, h3, _⟩
  · rw [h1] at hg; cases hg
  · rw [h1] at hg; cases hg; exact ⟨h2, (Array.getElem?_eq_some_iff.1 h3).1⟩

theorem fr_at {e : TypeId} {w w' : World} {base : Nat} {ao : Option Addr} {n c : Nat} {xs : List Nat} (h : Fr e w base ao n c xs) (hs : w.heap.size ≤ w'.heap.size) (hk : ∀ g, blkOf ao = some g → g < w.heap.size → w'.heap[g]? = w.heap[g]?) : Fr e w' base ao n c xs := by
  obtain ⟨h1, h2⟩ := h
  rcases h2 with ⟨rfl, rfl, rfl⟩ | ⟨g, cur, rfl, hg, hh, hc⟩
  · exact ⟨⟨h1.len, h1.le, h1.cap, h1.ok, fun hn => absurd hn (by decide)⟩, .inl ⟨rfl, rfl, rfl⟩⟩
  · have hl := (Array.getElem?_eq_some_iff.1 hh).1
    have hb := hk g rfl hl
    refine ⟨⟨h1.len, h1.le, h1.cap, h1.ok, fun hn => ?_⟩, .inr ⟨g, cur, rfl, hg, hb.trans hh, hc⟩⟩
    obtain ⟨b, o, e1, _, hcell⟩ := h1.at_ hn
    cases e1
    exact ⟨g, 0, rfl, Nat.lt_of_lt_of_le hl hs, fun j hj => (World.cell?_of_block hb).trans (hcell j hj)⟩

end Go.Proofs.YtaddnoneoflimaaGreatDoor

