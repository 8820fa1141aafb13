/-
  The walk of the book's dyadic: an answer that is what it must be.
-/
import Derived.Test.YtnokabglkmiidaaDoorAdds
namespace Go.Proofs.YtnokabglkmiidaaDoor
open Go.RowKit Go.Lb

theorem Added.before {w wp w' : World} {pb k : Nat} {vg vw x y : Value} {gs ws : List Value} (hb : Below w.heap.size w wp) (hpb : pb < w.heap.size) (h : Added wp w' pb k vg vw gs ws x y) : Added w w' pb k vg vw gs ws x y := by
  obtain ⟨g1, p1, g2, p2, r1, r2, r3, r4, r5, r6, r7⟩ := h.new
  have hs := hb.size
  refine ⟨h.os.trans hb.os, h.tape.trans hb.tape, h.output.trans hb.output, Nat.le_trans hb.size h.size, fun b hl h1 h2 h3 => (h.block b (by omega) h1 h2 h3).trans (hb.block b hl), h.c2.trans (hb.cell (p := ⟨pb, 2, none⟩) hpb),
    ⟨g1, p1, g2, p2, r1, r2, r3, r4, r5.imp id (fun h => by omega), r6.imp id (fun h => by omega), r7⟩, fun j => (h.frozen j).trans (hb.frozen (p := ⟨pb, j, none⟩) hpb)⟩

theorem own_keep {w w' : World} {base e n : Nat} {v : Value} {xs : List Value} (h : w.ownsRow base e 1 v n xs) (hb : Below w.heap.size w w') : w'.ownsRow base e 1 v n xs := by
  have hl := h.lt
  obtain ⟨h1, h2⟩ := h
  refine ⟨h1, h2.imp id ?_⟩
  rintro ⟨g, cap, cur, rfl, hg, hh, r⟩
  exact ⟨g, cap, cur, rfl, hg, (hb.block g (hl g rfl).2).trans hh, r⟩

set_option maxRecDepth 100000 in
set_option maxHeartbeats 1600000 in
theorem dyadic_any (pb k : Nat) (vg vw : Value) (gs ws : List Value) (neg : Bool) (x er : Int) (a b : Option Addr) (n c c2 : Nat) (ys : List Nat) (w : World)
    (c0 : w.cell? ⟨pb, 0, none⟩ = some vg) (c1 : w.cell? ⟨pb, 1, none⟩ = some vw) (z0 : w.frozen? ⟨pb, 0, none⟩ = false) (z1 : w.frozen? ⟨pb, 1, none⟩ = false)
    (og : w.ownsRow (pb + 1) 24 1 vg k gs) (ow : w.ownsRow (pb + 1) 24 1 vw k ws) (hvw : ∀ g, vg.ownBlock = some g → vw.ownBlock ≠ some g) (hk : k ≤ 1000000)
    (ha : Sl w a n c ys) (hb : Sl w b n c2 ys) :
    Calls Tryd.prog 10 #[.pointer (some ⟨pb, 0, none⟩), .agg #[.bool neg, .slice a n c, .int .i64 x], .int .i64 er, .agg #[.bool neg, .slice b n c2, .int .i64 x], .int .i64 er] w
      fun e w' => e = .returned (.tuple #[]) ∧ Added w w' pb k vg vw gs ws (.slice a n c) (.slice b n c2) := by
  have hlt := World.block_lt_of_cell? _ _ c0
  simp only [] at hlt
  go_enter Tryd.func10, Tryd.ntmps10
  go_wp2_with (first
    | (go_at_call 40; refine (refDySame_eq neg x a b n c c2 ys _ ((ha.alloc _).alloc _) ((hb.alloc _).alloc _)).mono ?_; rintro e w1 ⟨rfl, hb1⟩; obtain ⟨hc1, hf1⟩ := bcell hb1; have hW := next (more (more (Below.refl _ _) _) _) hb1; obtain ⟨hz1, hz2⟩ := bsz2 hb1)
    | (go_at_call 41; refine (adds_any pb k vg vw gs ws a b n c n c2 _ (cellStay c0 hW) (cellStay c1 hW) (cfStay ⟨c0, z0⟩ hW).2 (cfStay ⟨c1, z1⟩ hW).2 (own_keep og hW) (own_keep ow hW) hvw hk).mono ?_; rintro e w2 ⟨rfl, hA⟩))
  refine bodyPost_end (v := .tuple #[]) (by simp [results, Tryd.results10, go_sem]) rfl ⟨rfl, hA.before hW hlt⟩

end Go.Proofs.YtnokabglkmiidaaDoor
