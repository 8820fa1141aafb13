/-
  The walk of the book's adds: one answer more, and what it must be.
-/
import Derived.Test.YtnokabglkmiidaaDoorSame
import Derived.Test.YtnokabglkmiidaaDoorStand
import Derived.Deep.RegionLaw
namespace Go.Proofs.YtnokabglkmiidaaDoor
open Go.RowKit Go.Lb

theorem nat_info : (Tryd.prog.info? 24).map (fun i => (i.zero, i.size, i.bytes)) = some (some (.agg #[.slice none 0 0]), 1, 24) := by kernel_rfl

/-- What adds leaves: the two lists are one longer; all else is as it was. -/
structure Added (w w' : World) (pb k : Nat) (vg vw : Value) (gs ws : List Value) (x y : Value) : Prop where
  os : w'.os = w.os
  tape : w'.tape = w.tape
  output : w'.output = w.output
  size : w.heap.size ≤ w'.heap.size
  block : ∀ b, b < w.heap.size → b ≠ pb → some b ≠ vg.ownBlock → some b ≠ vw.ownBlock → w'.heap[b]? = w.heap[b]?
  c2 : w'.cell? ⟨pb, 2, none⟩ = w.cell? ⟨pb, 2, none⟩
  new : ∃ g1 p1 g2 p2, w'.cell? ⟨pb, 0, none⟩ = some (.slice (some ⟨g1, 0, none⟩) (k + 1) p1) ∧ w'.cell? ⟨pb, 1, none⟩ = some (.slice (some ⟨g2, 0, none⟩) (k + 1) p2) ∧
    w'.ownsRow (pb + 1) 24 1 (.slice (some ⟨g1, 0, none⟩) (k + 1) p1) (k + 1) (gs ++ [x]) ∧ w'.ownsRow (pb + 1) 24 1 (.slice (some ⟨g2, 0, none⟩) (k + 1) p2) (k + 1) (ws ++ [y]) ∧
    (vg.ownBlock = some g1 ∨ w.heap.size ≤ g1) ∧ (vw.ownBlock = some g2 ∨ w.heap.size ≤ g2) ∧ g1 ≠ g2
  frozen : ∀ j, w'.frozen? ⟨pb, j, none⟩ = w.frozen? ⟨pb, j, none⟩

theorem news_one {X : World} {v : Value} {t : TypeId} {B : Nat} (hB : X.heap.size = B) : ∀ j u, [v][j]? = some u → (X.alloc (.cells #[v] t)).drew.cell? ((⟨B, 0, none⟩ : Addr).add j) = some u := by
  subst hB
  intro j u h
  match j, h with
  | 0, h =>
    simp at h
    subst h
    rw [Addr.add_lit]
    simp

theorem added_fin {w w1 w2 : World} {pb k g1 p1 g2 p2 : Nat} {vg vw x y : Value} {gs ws : List Value}
    (hlt : pb < w.heap.size) (Og : ∀ k, vg.ownBlock = some k → pb + 1 ≤ k ∧ k < w.heap.size) (Ow : ∀ k, vw.ownBlock = some k → pb + 1 ≤ k ∧ k < w.heap.size) (hvw : ∀ g, vg.ownBlock = some g → vw.ownBlock ≠ some g)
    (hg1 : (((w.alloc (.cells #[x] 24)).alloc (.cells #[y] 24)).alloc (.cells #[x] 24)).drew.grownBy w1 vg.ownBlock)
    (hown1 : w1.ownsRow (pb + 1) 24 1 (.slice (some ⟨g1, 0, none⟩) (k + 1) p1) (k + 1) (gs ++ [x])) (hat1 : vg.ownBlock = some g1 ∨ g1 = w.heap.size + 1 + 1 + 1)
    (d0 : w1.cell? ⟨pb, 0, none⟩ = some vg)
    (hg2 : ((w1.setCell ⟨pb, 0, none⟩ (.slice (some ⟨g1, 0, none⟩) (k + 1) p1)).alloc (.cells #[y] 24)).drew.grownBy w2 vw.ownBlock)
    (hown2 : w2.ownsRow (pb + 1) 24 1 (.slice (some ⟨g2, 0, none⟩) (k + 1) p2) (k + 1) (ws ++ [y])) (hat2 : vw.ownBlock = some g2 ∨ g2 = w1.heap.size + 1) (d1 : w2.cell? ⟨pb, 1, none⟩ = some vw) :
    Added w (w2.setCell ⟨pb, 1, none⟩ (.slice (some ⟨g2, 0, none⟩) (k + 1) p2)) pb k vg vw gs ws x y := by
  have s1 := hg1.size
  have s2 := hg2.size
  simp at s1 s2
  have hl1 := (hown1.lt g1 rfl).2
  have hpg : some pb ≠ vg.ownBlock := fun e => absurd (Og pb e.symm).1 (by omega)
  have hpw : some pb ≠ vw.ownBlock := fun e => absurd (Ow pb e.symm).1 (by omega)
  have b1 : ∀ b, b < w.heap.size → some b ≠ vg.ownBlock → w1.heap[b]? = w.heap[b]? := fun b hb hne => (hg1.block b (by simp; omega) hne).trans (((more (more (more (Below.refl w.heap.size w) (.cells #[x] 24)) (.cells #[y] 24)) (.cells #[x] 24)).drew).block b hb)
  have b2 : ∀ b, b < w1.heap.size → some b ≠ vw.ownBlock → w2.heap[b]? = (w1.setCell ⟨pb, 0, none⟩ (.slice (some ⟨g1, 0, none⟩) (k + 1) p1)).heap[b]? := fun b hb hne => (hg2.block b (by simp; omega) hne).trans (Below.heap_alloc _ _ _ (by simpa using hb))
  have hG1 : some g1 ≠ vw.ownBlock := fun e => by
    rcases hat1 with h | h
    · exact hvw g1 h e.symm
    · have := (Ow g1 e.symm).2; omega
  refine ⟨hg2.os.trans hg1.os, hg2.tape.trans hg1.tape, hg2.output.trans hg1.output, by simp; omega, fun b hb hne h1 h2 => ?_, ?_, ⟨g1, p1, g2, p2, ?_, ?_, ?_, ?_, ?_, ?_, ?_⟩, fun j => ?_⟩
  · rw [Below.heap_setCell _ _ _ _ hne, b2 b (by omega) h2, Below.heap_setCell _ _ _ _ hne, b1 b hb h1]
  · rw [World.cell?_setCell_other _ _ _ _ (by simp), World.cell?_of_block (b2 pb (by omega) hpw), World.cell?_setCell_other _ _ _ _ (by simp), World.cell?_of_block (b1 pb hlt hpg)]
  · rw [World.cell?_setCell_other _ _ _ _ (by simp), World.cell?_of_block (b2 pb (by omega) hpw), World.cell?_setCell_same _ _ _ d0]
  · exact World.cell?_setCell_same _ _ _ d1
  · refine ownsRow_setCell_below ?_ (by simp) _
    exact (((ownsRow_setCell_below hown1 (by simp) _).alloc _).drew).kept hg2 (.inr hG1)
  · exact ownsRow_setCell_below hown2 (by simp) _
  · rcases hat1 with h | h
    · exact .inl h
    · exact .inr (by omega)
  · rcases hat2 with h | h
    · exact .inl h
    · exact .inr (by omega)
  · rintro rfl
    rcases hat2 with h | h
    · exact hG1 h.symm
    · omega
  · rw [World.frozen?_setCell, World.frozen?_of_block (b2 pb (by omega) hpw), World.frozen?_setCell, World.frozen?_of_block (b1 pb hlt hpg)]

set_option maxRecDepth 100000 in
set_option maxHeartbeats 3200000 in
theorem adds_any (pb k : Nat) (vg vw : Value) (gs ws : List Value) (a b : Option Addr) (n c n2 c2 : Nat) (w : World)
    (c0 : w.cell? ⟨pb, 0, none⟩ = some vg) (c1 : w.cell? ⟨pb, 1, none⟩ = some vw) (z0 : w.frozen? ⟨pb, 0, none⟩ = false) (z1 : w.frozen? ⟨pb, 1, none⟩ = false)
    (og : w.ownsRow (pb + 1) 24 1 vg k gs) (ow : w.ownsRow (pb + 1) 24 1 vw k ws) (hvw : ∀ g, vg.ownBlock = some g → vw.ownBlock ≠ some g) (hk : k ≤ 1000000) :
    Calls Tryd.prog 41 #[.pointer (some ⟨pb, 0, none⟩), .agg #[.slice a n c], .agg #[.slice b n2 c2]] w fun e w' => e = .returned (.tuple #[]) ∧ Added w w' pb k vg vw gs ws (.slice a n c) (.slice b n2 c2) := by
  obtain ⟨i0, hi0, hz0, hz1, hz2⟩ := info_parts nat_info
  have hlt := World.block_lt_of_cell? _ _ c0
  simp only [] at hlt
  have Og := og.lt
  have Ow := ow.lt
  have far1 : ∀ w1 : World, (((w.alloc (.cells #[.slice a n c] 24)).alloc (.cells #[.slice b n2 c2] 24)).alloc (.cells #[.slice a n c] 24)).drew.grownBy w1 vg.ownBlock →
      (w1.cell? ⟨pb, 0, none⟩ = some vg ∧ w1.frozen? ⟨pb, 0, none⟩ = false) ∧ (w1.cell? ⟨pb, 1, none⟩ = some vw ∧ w1.frozen? ⟨pb, 1, none⟩ = false) ∧ w1.cell? ⟨w.heap.size + 1, 0, none⟩ = some (.slice b n2 c2) ∧ w1.ownsRow (pb + 1) 24 1 vw k ws ∧ w.heap.size + 3 ≤ w1.heap.size ∧ pb < w1.heap.size := by
    intro w1 hg
    have hsz := hg.size
    simp at hsz
    have hB : Below w.heap.size w (((w.alloc (.cells #[.slice a n c] 24)).alloc (.cells #[.slice b n2 c2] 24)).alloc (.cells #[.slice a n c] 24)).drew := (more (more (more (Below.refl _ _) _) _) _).drew
    have hp : ∀ j, some (⟨pb, j, none⟩ : Addr).block ≠ vg.ownBlock := fun j e => absurd (Og pb e.symm).1 (by omega)
    refine ⟨⟨?_, ?_⟩, ⟨?_, ?_⟩, ?_, ?_, by omega, by omega⟩
    · exact (hg.cell_far ⟨pb, 0, none⟩ (by simp; omega) (hp 0)).trans (cellStay c0 hB)
    · exact (hg.frozen_far ⟨pb, 0, none⟩ (by simp; omega) (hp 0)).trans (cfStay ⟨c0, z0⟩ hB).2
    · exact (hg.cell_far ⟨pb, 1, none⟩ (by simp; omega) (hp 1)).trans (cellStay c1 hB)
    · exact (hg.frozen_far ⟨pb, 1, none⟩ (by simp; omega) (hp 1)).trans (cfStay ⟨c1, z1⟩ hB).2
    · refine (hg.cell_far ⟨w.heap.size + 1, 0, none⟩ (by simp) (fun e => absurd (Og (w.heap.size + 1) e.symm).2 (by omega))).trans ?_
      simp [go_sem]
    · refine (((ow.alloc _).alloc _).alloc _).drew.kept hg ?_
      cases hv : vw.ownBlock with
      | none => exact .inl rfl
      | some x => exact .inr fun e => hvw x e.symm hv
  have hlt1 : pb < w.heap.size + 1 := by omega
  have hlt2 : pb < w.heap.size + 1 + 1 := by omega
  have Far1 := Lib.hid far1
  have Og' := Lib.hid Og
  have Ow' := Lib.hid Ow
  clear far1 Og Ow
  go_enter Tryd.func41, Tryd.ntmps41
  go_wp2_with fail
  go_region_law (refine step_append_lies _ rfl (.tmp 10) (.tmp 12) 32 rfl (pb + 1) 24 i0 (.agg #[.slice none 0 0]) 1 24 Tryd.underlying32 hi0 hz0 hz1 hz2 rfl Nat.zero_lt_one vg k gs ?_ ?_ ⟨w.heap.size + 1 + 1, 0, none⟩ 1 1 [.slice a n c] ?_ rfl ?_ ?_ Nat.zero_lt_one ?_ ?_ ?_ (w.heap.size + 1 + 1 + 1) ?_ ?_; (focus (first | rfl | simp [Act.eval, Act.put])); (focus (exact (((og.alloc _).alloc _).alloc _).drew)); (focus (first | rfl | simp [Act.eval, Act.put])); (focus (refine news_one ?_; (first | rfl | simp))); (focus (intro u hu; (obtain rfl := List.mem_singleton.1 hu); rfl)); (focus (unfold maxLen; omega)); (focus omega); (focus (first | (simp; omega) | simp)); (focus (first | rfl | simp)); rintro g1 p1 w1 hown1 hg1 hat1 hglt1; obtain ⟨⟨d0, dz0⟩, ⟨d1, dz1⟩, d5, ow1, hs1, hs2⟩ := Far1.out _ hg1)
  all_goals
    have e1 : (w1.setCell ⟨pb, 0, none⟩ (.slice (some ⟨g1, 0, none⟩) (k + 1) p1)).cell? ⟨pb, 1, none⟩ = some vw := (World.cell?_setCell_other _ _ _ _ (by simp)).trans d1
    have e5 : (w1.setCell ⟨pb, 0, none⟩ (.slice (some ⟨g1, 0, none⟩) (k + 1) p1)).cell? ⟨w.heap.size + 1, 0, none⟩ = some (.slice b n2 c2) := (World.cell?_setCell_other _ _ _ _ (fun e => by have := congrArg Addr.block e; simp at this; omega)).trans d5
    have hs3 : w.heap.size + 1 < w1.heap.size := by omega
    have hs4 : pb < w1.heap.size + 1 := by omega
    have hs5 : w.heap.size + 1 < w1.heap.size + 1 := by omega
    have far2 : ∀ w2 : World, ((w1.setCell ⟨pb, 0, none⟩ (.slice (some ⟨g1, 0, none⟩) (k + 1) p1)).alloc (.cells #[.slice b n2 c2] 24)).drew.grownBy w2 vw.ownBlock → w2.cell? ⟨pb, 1, none⟩ = some vw ∧ w2.frozen? ⟨pb, 1, none⟩ = false := fun w2 hg => by
      have hp : some (⟨pb, 1, none⟩ : Addr).block ≠ vw.ownBlock := fun e => absurd (Ow'.out pb e.symm).1 (by omega)
      refine ⟨(hg.cell_far ⟨pb, 1, none⟩ (by simp; omega) hp).trans ?_, (hg.frozen_far ⟨pb, 1, none⟩ (by simp; omega) hp).trans ?_⟩
      · rw [World.cell?_drew, World.cell?_alloc_old _ _ _ (by simp; omega)]
        exact e1
      · rw [World.frozen?_drew, World.frozen?_alloc_old _ _ _ (by simp; omega), World.frozen?_setCell]
        exact dz1
    have Far2 := Lib.hid far2
    clear far2
    go_wp2_with fail
    go_region_law (refine step_append_lies _ rfl (.tmp 20) (.tmp 22) 32 rfl (pb + 1) 24 i0 (.agg #[.slice none 0 0]) 1 24 Tryd.underlying32 hi0 hz0 hz1 hz2 rfl Nat.zero_lt_one vw k ws ?_ ?_ ⟨w1.heap.size, 0, none⟩ 1 1 [.slice b n2 c2] ?_ rfl ?_ ?_ Nat.zero_lt_one ?_ ?_ ?_ (w1.heap.size + 1) ?_ ?_; (focus (first | rfl | simp [Act.eval, Act.put])); (focus (exact ((ownsRow_setCell_below ow1 (by simp) _).alloc _).drew)); (focus (first | rfl | simp [Act.eval, Act.put])); (focus (refine news_one ?_; (first | rfl | simp))); (focus (intro u hu; (obtain rfl := List.mem_singleton.1 hu); rfl)); (focus (unfold maxLen; omega)); (focus omega); (focus (first | (simp; omega) | simp)); (focus (first | rfl | simp)); rintro g2 p2 w2 hown2 hg2 hat2 hglt2; obtain ⟨f1, fz1⟩ := Far2.out _ hg2)
  all_goals
    go_wp2
    refine bodyPost_end (v := .tuple #[]) (by simp [results, Tryd.results41, go_sem]) rfl ⟨rfl, added_fin hlt Og'.out Ow'.out hvw hg1 hown1 hat1 d0 hg2 hown2 hat2 f1⟩
end Go.Proofs.YtnokabglkmiidaaDoor
