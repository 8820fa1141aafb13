/-
  The walks of the reference's cmp and Same, asked of two numbers that read alike. Plain: numbers that lie apart, written full with marks and then grown one by one: what stands in memory at each step (the laws' own test of what they were answered). No program in sight. The walk of the book's adds: one answer more, and what it must be. The walk of the book's dyadic: an answer that is what it must be. Plain: what holds while numbers that lie apart are written full (Wr) and grown (Gr, Gi). No program in sight. append of a list of values that is nil or begins a block onto a row of the call's own. No program in sight. The walk of the book's stands: all answers are what they must be, and none touches another when they are written full and grown. The book of answers: what holds of it between the calls (Book), one answer more (Book.adds), and its end (stands_book).
-/
import Derived.Test.YtklibjdhlmdkpaaGreatDoorNats
import Derived.Test.YtklibjdhlmdkpaaGreatDoorMakes
import Derived.Test.YtklibjdhlmdkpaaGreatDoorBoxes
import Derived.Deep.RegionLaw
import Derived.Deep.RegionHeld3
import Derived.Deep.LoopGhost
namespace Go.Proofs.YtklibjdhlmdkpaaGreatDoor
open Go.RowKit Go.Lb

end Go.Proofs.YtklibjdhlmdkpaaGreatDoor

namespace Go.Lb
open Go.RowKit

def blkOf : Option Addr → Option Nat
  | some a => some a.block
  | none => none

theorem blkOf_some (g : Nat) : blkOf (some ⟨g, 0, none⟩) = some g := rfl

/-- A slice that begins a block of its own (or is nil), whatever it holds. -/
structure Room (e : TypeId) (w : World) (ao : Option Addr) (n c : Nat) : Prop where
  le : n ≤ c
  cap : c ≤ 9223372036854775807
  blk : (ao = none ∧ n = 0 ∧ c = 0) ∨ ∃ g cur, ao = some ⟨g, 0, none⟩ ∧ w.heap[g]? = some (.cells cur e (0, 0)) ∧ c ≤ cur.size

/-- n cells from the place o on read as f says. -/
def Reads (w : World) (ao : Option Addr) (o n : Nat) (f : Nat → Nat) : Prop := ∀ j, j < n → ∃ g, ao = some ⟨g, 0, none⟩ ∧ w.cell? ⟨g, o + j, none⟩ = some (.int .u32 (f j : Int))

theorem Fr.room {e : TypeId} {w : World} {base : Nat} {ao : Option Addr} {n c : Nat} {xs : List Nat} (h : Fr e w base ao n c xs) : Room e w ao n c :=
  ⟨h.sl.le, h.sl.cap, h.blk.imp id fun ⟨g, cur, h1, _, h3, h4⟩ => ⟨g, cur, h1, h3, h4⟩⟩

theorem Room.other {e : TypeId} {w w' : World} {ao : Option Addr} {n c : Nat} (h : Room e w ao n c) (hk : ∀ g, blkOf ao = some g → g < w.heap.size → w'.heap[g]? = w.heap[g]?) : Room e w' ao n c :=
  ⟨h.le, h.cap, h.blk.imp id fun ⟨g, cur, h1, h2, h3⟩ => ⟨g, cur, h1, (hk g (by rw [h1]; rfl) (Array.getElem?_eq_some_iff.1 h2).1).trans h2, h3⟩⟩

theorem Reads.other {w w' : World} {ao : Option Addr} {o n : Nat} {f : Nat → Nat} (h : Reads w ao o n f) (hk : ∀ g, blkOf ao = some g → g < w.heap.size → w'.heap[g]? = w.heap[g]?) : Reads w' ao o n f := fun j hj => by
  obtain ⟨g, h1, h2⟩ := h j hj
  exact ⟨g, h1, (World.cell?_of_block (hk g (by rw [h1]; rfl) (World.block_lt_of_cell? _ _ h2))).trans h2⟩

theorem Room.grown {e : TypeId} {w w' : World} {ao : Option Addr} {n c : Nat} {row : Option Nat} (h : Room e w ao n c) (hg : w.grownBy w' row) (hne : ∀ g, blkOf ao = some g → some g ≠ row) : Room e w' ao n c :=
  h.other fun g h1 h2 => hg.block g h2 (hne g h1)

theorem Reads.grown {w w' : World} {ao : Option Addr} {o n : Nat} {f : Nat → Nat} {row : Option Nat} (h : Reads w ao o n f) (hg : w.grownBy w' row) (hne : ∀ g, blkOf ao = some g → some g ≠ row) : Reads w' ao o n f :=
  h.other fun g h1 h2 => hg.block g h2 (hne g h1)

/-- A store leaves every block as long as it was. -/
theorem Room.set {e : TypeId} {w : World} {ao : Option Addr} {n c : Nat} (h : Room e w ao n c) (b j : Nat) (v : Value) : Room e (w.setCell ⟨b, j, none⟩ v) ao n c := by
  obtain ⟨h1, h2, h3⟩ := h
  refine ⟨h1, h2, h3.imp id ?_⟩
  rintro ⟨g, cur, e1, e2, e3⟩
  by_cases hb : g = b
  · subst hb
    exact ⟨g, _, e1, heap_setCell_same w g j cur e v e2, by simpa using e3⟩
  · exact ⟨g, cur, e1, (heap_setCell_other w ⟨b, j, none⟩ g v hb).trans e2, e3⟩

/-- A place within a slice's length can be written. -/
theorem Room.cell {e : TypeId} {w : World} {g n c : Nat} (h : Room e w (some ⟨g, 0, none⟩) n c) {j : Nat} (hj : j < n) : ∃ u, w.cell? ⟨g, j, none⟩ = some u := by
  rcases h.blk with ⟨h1, _⟩ | ⟨g', cur, h1, h2, h3⟩
  · cases h1
  · cases h1
    have hs : j < cur.size := by have := h.le; omega
    exact ⟨cur[j], by rw [cell_of_row w g j cur e (0, 0) h2, Array.getElem?_eq_getElem hs]⟩

theorem Room.frozen {e : TypeId} {w : World} {g n c : Nat} (h : Room e w (some ⟨g, 0, none⟩) n c) (j : Nat) : w.frozen? ⟨g, j, none⟩ = false := by
  rcases h.blk with ⟨h1, _⟩ | ⟨g', cur, h1, h2, h3⟩
  · cases h1
  · cases h1
    exact frozen_of_row w g j cur e h2

theorem Room.at_ {e : TypeId} {w : World} {ao : Option Addr} {n c : Nat} (h : Room e w ao n c) (hn : 0 < n) : ∃ g, ao = some ⟨g, 0, none⟩ ∧ g < w.heap.size := by
  rcases h.blk with ⟨_, h1, _⟩ | ⟨g, cur, h1, h2, _⟩
  · omega
  · exact ⟨g, h1, (Array.getElem?_eq_some_iff.1 h2).1⟩

/-- append of one value onto such a slice: in place, or in a new block; what was read reads on. -/
theorem run_append_one {P : Program} (w : World) (t ty e : TypeId) (i : TypeInfo) (z : Value) (ht : P.underlying t = some (.slice e)) (hi : P.info? e = some i) (hz : i.zero = some z)
    (hsize : i.size = 1) (hby : i.bytes = 4) (hzs : z.cells.size = 1)
    {ao : Option Addr} {n c : Nat} (hr : Room e w ao n c) (b o m : Nat) (u : Value) (hu : w.cell? ⟨b, o, none⟩ = some u) (hu1 : u.oneCell' = true) (hbytes : (n + 1) * 4 ≤ 140737488355328) :
    ∃ g c' w', (Builtin.append_ #[t, t] ty #[.slice ao n c, .slice (some ⟨b, o, none⟩) 1 m]).run P w = .ok (.slice (some ⟨g, 0, none⟩) (n + 1) c') w' ∧ Room e w' (some ⟨g, 0, none⟩) (n + 1) c' ∧
      ((ao = some ⟨g, 0, none⟩ ∧ w.grownBy w' (some g)) ∨ (g = w.heap.size ∧ w.grownBy w' none)) ∧
      (∀ j, j < n → ∀ g0, ao = some ⟨g0, 0, none⟩ → w'.cell? ⟨g, j, none⟩ = w.cell? ⟨g0, j, none⟩) ∧ w'.cell? ⟨g, n, none⟩ = some u ∧ g < w'.heap.size := by
  have hnews : ∀ j v, [u][j]? = some v → w.cell? ((⟨b, o, none⟩ : Addr).add j) = some v := by
    intro j v h
    match j, h with
    | 0, h =>
      simp at h
      subst h
      rw [Addr.add_lit]
      exact hu
  have h63 : n + 1 ≤ maxLen := by unfold maxLen; omega
  have grown : ∀ (olds : List Value) (old : Nat), olds.length = n →
      Room e (w.drew.alloc (.cells (olds.toArray ++ [u].toArray ++ Builtin.zeroCells z.cells (grownCap w (n + 1) old e - (n + 1))) e)) (some ⟨w.heap.size, 0, none⟩) (n + 1) (grownCap w (n + 1) old e) ∧
      w.grownBy (w.drew.alloc (.cells (olds.toArray ++ [u].toArray ++ Builtin.zeroCells z.cells (grownCap w (n + 1) old e - (n + 1))) e)) none ∧
      (∀ j, j < n → (w.drew.alloc (.cells (olds.toArray ++ [u].toArray ++ Builtin.zeroCells z.cells (grownCap w (n + 1) old e - (n + 1))) e)).cell? ⟨w.heap.size, j, none⟩ = olds[j]?) ∧
      (w.drew.alloc (.cells (olds.toArray ++ [u].toArray ++ Builtin.zeroCells z.cells (grownCap w (n + 1) old e - (n + 1))) e)).cell? ⟨w.heap.size, n, none⟩ = some u := by
    intro olds old hlo
    have hge := grownCap_ge w (n + 1) old e
    have hcm := grownCap_le_maxLen w (n + 1) old e h63
    have hnew : (w.drew.alloc (.cells (olds.toArray ++ [u].toArray ++ Builtin.zeroCells z.cells (grownCap w (n + 1) old e - (n + 1))) e)).heap[w.heap.size]? = some (.cells (olds.toArray ++ [u].toArray ++ Builtin.zeroCells z.cells (grownCap w (n + 1) old e - (n + 1))) e (0, 0)) := heap_alloc_new w.drew _
    refine ⟨⟨hge, by unfold maxLen at hcm; omega, .inr ⟨w.heap.size, _, rfl, hnew, ?_⟩⟩, ⟨rfl, rfl, rfl, by simp, fun k hk _ => Below.heap_alloc w.drew _ k hk⟩, fun j hj => ?_, ?_⟩
    · simp only [Array.size_append, List.size_toArray, size_zeroCells, hzs, hlo, List.length_singleton]
      omega
    · rw [cell_of_row _ _ _ _ _ _ hnew, Array.append_assoc, Array.getElem?_append_left (by simp [hlo]; exact hj)]
      simp
    · rw [cell_of_row _ _ _ _ _ _ hnew, Array.append_assoc, Array.getElem?_append_right (by simp [hlo])]
      simp [hlo]
      rw [Array.getElem?_append_left (by simp)]
      rfl
  rcases hr.blk with ⟨rfl, rfl, rfl⟩ | ⟨g, cur, rfl, hg, hc⟩
  · have hrun := run_append_nil (P := P) w t ty e i z ht hi hz ⟨b, o, none⟩ 1 m [u] (by simp [hsize]) hnews (by omega) (by omega) (by rw [hby]; omega)
    obtain ⟨g1, g2, g3, g4⟩ := grown [] 0 rfl
    simp only [Nat.zero_add, Array.empty_append] at g1 g2 g4 ⊢
    exact ⟨_, _, _, hrun, g1, .inr ⟨rfl, g2⟩, fun j hj => absurd hj (by omega), g4, by simp⟩
  · have hle := hr.le
    by_cases hroom : n + 1 ≤ c
    · have hfit : n * i.size + [u].length ≤ cur.size := by rw [hsize]; simp; omega
      have hrun := run_append_room (P := P) w t ty e i ht hi g n c cur hg ⟨b, o, none⟩ 1 m [u] (by simp [hsize]) hnews (by simpa using hu1) hroom hfit
      rw [hsize, Nat.mul_one] at hrun
      have hh := setRow_heap w g cur (cur.toList.take n ++ [u] ++ cur.toList.drop (n + [u].length)).toArray e (0, 0) hg
      have hlt : n < cur.size := by omega
      refine ⟨g, c, _, hrun, ⟨hroom, hr.cap, .inr ⟨g, _, rfl, hh, ?_⟩⟩, .inl ⟨rfl, ⟨rfl, rfl, rfl, by simp, fun k _ hk => setRow_other w g k _ (fun e => hk (by rw [e]))⟩⟩, fun j hj g0 e0 => ?_, ?_, ?_⟩
      · simp
        omega
      · cases e0
        rw [cell_of_row _ _ _ _ _ _ hh, cell_of_row _ _ _ _ _ _ hg]
        rw [List.getElem?_toArray, List.append_assoc, List.getElem?_append_left (by simp; omega), List.getElem?_take, if_pos hj]
        simp
      · rw [cell_of_row _ _ _ _ _ _ hh, List.getElem?_toArray, List.append_assoc, List.getElem?_append_right (by simp; omega)]
        simp
        rw [show n - min n cur.size = 0 by omega]
        rfl
      · simp
        exact (Array.getElem?_eq_some_iff.1 hg).1
    · have hlo : (cur.toList.take n).length = n := by simp; omega
      have holds : ∀ j v, (cur.toList.take n)[j]? = some v → w.cell? ((⟨g, 0, none⟩ : Addr).add j) = some v := by
        intro j v h
        rw [Addr.add_lit, Nat.zero_add, cell_of_row w g j cur e (0, 0) hg]
        rw [List.getElem?_take] at h
        split at h
        · simpa using h
        · cases h
      have hrun := run_append_grow (P := P) w t ty e i z ht hi hz ⟨g, 0, none⟩ n c _ (by rw [hsize, Nat.mul_one]; exact hlo) holds ⟨b, o, none⟩ 1 m [u] (by simp [hsize]) hnews (by omega) (by omega) (growslice_fits (by omega) (by rw [hby]; exact hbytes))
      obtain ⟨g1, g2, g3, g4⟩ := grown (cur.toList.take n) c hlo
      refine ⟨_, _, _, hrun, g1, .inr ⟨rfl, g2⟩, fun j hj g0 e0 => ?_, g4, by simp⟩
      cases e0
      rw [g3 j hj, cell_of_row _ _ _ _ _ _ hg, List.getElem?_take, if_pos hj]
      simp

theorem wpList_append_one {P : Program} (w : World) {ops : Array Oper} {rest : List Oper} {o : Oper} {a : Act} {Q : Exit → Act → World → Prop} (hgd : o.guard = none) (s x : Operand) (t : TypeId)
    (ho : o.op = .call { callee := .builtin .append, args := #[s, x], argTypes := #[t, t] })
    (e : TypeId) (i : TypeInfo) (z : Value) (ht : P.underlying t = some (.slice e)) (hi : P.info? e = some i) (hz : i.zero = some z) (hsize : i.size = 1) (hby : i.bytes = 4) (hzs : z.cells.size = 1)
    (ao : Option Addr) (n c : Nat) (hs : a.eval s = .slice ao n c) (hr : Room e w ao n c) (b p m : Nat) (u : Value) (hx : a.eval x = .slice (some ⟨b, p, none⟩) 1 m) (hu : w.cell? ⟨b, p, none⟩ = some u) (hu1 : u.oneCell' = true)
    (hbytes : (n + 1) * 4 ≤ 140737488355328)
    (h : ∀ g c' w', Room e w' (some ⟨g, 0, none⟩) (n + 1) c' → ((ao = some ⟨g, 0, none⟩ ∧ w.grownBy w' (some g)) ∨ (g = w.heap.size ∧ w.grownBy w' none)) →
      (∀ j, j < n → ∀ g0, ao = some ⟨g0, 0, none⟩ → w'.cell? ⟨g, j, none⟩ = w.cell? ⟨g0, j, none⟩) → w'.cell? ⟨g, n, none⟩ = some u → g < w'.heap.size → wpList P ops Q rest (a.put o.dst (.slice (some ⟨g, 0, none⟩) (n + 1) c')) w') : wpList P ops Q (o :: rest) a w := by
  refine wpList_plain hgd fun K hK => ?_
  obtain ⟨g, c', w', hrun, h2, h3, h4, h5, h6⟩ := run_append_one (P := P) w t o.type e i z ht hi hz hsize hby hzs hr b p m u hu hu1 hbytes
  unfold Oper.wp execOp
  simp only [ho, resolve, invoke, builtin, Sem.run_bind, Sem.run_pure, Result.andThen_ok, List.map_toArray, List.map_cons, List.map_nil, hs, hx, hrun]
  exact hK _ _ (h g c' w' h2 h3 h4 h5 h6)

end Go.Lb

namespace Go.Proofs.YtklibjdhlmdkpaaGreatDoor
open Go.RowKit Go.Lb

theorem nat_info : (Tryz.prog.info? 111).map (fun i => (i.zero, i.size, i.bytes)) = some (some (.agg #[.slice none 0 0]), 1, 24) := by kernel_rfl

/-- What adds leaves: the two lists are one longer; all else is as it was. -/
structure Added (w w' : World) (pb k : Nat) (vg vw : Value) (gs ws : List Value) (x y : Value) : Prop where
  os : w'.os = w.os
  tape : w'.tape = w.tape
  output : w'.output = w.output
  size : w.heap.size ≤ w'.heap.size
  block : ∀ b, b < w.heap.size → b ≠ pb → some b ≠ vg.ownBlock → some b ≠ vw.ownBlock → w'.heap[b]? = w.heap[b]?
  c2 : w'.cell? ⟨pb, 2, none⟩ = w.cell? ⟨pb, 2, none⟩
  new : ∃ g1 p1 g2 p2, w'.cell? ⟨pb, 0, none⟩ = some (.slice (some ⟨g1, 0, none⟩) (k + 1) p1) ∧ w'.cell? ⟨pb, 1, none⟩ = some (.slice (some ⟨g2, 0, none⟩) (k + 1) p2) ∧
    w'.ownsRow (pb + 1) 111 1 (.slice (some ⟨g1, 0, none⟩) (k + 1) p1) (k + 1) (gs ++ [x]) ∧ w'.ownsRow (pb + 1) 111 1 (.slice (some ⟨g2, 0, none⟩) (k + 1) p2) (k + 1) (ws ++ [y]) ∧
    (vg.ownBlock = some g1 ∨ w.heap.size ≤ g1) ∧ (vw.ownBlock = some g2 ∨ w.heap.size ≤ g2) ∧ g1 ≠ g2
  frozen : ∀ j, w'.frozen? ⟨pb, j, none⟩ = w.frozen? ⟨pb, j, none⟩

theorem news_one {X : World} {v : Value} {t : TypeId} {B : Nat} (hB : X.heap.size = B) : ∀ j u, [v][j]? = some u → (X.alloc (.cells #[v] t)).drew.cell? ((⟨B, 0, none⟩ : Addr).add j) = some u := by
  subst hB
  intro j u h
  match j, h with
  | 0, h =>
    simp at h
    subst h
    rw [Addr.add_lit]
    simp

theorem added_fin {w w1 w2 : World} {pb k g1 p1 g2 p2 : Nat} {vg vw x y : Value} {gs ws : List Value}
    (hlt : pb < w.heap.size) (Og : ∀ k, vg.ownBlock = some k → pb + 1 ≤ k ∧ k < w.heap.size) (Ow : ∀ k, vw.ownBlock = some k → pb + 1 ≤ k ∧ k < w.heap.size) (hvw : ∀ g, vg.ownBlock = some g → vw.ownBlock ≠ some g)
    (hg1 : (((w.alloc (.cells #[x] 111)).alloc (.cells #[y] 111)).alloc (.cells #[x] 111)).drew.grownBy w1 vg.ownBlock)
    (hown1 : w1.ownsRow (pb + 1) 111 1 (.slice (some ⟨g1, 0, none⟩) (k + 1) p1) (k + 1) (gs ++ [x])) (hat1 : vg.ownBlock = some g1 ∨ g1 = w.heap.size + 1 + 1 + 1)
    (d0 : w1.cell? ⟨pb, 0, none⟩ = some vg)
    (hg2 : ((w1.setCell ⟨pb, 0, none⟩ (.slice (some ⟨g1, 0, none⟩) (k + 1) p1)).alloc (.cells #[y] 111)).drew.grownBy w2 vw.ownBlock)
    (hown2 : w2.ownsRow (pb + 1) 111 1 (.slice (some ⟨g2, 0, none⟩) (k + 1) p2) (k + 1) (ws ++ [y])) (hat2 : vw.ownBlock = some g2 ∨ g2 = w1.heap.size + 1) (d1 : w2.cell? ⟨pb, 1, none⟩ = some vw) :
    Added w (w2.setCell ⟨pb, 1, none⟩ (.slice (some ⟨g2, 0, none⟩) (k + 1) p2)) pb k vg vw gs ws x y := by
  have s1 := hg1.size
  have s2 := hg2.size
  simp at s1 s2
  have hl1 := (hown1.lt g1 rfl).2
  have hpg : some pb ≠ vg.ownBlock := fun e => absurd (Og pb e.symm).1 (by omega)
  have hpw : some pb ≠ vw.ownBlock := fun e => absurd (Ow pb e.symm).1 (by omega)
  have b1 : ∀ b, b < w.heap.size → some b ≠ vg.ownBlock → w1.heap[b]? = w.heap[b]? := fun b hb hne => (hg1.block b (by simp; omega) hne).trans (((more (more (more (Below.refl w.heap.size w) (.cells #[x] 111)) (.cells #[y] 111)) (.cells #[x] 111)).drew).block b hb)
  have b2 : ∀ b, b < w1.heap.size → some b ≠ vw.ownBlock → w2.heap[b]? = (w1.setCell ⟨pb, 0, none⟩ (.slice (some ⟨g1, 0, none⟩) (k + 1) p1)).heap[b]? := fun b hb hne => (hg2.block b (by simp; omega) hne).trans (Below.heap_alloc _ _ _ (by simpa using hb))
  have hG1 : some g1 ≠ vw.ownBlock := fun e => by
    rcases hat1 with h | h
    · exact hvw g1 h e.symm
    · have := (Ow g1 e.symm).2; omega
  refine ⟨hg2.os.trans hg1.os, hg2.tape.trans hg1.tape, hg2.output.trans hg1.output, by simp; omega, fun b hb hne h1 h2 => ?_, ?_, ⟨g1, p1, g2, p2, ?_, ?_, ?_, ?_, ?_, ?_, ?_⟩, fun j => ?_⟩
  · rw [Below.heap_setCell _ _ _ _ hne, b2 b (by omega) h2, Below.heap_setCell _ _ _ _ hne, b1 b hb h1]
  · rw [World.cell?_setCell_other _ _ _ _ (by simp), World.cell?_of_block (b2 pb (by omega) hpw), World.cell?_setCell_other _ _ _ _ (by simp), World.cell?_of_block (b1 pb hlt hpg)]
  · rw [World.cell?_setCell_other _ _ _ _ (by simp), World.cell?_of_block (b2 pb (by omega) hpw), World.cell?_setCell_same _ _ _ d0]
  · exact World.cell?_setCell_same _ _ _ d1
  · refine ownsRow_setCell_below ?_ (by simp) _
    exact (((ownsRow_setCell_below hown1 (by simp) _).alloc _).drew).kept hg2 (.inr hG1)
  · exact ownsRow_setCell_below hown2 (by simp) _
  · rcases hat1 with h | h
    · exact .inl h
    · exact .inr (by omega)
  · rcases hat2 with h | h
    · exact .inl h
    · exact .inr (by omega)
  · rintro rfl
    rcases hat2 with h | h
    · exact hG1 h.symm
    · omega
  · rw [World.frozen?_setCell, World.frozen?_of_block (b2 pb (by omega) hpw), World.frozen?_setCell, World.frozen?_of_block (b1 pb hlt hpg)]

end Go.Proofs.YtklibjdhlmdkpaaGreatDoor

namespace Go.Proofs.YtklibjdhlmdkpaaGreatDoor
open Go.RowKit Go.Lb

theorem Added.before {w wp w' : World} {pb k : Nat} {vg vw x y : Value} {gs ws : List Value} (hb : Below w.heap.size w wp) (hpb : pb < w.heap.size) (h : Added wp w' pb k vg vw gs ws x y) : Added w w' pb k vg vw gs ws x y := by
  obtain ⟨g1, p1, g2, p2, r1, r2, r3, r4, r5, r6, r7⟩ := h.new
  have hs := hb.size
  refine ⟨h.os.trans hb.os, h.tape.trans hb.tape, h.output.trans hb.output, Nat.le_trans hb.size h.size, fun b hl h1 h2 h3 => (h.block b (by omega) h1 h2 h3).trans (hb.block b hl), h.c2.trans (hb.cell (p := ⟨pb, 2, none⟩) hpb),
    ⟨g1, p1, g2, p2, r1, r2, r3, r4, r5.imp id (fun h => by omega), r6.imp id (fun h => by omega), r7⟩, fun j => (h.frozen j).trans (hb.frozen (p := ⟨pb, j, none⟩) hpb)⟩

theorem own_keep {w w' : World} {base e n : Nat} {v : Value} {xs : List Value} (h : w.ownsRow base e 1 v n xs) (hb : Below w.heap.size w w') : w'.ownsRow base e 1 v n xs := by
  have hl := h.lt
  obtain ⟨h1, h2⟩ := h
  refine ⟨h1, h2.imp id ?_⟩
  rintro ⟨g, cap, cur, rfl, hg, hh, r⟩
  exact ⟨g, cap, cur, rfl, hg, (hb.block g (hl g rfl).2).trans hh, r⟩

end Go.Proofs.YtklibjdhlmdkpaaGreatDoor

namespace Go.Lb
open Go.RowKit

/-- The marks. -/
def mark (t j : Nat) : Nat := 1000 * t + j % 1000
def tailM (t q : Nat) : Nat := 900000 + 1000 * t + q

/-- A list of slices: where each begins, its length, its room. -/
structure Fam where
  k : Nat
  ao : Nat → Option Addr
  nn : Nat → Nat
  cc : Nat → Nat

/-- No two of them lie in one block, and none lies in the block ga; all lie from B on. -/
structure Fam.Apart (F : Fam) (B ga : Nat) : Prop where
  items : ∀ s t, s < F.k → t < F.k → s ≠ t → ∀ g, blkOf (F.ao s) = some g → blkOf (F.ao t) ≠ some g
  all : ∀ t, t < F.k → blkOf (F.ao t) ≠ some ga
  base : ∀ t, t < F.k → ∀ g, blkOf (F.ao t) = some g → B ≤ g

/-- The list of them all, in the block ga. -/
def Fam.Row (F : Fam) (w : World) (ga : Nat) : Prop := ∀ t, t < F.k → w.cell? ⟨ga, t, none⟩ = some (.slice (F.ao t) (F.nn t) (F.cc t))

/-- i of them are written full, and j places of the next. -/
structure Wr (F : Fam) (e : TypeId) (B ga : Nat) (w0 w : World) (i j : Nat) : Prop where
  bel : Below B w0 w
  row : F.Row w ga
  room : ∀ t, t < F.k → Room e w (F.ao t) (F.nn t) (F.cc t)
  done : ∀ t, t < i → t < F.k → Reads w (F.ao t) 0 (F.nn t) (mark t)
  cur : Reads w (F.ao i) 0 j (mark i)

theorem Fam.Row.other {F : Fam} {w w' : World} {ga : Nat} (h : F.Row w ga) (hk : w'.heap[ga]? = w.heap[ga]?) : F.Row w' ga := fun t ht => (World.cell?_of_block hk).trans (h t ht)

theorem reads_none (w : World) (ao : Option Addr) (o : Nat) (f : Nat → Nat) : Reads w ao o 0 f := fun _ h => absurd h (by omega)

theorem blkOf_eq {g : Nat} {ao : Option Addr} (h : ao = some ⟨g, 0, none⟩) : blkOf ao = some g := by rw [h]; rfl

theorem Wr.start {F : Fam} {e : TypeId} {B ga : Nat} {w0 w : World} (hb : Below B w0 w) (hr : F.Row w ga) (hm : ∀ t, t < F.k → Room e w (F.ao t) (F.nn t) (F.cc t)) : Wr F e B ga w0 w 0 0 :=
  ⟨hb, hr, hm, fun t h => absurd h (by omega), reads_none _ _ _ _⟩

theorem Wr.next {F : Fam} {e : TypeId} {B ga : Nat} {w0 w : World} {i : Nat} (h : Wr F e B ga w0 w i (F.nn i)) : Wr F e B ga w0 w (i + 1) 0 :=
  ⟨h.bel, h.row, h.room, fun t ht hk => by
    by_cases e : t = i
    · subst e; exact h.cur
    · exact h.done t (by omega) hk, reads_none _ _ _ _⟩

theorem Wr.step {F : Fam} {e : TypeId} {B ga : Nat} {w0 w : World} {i j g : Nat} (h : Wr F e B ga w0 w i j) (hA : F.Apart B ga) (hi : i < F.k) (hj : j < F.nn i) (hg : F.ao i = some ⟨g, 0, none⟩) :
    Wr F e B ga w0 (w.setCell ⟨g, j, none⟩ (.int .u32 (mark i j : Nat))) i (j + 1) := by
  have hgb := blkOf_eq hg
  have hother : ∀ b, b ≠ g → (w.setCell ⟨g, j, none⟩ (.int .u32 (mark i j : Nat))).heap[b]? = w.heap[b]? := fun b hb => heap_setCell_other w ⟨g, j, none⟩ b _ hb
  have hrm := h.room i hi
  rw [hg] at hrm
  obtain ⟨u, hu⟩ := hrm.cell hj
  refine ⟨h.bel.setCell (hA.base i hi g hgb) _, h.row.other (hother ga (fun e => hA.all i hi (by rw [hgb, e]))), fun t ht => (h.room t ht).set g j _, fun t ht hk => ?_, fun q hq => ?_⟩
  · refine (h.done t ht hk).other fun b hb _ => hother b fun e => ?_
    subst e
    exact hA.items i t hi hk (by omega) b hgb hb
  · refine ⟨g, hg, ?_⟩
    rw [Nat.zero_add]
    by_cases e : q = j
    · subst e
      exact World.cell?_setCell_same _ _ _ hu
    · rw [World.cell?_setCell_other _ _ _ _ (fun e2 => e (by have := congrArg Addr.off e2; simpa using this.symm))]
      obtain ⟨g', hg', hc⟩ := h.cur q (by omega)
      rw [hg] at hg'
      cases hg'
      rw [Nat.zero_add] at hc
      exact hc

/-- The slices that were grown: where each begins, its room. -/
def grownL (F : Fam) (a' c' : Nat → Nat) (i : Nat) : List Value := (List.range i).map fun t => .slice (some ⟨a' t, 0, none⟩) (F.nn t + 40) (c' t)

/-- i of them are grown. -/
structure Gr (F : Fam) (e eS : TypeId) (B H ga : Nat) (w0 w : World) (i : Nat) (a' c' : Nat → Nat) (vg : Value) : Prop where
  bel : Below B w0 w
  hsz : H ≤ w.heap.size
  row : F.Row w ga
  marks : ∀ t, t < F.k → Reads w (F.ao t) 0 (F.nn t) (mark t)
  room : ∀ t, t < F.k → i ≤ t → Room e w (F.ao t) (F.nn t) (F.cc t)
  got : ∀ t, t < i → Reads w (some ⟨a' t, 0, none⟩) 0 (F.nn t) (mark t) ∧ Reads w (some ⟨a' t, 0, none⟩) (F.nn t) 40 (tailM t)
  p1 : ∀ t, t < i → blkOf (F.ao t) = some (a' t) ∨ H ≤ a' t
  p2 : ∀ s t, s < t → t < i → a' s ≠ a' t
  own : w.ownsRow H eS 1 vg i (grownL F a' c' i)
  p3 : ∀ t, t < i → vg.ownBlock ≠ some (a' t)

/-- .. and q places of the next one, which is now al. -/
structure Gi (F : Fam) (e eS : TypeId) (B H ga : Nat) (w0 w : World) (i : Nat) (a' c' : Nat → Nat) (vg : Value) (q : Nat) (al : Option Addr) (cl : Nat) : Prop where
  bel : Below B w0 w
  hsz : H ≤ w.heap.size
  row : F.Row w ga
  marks : ∀ t, t < F.k → Reads w (F.ao t) 0 (F.nn t) (mark t)
  room : ∀ t, t < F.k → i < t → Room e w (F.ao t) (F.nn t) (F.cc t)
  got : ∀ t, t < i → Reads w (some ⟨a' t, 0, none⟩) 0 (F.nn t) (mark t) ∧ Reads w (some ⟨a' t, 0, none⟩) (F.nn t) 40 (tailM t)
  p1 : ∀ t, t < i → blkOf (F.ao t) = some (a' t) ∨ H ≤ a' t
  p2 : ∀ s t, s < t → t < i → a' s ≠ a' t
  own : w.ownsRow H eS 1 vg i (grownL F a' c' i)
  p3 : ∀ t, t < i → vg.ownBlock ≠ some (a' t)
  lroom : Room e w al (F.nn i + q) cl
  lmark : Reads w al 0 (F.nn i) (mark i)
  ltail : Reads w al (F.nn i) q (tailM i)
  l1 : al = F.ao i ∨ ∃ g, al = some ⟨g, 0, none⟩ ∧ H ≤ g ∧ (∀ t, t < i → a' t ≠ g) ∧ vg.ownBlock ≠ some g

theorem Gr.start {F : Fam} {e eS : TypeId} {B ga : Nat} {w0 w : World} (h : Wr F e B ga w0 w F.k 0) : Gr F e eS B w.heap.size ga w0 w 0 (fun _ => 0) (fun _ => 0) (.slice none 0 0) :=
  ⟨h.bel, Nat.le_refl _, h.row, fun t ht => h.done t ht ht, fun t ht _ => h.room t ht, fun t ht => absurd ht (by omega), fun t ht => absurd ht (by omega), fun s t _ ht => absurd ht (by omega), World.ownsRow_nil _ _ _ _, fun t ht => absurd ht (by omega)⟩

theorem Gi.start {F : Fam} {e eS : TypeId} {B H ga : Nat} {w0 w : World} {i : Nat} {a' c' : Nat → Nat} {vg : Value} (h : Gr F e eS B H ga w0 w i a' c' vg) (hi : i < F.k) : Gi F e eS B H ga w0 w i a' c' vg 0 (F.ao i) (F.cc i) :=
  ⟨h.bel, h.hsz, h.row, h.marks, fun t ht hk => h.room t ht (by omega), h.got, h.p1, h.p2, h.own, h.p3, h.room i hi (Nat.le_refl _), h.marks i hi, reads_none _ _ _ _, .inl rfl⟩

/-- The frame of one append onto al: every other block is as it was. -/
theorem Gi.step {F : Fam} {e eS : TypeId} {B H ga : Nat} {w0 w w1 w2 : World} {i : Nat} {a' c' : Nat → Nat} {vg : Value} {q : Nat} {al : Option Addr} {cl g c2 : Nat} (h : Gi F e eS B H ga w0 w i a' c' vg q al cl)
    (hA : F.Apart B ga) (hi : i < F.k) (hga : ga < H) (hH : ∀ t, t < F.k → ∀ b, blkOf (F.ao t) = some b → b < H) (hBH : B ≤ H)
    (hw1 : w.grownBy w1 none) (hr2 : Room e w2 (some ⟨g, 0, none⟩) (F.nn i + q + 1) c2)
    (hor : (al = some ⟨g, 0, none⟩ ∧ w1.grownBy w2 (some g)) ∨ (g = w1.heap.size ∧ w1.grownBy w2 none))
    (hold : ∀ j, j < F.nn i + q → ∀ g0, al = some ⟨g0, 0, none⟩ → w2.cell? ⟨g, j, none⟩ = w1.cell? ⟨g0, j, none⟩) (hnew : w2.cell? ⟨g, F.nn i + q, none⟩ = some (.int .u32 (tailM i q : Nat))) :
    Gi F e eS B H ga w0 w2 i a' c' vg (q + 1) (some ⟨g, 0, none⟩) c2 := by
  -- the block that may have turned
  obtain ⟨row, hg2, hrow⟩ : ∃ row, w1.grownBy w2 row ∧ ∀ b, row = some b → al = some ⟨b, 0, none⟩ ∧ b = g := by
    rcases hor with ⟨h1, h2⟩ | ⟨_, h2⟩
    · exact ⟨some g, h2, fun b hb => by cases hb; exact ⟨h1, rfl⟩⟩
    · exact ⟨none, h2, fun b hb => by cases hb⟩
  have hs1 := hw1.size
  have hs2 := hg2.size
  have hkeep : ∀ b, b < w.heap.size → (∀ x, al = some x → b ≠ x.block) → w2.heap[b]? = w.heap[b]? := fun b hb hne =>
    (hg2.block b (by omega) (fun e => by obtain ⟨h1, h2⟩ := hrow b e.symm; exact hne _ h1 rfl)).trans (hw1.block b hb (by simp))
  -- al's block against the others
  have halB : ∀ x, al = some x → B ≤ x.block := fun x hx => by
    rcases h.l1 with hl | ⟨b, hl, h2, _⟩
    · exact hA.base i hi _ (by rw [← hl, hx]; rfl)
    · rw [hl] at hx; cases hx; exact Nat.le_trans hBH h2
  have hsep : ∀ t, t < F.k → t ≠ i → ∀ b, blkOf (F.ao t) = some b → ∀ x, al = some x → b ≠ x.block := fun t ht hti b hb x hx e => by
    rcases h.l1 with hl | ⟨b', hl, h2, _⟩
    · exact hA.items t i ht hi hti b hb (by rw [← hl, hx, e]; rfl)
    · rw [hl] at hx; cases hx
      have := hH t ht b hb
      simp at e
      omega
  have hsepG : ∀ t, t < i → ∀ x, al = some x → a' t ≠ x.block := fun t ht x hx e => by
    rcases h.l1 with hl | ⟨b', hl, h2, h3, _⟩
    · have hbi : blkOf (F.ao i) = some x.block := by rw [← hl, hx]; rfl
      rcases h.p1 t ht with h4 | h4
      · exact hA.items t i (by omega) hi (by omega) _ h4 (by rw [hbi, e])
      · have := hH i hi _ hbi
        omega
    · rw [hl] at hx; cases hx
      exact h3 t ht e
  have hsepV : ∀ x, al = some x → vg.ownBlock ≠ some x.block := fun x hx e => by
    rcases h.l1 with hl | ⟨b', hl, h2, _, h4⟩
    · have hbi : blkOf (F.ao i) = some x.block := by rw [← hl, hx]; rfl
      have := hH i hi _ hbi
      have := (h.own.lt _ e).1
      omega
    · rw [hl] at hx; cases hx
      exact h4 e
  have hgaA : ∀ x, al = some x → ga ≠ x.block := fun x hx e => by
    rcases h.l1 with hl | ⟨b', hl, h2, _⟩
    · exact hA.all i hi (by rw [← hl, hx, e]; rfl)
    · rw [hl] at hx; cases hx
      simp at e
      omega
  have hsz := h.hsz
  -- what al reads as, in w2 at g
  have hmv : ∀ j, j < F.nn i + q → ∀ v, (∃ g0, al = some ⟨g0, 0, none⟩ ∧ w.cell? ⟨g0, j, none⟩ = some v) → w2.cell? ⟨g, j, none⟩ = some v := by
    rintro j hj v ⟨g0, e0, hc⟩
    rw [hold j hj g0 e0, World.cell?_of_block (hw1.block g0 (World.block_lt_of_cell? _ _ hc) (by simp))]
    exact hc
  refine ⟨?_, by omega, ?_, fun t ht => ?_, fun t ht hit => ?_, fun t ht => ?_, h.p1, h.p2, ?_, h.p3, ?_, fun j hj => ?_, fun j hj => ?_, ?_⟩
  · exact (h.bel.grown hw1 (by omega) (fun k hk => by cases hk)).grown hg2 (by omega) (fun k hk => by obtain ⟨h1, _⟩ := hrow k hk; exact halB _ h1)
  · refine h.row.other ?_
    by_cases hk0 : 0 < F.k
    · exact hkeep ga (World.block_lt_of_cell? _ _ (h.row 0 hk0)) hgaA
    · omega
  · by_cases hti : t = i
    · subst hti
      intro j hj
      obtain ⟨g1, e1, hc1⟩ := h.marks t hi j hj
      refine ⟨g1, e1, ?_⟩
      by_cases hal : ∃ x, al = some x ∧ x.block = g1
      · obtain ⟨x, hx, hxb⟩ := hal
        obtain ⟨g0, e0, hc0⟩ := h.lmark j hj
        rw [e0] at hx
        cases hx
        simp at hxb
        subst hxb
        rcases hor with ⟨h1, _⟩ | ⟨_, h2⟩
        · rw [e0] at h1
          cases h1
          rw [Nat.zero_add]
          exact hmv j (by omega) _ ⟨_, e0, by simpa using hc0⟩
        · rw [World.cell?_of_block (h2.block g0 (by have := World.block_lt_of_cell? _ _ hc1; simp at this; omega) (by simp)), World.cell?_of_block (hw1.block g0 (World.block_lt_of_cell? _ _ hc1) (by simp))]
          exact hc1
      · exact (World.cell?_of_block (hkeep g1 (World.block_lt_of_cell? _ _ hc1) fun x hx e => hal ⟨x, hx, e.symm⟩)).trans hc1
    · exact (h.marks t ht).other fun b hb hlt => hkeep b hlt (hsep t ht hti b hb)
  · exact (h.room t ht hit).other fun b hb hlt => hkeep b hlt (hsep t ht (by omega) b hb)
  · exact ⟨(h.got t ht).1.other fun b hb hlt => hkeep b hlt (by cases hb; exact hsepG t ht), (h.got t ht).2.other fun b hb hlt => hkeep b hlt (by cases hb; exact hsepG t ht)⟩
  · have hk1 := h.own.kept hw1 (by cases hv : vg.ownBlock <;> simp)
    refine hk1.kept hg2 ?_
    cases hv : vg.ownBlock with
    | none => exact .inl rfl
    | some b => exact .inr fun e => by obtain ⟨h1, _⟩ := hrow b e.symm; exact hsepV _ h1 hv
  · rw [← Nat.add_assoc]; exact hr2
  · obtain ⟨g0, e0, hc0⟩ := h.lmark j hj
    exact ⟨g, rfl, by rw [Nat.zero_add] at hc0 ⊢; exact hmv j (by omega) _ ⟨g0, e0, hc0⟩⟩
  · by_cases hjq : j = q
    · subst hjq; exact ⟨g, rfl, hnew⟩
    · obtain ⟨g0, e0, hc0⟩ := h.ltail j (by omega)
      exact ⟨g, rfl, hmv _ (by omega) _ ⟨g0, e0, hc0⟩⟩
  · rcases hor with ⟨h1, _⟩ | ⟨h1, _⟩
    · rw [← h1]; exact h.l1
    · refine .inr ⟨g, rfl, by omega, fun t ht e => ?_, fun e => ?_⟩
      · obtain ⟨g0, e0, hc0⟩ := (h.got t ht).2 0 (by omega)
        have := World.block_lt_of_cell? _ _ hc0
        cases e0
        simp at this
        omega
      · have := (h.own.lt _ e).2
        omega

/-- The last place is written: it is laid into the list of the grown ones. -/
theorem Gr.step {F : Fam} {e eS : TypeId} {B H ga : Nat} {w0 w w1 w2 : World} {i : Nat} {a' c' : Nat → Nat} {vg vg' : Value} {g cl : Nat} (h : Gi F e eS B H ga w0 w i a' c' vg 40 (some ⟨g, 0, none⟩) cl)
    (hA : F.Apart B ga) (hi : i < F.k) (hga : ga < H) (hH : ∀ t, t < F.k → ∀ b, blkOf (F.ao t) = some b → b < H) (hBH : B ≤ H)
    (hw1 : w.grownBy w1 none) (hg2 : w1.grownBy w2 vg.ownBlock) (hown : w2.ownsRow H eS 1 vg' (i + 1) (grownL F a' c' i ++ [.slice (some ⟨g, 0, none⟩) (F.nn i + 40) cl])) (hor : vg'.ownBlock = vg.ownBlock ∨ vg'.ownBlock = some w1.heap.size) :
    Gr F e eS B H ga w0 w2 (i + 1) (fun t => if t = i then g else a' t) (fun t => if t = i then cl else c' t) vg' := by
  have hs1 := hw1.size
  have hs2 := hg2.size
  have hsz := h.hsz
  have hkeep : ∀ b, b < w.heap.size → vg.ownBlock ≠ some b → w2.heap[b]? = w.heap[b]? := fun b hb hne =>
    (hg2.block b (by omega) (fun e => hne e.symm)).trans (hw1.block b hb (by simp))
  have hlow : ∀ b, b < H → vg.ownBlock ≠ some b := fun b hb e => by have := (h.own.lt _ e).1; omega
  have hgl : vg.ownBlock ≠ some g := by
    rcases h.l1 with hl | ⟨b, hl, _, _, h4⟩
    · exact hlow g (hH i hi g (by rw [← hl]; rfl))
    · cases hl; exact h4
  have hgt : ∀ t, t < i → a' t ≠ g := fun t ht e => by
    rcases h.l1 with hl | ⟨b, hl, _, h3, _⟩
    · have hbi : blkOf (F.ao i) = some g := by rw [← hl]; rfl
      rcases h.p1 t ht with h4 | h4
      · exact hA.items t i (by omega) hi (by omega) _ h4 (by rw [hbi, e])
      · have := hH i hi _ hbi
        omega
    · cases hl; exact h3 t ht e
  have hlt : ∀ t, t < i → a' t < w.heap.size := fun t ht => by
    obtain ⟨g0, e0, hc0⟩ := (h.got t ht).2 0 (by omega)
    have := World.block_lt_of_cell? _ _ hc0
    cases e0
    exact this
  have hglt : g < w.heap.size := by
    obtain ⟨g0, e0, hc0⟩ := h.ltail 0 (by omega)
    have := World.block_lt_of_cell? _ _ hc0
    cases e0
    exact this
  refine ⟨?_, by omega, ?_, fun t ht => ?_, fun t ht hit => ?_, fun t ht => ?_, fun t ht => ?_, fun s t hs ht => ?_, ?_, fun t ht => ?_⟩
  · refine (h.bel.grown hw1 (by omega) (fun k hk => by cases hk)).grown hg2 (by omega) (fun k hk => by have := (h.own.lt _ hk).1; omega)
  · exact h.row.other (hkeep ga (by omega) (hlow ga hga))
  · exact (h.marks t ht).other fun b hb hlt => hkeep b hlt (hlow b (hH t ht b hb))
  · exact (h.room t ht (by omega)).other fun b hb hlt => hkeep b hlt (hlow b (hH t ht b hb))
  · by_cases hti : t = i
    · subst hti
      simp only [if_true]
      exact ⟨h.lmark.other fun b hb hlt => hkeep b hlt (by cases hb; exact hgl), h.ltail.other fun b hb hlt => hkeep b hlt (by cases hb; exact hgl)⟩
    · simp only [if_neg hti]
      exact ⟨(h.got t (by omega)).1.other fun b hb hlt => hkeep b hlt (by cases hb; exact h.p3 t (by omega)), (h.got t (by omega)).2.other fun b hb hlt => hkeep b hlt (by cases hb; exact h.p3 t (by omega))⟩
  · by_cases hti : t = i
    · subst hti
      simp only [if_true]
      rcases h.l1 with hl | ⟨b, hl, h2, _⟩
      · exact .inl (by rw [← hl]; rfl)
      · cases hl; exact .inr h2
    · simp only [if_neg hti]
      exact h.p1 t (by omega)
  · have hsi : s ≠ i := by omega
    simp only [if_neg hsi]
    by_cases hti : t = i
    · subst hti
      simp only [if_true]
      exact hgt s (by omega)
    · simp only [if_neg hti]
      exact h.p2 s t hs (by omega)
  · have e1 : grownL F (fun t => if t = i then g else a' t) (fun t => if t = i then cl else c' t) (i + 1) = grownL F a' c' i ++ [.slice (some ⟨g, 0, none⟩) (F.nn i + 40) cl] := by
      unfold grownL
      rw [List.range_succ, List.map_append]
      congr 1
      · refine List.map_congr_left fun t ht => ?_
        have : t < i := List.mem_range.1 ht
        simp only [if_neg (show t ≠ i by omega)]
      · simp
    rw [e1]
    exact hown
  · have hb : (if t = i then g else a' t) < w.heap.size := by
      by_cases hti : t = i
      · rw [if_pos hti]; exact hglt
      · rw [if_neg hti]; exact hlt t (by omega)
    rcases hor with h1 | h1
    · rw [h1]
      split
      · exact hgl
      · exact h.p3 t (by omega)
    · rw [h1]
      intro e
      have := Option.some.inj e
      omega

end Go.Lb

namespace Go.Lb
open Go.RowKit

section
variable {P : Program} (w : World)

theorem run_append_vals (base : Nat) (t ty e : TypeId) (i : TypeInfo) (z : Value) (bytes : Nat) (ht : P.underlying t = some (.slice e)) (hi : P.info? e = some i) (hz : i.zero = some z)
    (hsize : i.size = 1) (hby : i.bytes = bytes) (hzs : z.cells.size = 1)
    (v : Value) (n : Nat) (xs : List Value) (hown : w.ownsRow base e 1 v n xs)
    (lo : Option Addr) (m lc : Nat) (f : Nat → Value) (h1 : ∀ j, (f j).oneCell' = true) (hl : m = 0 ∧ lo = none ∧ lc = 0 ∨ ∃ bl, lo = some ⟨bl, 0, none⟩ ∧ ∀ j, j < m → w.cell? ⟨bl, j, none⟩ = some (f j))
    (h63 : n + m ≤ maxLen) (hbytes : (n + m) * bytes ≤ 140737488355328) (hbase : base ≤ w.heap.size) :
    ∃ v' w', (Builtin.append_ #[t, t] ty #[v, .slice lo m lc]).run P w = .ok v' w' ∧ w'.ownsRow base e 1 v' (n + m) (xs ++ (List.range m).map f) ∧ w.grownBy w' v.ownBlock ∧
      (v'.ownBlock = v.ownBlock ∨ v'.ownBlock = some w.heap.size) := by
  rcases hl with ⟨rfl, rfl, rfl⟩ | ⟨bl, rfl, hc⟩
  · refine ⟨v, w, ?_, by simpa using hown, World.grownBy.refl w _, .inl rfl⟩
    rcases hown.2 with ⟨rfl, rfl⟩ | ⟨g, cap, cur, rfl, _, _, hnc, _⟩
    · simp [Builtin.append_, run_underlying ht, sizeOf, typeInfo, hi, Builtin.lenOf, Builtin.firstCells]
    · simp [Builtin.append_, run_underlying ht, sizeOf, typeInfo, hi, Builtin.lenOf, Builtin.firstCells, hnc, storeCells]
  · have hnews : ∀ j u, ((List.range m).map f)[j]? = some u → w.cell? ((⟨bl, 0, none⟩ : Addr).add j) = some u := by
      intro j u h
      rw [List.getElem?_map] at h
      obtain ⟨x, hx, rfl⟩ := Option.map_eq_some_iff.1 h
      obtain ⟨hj, he⟩ := List.getElem?_eq_some_iff.1 hx
      simp at hj he
      subst he
      rw [Addr.add_lit, Nat.zero_add]
      exact hc j hj
    obtain ⟨v', w', hrun, h2, h3, _, h5⟩ := run_append_own_at (P := P) w base t ty e i z 1 bytes ht hi hz hsize hby hzs (by decide) v n xs hown ⟨bl, 0, none⟩ m lc ((List.range m).map f) (by simp) hnews
      (fun u hu => by obtain ⟨j, _, rfl⟩ := List.mem_map.1 hu; exact h1 j) h63 hbytes hbase
    exact ⟨v', w', hrun, h2, h3, h5⟩

theorem wpList_append_vals {ops : Array Oper} {rest : List Oper} {o : Oper} {a : Act} {Q : Exit → Act → World → Prop} (hgd : o.guard = none) (s x : Operand) (t : TypeId)
    (ho : o.op = .call { callee := .builtin .append, args := #[s, x], argTypes := #[t, t] })
    (base : Nat) (e : TypeId) (i : TypeInfo) (z : Value) (bytes : Nat) (ht : P.underlying t = some (.slice e)) (hi : P.info? e = some i) (hz : i.zero = some z)
    (hsize : i.size = 1) (hby : i.bytes = bytes) (hzs : z.cells.size = 1)
    (v : Value) (n : Nat) (xs : List Value) (hs : a.eval s = v) (hown : w.ownsRow base e 1 v n xs)
    (lo : Option Addr) (m lc : Nat) (f : Nat → Value) (h1 : ∀ j, (f j).oneCell' = true) (hx : a.eval x = .slice lo m lc) (hl : m = 0 ∧ lo = none ∧ lc = 0 ∨ ∃ bl, lo = some ⟨bl, 0, none⟩ ∧ ∀ j, j < m → w.cell? ⟨bl, j, none⟩ = some (f j))
    (h63 : n + m ≤ maxLen) (hbytes : (n + m) * bytes ≤ 140737488355328) (hbase : base ≤ w.heap.size)
    (h : ∀ v' w', w'.ownsRow base e 1 v' (n + m) (xs ++ (List.range m).map f) → w.grownBy w' v.ownBlock → (v'.ownBlock = v.ownBlock ∨ v'.ownBlock = some w.heap.size) → wpList P ops Q rest (a.put o.dst v') w') : wpList P ops Q (o :: rest) a w := by
  refine wpList_plain hgd fun K hK => ?_
  obtain ⟨v', w', hrun, h2, h3, h4⟩ := run_append_vals (P := P) w base t o.type e i z bytes ht hi hz hsize hby hzs v n xs hown lo m lc f h1 hl h63 hbytes hbase
  unfold Oper.wp execOp
  simp only [ho, resolve, invoke, builtin, Sem.run_bind, Sem.run_pure, Result.andThen_ok, List.map_toArray, List.map_cons, List.map_nil, hs, hx, hrun]
  exact hK _ _ (h v' w' h2 h3 h4)
end

end Go.Lb

namespace Go.Proofs.YtklibjdhlmdkpaaGreatDoor
open Go.RowKit Go.Lb

theorem u32s_info : (Tryz.prog.info? 109).map (fun i => (i.zero, i.size, i.bytes)) = some (some (.slice none 0 0), 1, 24) := by kernel_rfl

/-- What the book holds, and what was lent. -/
structure Held (F : Fam) (w : World) (B pb k1 m gg pg gw pw lc : Nat) (lo : Option Addr) (wo : Nat → Option Addr) (wc : Nat → Nat) (ys : Nat → List Nat) : Prop where
  k : F.k = k1 + m
  k0 : 0 < k1
  kb : F.k ≤ 1000
  c0 : w.cell? ⟨pb, 0, none⟩ = some (.slice (some ⟨gg, 0, none⟩) k1 pg)
  c1 : w.cell? ⟨pb, 1, none⟩ = some (.slice (some ⟨gw, 0, none⟩) k1 pw)
  c2 : w.cell? ⟨pb, 2, none⟩ = some (.bool false)
  og : w.ownsRow B 111 1 (.slice (some ⟨gg, 0, none⟩) k1 pg) k1 ((List.range k1).map fun t => .slice (F.ao t) (F.nn t) (F.cc t))
  ow : ∀ t, t < k1 → w.cell? ⟨gw, t, none⟩ = some (.slice (wo t) (F.nn t) (wc t))
  got : ∀ t, t < k1 → Sl w (F.ao t) (F.nn t) (F.cc t) (ys t)
  want : ∀ t, t < k1 → Sl w (wo t) (F.nn t) (wc t) (ys t)
  kw : k1 ≤ pw
  room : ∀ t, t < F.k → Room 38 w (F.ao t) (F.nn t) (F.cc t)
  lent : m = 0 ∧ lo = none ∧ lc = 0 ∨ ∃ bl, lo = some ⟨bl, 0, none⟩ ∧ ∀ j, j < m → w.cell? ⟨bl, j, none⟩ = some (.slice (F.ao (k1 + j)) (F.nn (k1 + j)) (F.cc (k1 + j)))
  apart : F.Apart B gg
  small : ∀ t, t < F.k → F.nn t + 41 ≤ 35184372088832
  base : B ≤ w.heap.size

theorem Held.gotCell {F : Fam} {w : World} {B pb k1 m gg pg gw pw lc : Nat} {lo : Option Addr} {wo : Nat → Option Addr} {wc : Nat → Nat} {ys : Nat → List Nat} (h : Held F w B pb k1 m gg pg gw pw lc lo wo wc ys) {t : Nat} (ht : t < k1) :
    w.cell? ⟨gg, t, none⟩ = some (.slice (F.ao t) (F.nn t) (F.cc t)) := by
  rw [h.og.cellAt t (by omega), List.getElem?_map, List.getElem?_range ht]
  rfl

/-- Behind the append of what was lent: all stand in one list, ready to be written. -/
theorem Held.ready {F : Fam} {w wr w2 : World} {B pb k1 m gg pg gw pw lc : Nat} {lo : Option Addr} {wo : Nat → Option Addr} {wc : Nat → Nat} {ys : Nat → List Nat} (h : Held F w B pb k1 m gg pg gw pw lc lo wo wc ys)
    (hW : Below w.heap.size w wr) {ga ca : Nat} (hown : w2.ownsRow B 111 1 (.slice (some ⟨ga, 0, none⟩) (k1 + m) ca) (k1 + m) ((List.range k1).map (fun t => .slice (F.ao t) (F.nn t) (F.cc t)) ++ (List.range m).map (fun j => .slice (F.ao (k1 + j)) (F.nn (k1 + j)) (F.cc (k1 + j)))))
    (hg : wr.grownBy w2 (some gg)) (hat : ga = gg ∨ ga = wr.heap.size) : F.Apart B ga ∧ Wr F 38 B ga w w2 0 0 ∧ B ≤ ga ∧ ga < w2.heap.size := by
  have hk := h.k
  have hbb := h.base
  have hsz := hW.size
  have hlt : ∀ t, t < F.k → ∀ g, blkOf (F.ao t) = some g → g < w.heap.size := fun t ht g hg => by
    rcases (h.room t ht).blk with ⟨h1, _⟩ | ⟨g', cur, h1, h2, _⟩
    · rw [h1] at hg; cases hg
    · rw [h1] at hg; cases hg; exact (Array.getElem?_eq_some_iff.1 h2).1
  have hgg := h.og.lt gg rfl
  have hga := hown.lt ga rfl
  refine ⟨⟨h.apart.items, fun t ht e => ?_, h.apart.base⟩, Wr.start ?_ (fun t ht => ?_) (fun t ht => ?_), hga.1, hga.2⟩
  · rcases hat with rfl | rfl
    · exact h.apart.all t ht e
    · have := hlt t ht _ e; omega
  · exact (hW.mono hbb).grown hg (by omega) (fun k hk => by cases hk; exact hgg.1)
  · rw [hown.cellAt t (by omega)]
    by_cases h1 : t < k1
    · rw [List.getElem?_append_left (by simpa using h1), List.getElem?_map, List.getElem?_range h1]
      rfl
    · rw [List.getElem?_append_right (by simp; omega), List.length_map, List.length_range, List.getElem?_map, List.getElem?_range (by omega), Option.map_some]
      rw [show k1 + (t - k1) = t by omega]
  · refine ((h.room t ht).other fun g hg' hl => hW.block g hl).grown hg fun g hg' e => ?_
    cases e
    exact h.apart.all t ht hg'

end Go.Proofs.YtklibjdhlmdkpaaGreatDoor

namespace Go.Proofs.YtklibjdhlmdkpaaGreatDoor
open Go.RowKit Go.Lb

/-- One answer: where it lies, and what it must be. -/
structure Item where
  ao : Option Addr
  n : Nat
  c : Nat
  wo : Option Addr
  wc : Nat
  ys : List Nat

def Item.got (x : Item) : Value := .slice x.ao x.n x.c
def Item.want (x : Item) : Value := .slice x.wo x.n x.wc

/-- A block that is none of the book's own. -/
def Clear (pb : Nat) (vg vw : Value) (g : Nat) : Prop := g ≠ pb ∧ vg.ownBlock ≠ some g ∧ vw.ownBlock ≠ some g

structure Book (w : World) (B pb : Nat) (L : List Item) (vg vw : Value) : Prop where
  base : B ≤ pb
  c0 : w.cell? ⟨pb, 0, none⟩ = some vg
  c1 : w.cell? ⟨pb, 1, none⟩ = some vw
  c2 : w.cell? ⟨pb, 2, none⟩ = some (.bool false)
  z0 : w.frozen? ⟨pb, 0, none⟩ = false
  z1 : w.frozen? ⟨pb, 1, none⟩ = false
  og : w.ownsRow (pb + 1) 111 1 vg L.length (L.map Item.got)
  ow : w.ownsRow (pb + 1) 111 1 vw L.length (L.map Item.want)
  hvw : ∀ g, vg.ownBlock = some g → vw.ownBlock ≠ some g
  got : ∀ x ∈ L, Fr 38 w B x.ao x.n x.c x.ys
  want : ∀ x ∈ L, Fr 38 w 0 x.wo x.n x.wc x.ys
  gotB : ∀ x ∈ L, ∀ g, blkOf x.ao = some g → Clear pb vg vw g
  wantB : ∀ x ∈ L, ∀ g, blkOf x.wo = some g → Clear pb vg vw g
  apart : L.Pairwise (fun x y => ∀ g, blkOf x.ao = some g → blkOf y.ao ≠ some g)
  small : ∀ x ∈ L, x.n + 41 ≤ 35184372088832

theorem fr_lt {e : TypeId} {w : World} {base : Nat} {ao : Option Addr} {n c : Nat} {xs : List Nat} (h : Fr e w base ao n c xs) {g : Nat} (hg : blkOf ao = some g) : base ≤ g ∧ g < w.heap.size := by
  rcases h.blk with ⟨h1, _⟩ | ⟨g', cur, h1, h2, h3, _⟩
  · rw [h1] at hg; cases hg
  · rw [h1] at hg; cases hg; exact ⟨h2, (Array.getElem?_eq_some_iff.1 h3).1⟩

theorem fr_at {e : TypeId} {w w' : World} {base : Nat} {ao : Option Addr} {n c : Nat} {xs : List Nat} (h : Fr e w base ao n c xs) (hs : w.heap.size ≤ w'.heap.size) (hk : ∀ g, blkOf ao = some g → g < w.heap.size → w'.heap[g]? = w.heap[g]?) : Fr e w' base ao n c xs := by
  obtain ⟨h1, h2⟩ := h
  rcases h2 with ⟨rfl, rfl, rfl⟩ | ⟨g, cur, rfl, hg, hh, hc⟩
  · exact ⟨⟨h1.len, h1.le, h1.cap, h1.ok, fun hn => absurd hn (by decide)⟩, .inl ⟨rfl, rfl, rfl⟩⟩
  · have hl := (Array.getElem?_eq_some_iff.1 hh).1
    have hb := hk g rfl hl
    refine ⟨⟨h1.len, h1.le, h1.cap, h1.ok, fun hn => ?_⟩, .inr ⟨g, cur, rfl, hg, hb.trans hh, hc⟩⟩
    obtain ⟨b, o, e1, _, hcell⟩ := h1.at_ hn
    cases e1
    exact ⟨g, 0, rfl, Nat.lt_of_lt_of_le hl hs, fun j hj => (World.cell?_of_block hb).trans (hcell j hj)⟩

theorem Book.lt {w : World} {B pb : Nat} {L : List Item} {vg vw : Value} (h : Book w B pb L vg vw) : pb < w.heap.size := World.block_lt_of_cell? w ⟨pb, 0, none⟩ h.c0

theorem Book.below {w w' : World} {B pb : Nat} {L : List Item} {vg vw : Value} (h : Book w B pb L vg vw) (hb : Below w.heap.size w w') : Book w' B pb L vg vw :=
  ⟨h.base, cellStay h.c0 hb, cellStay h.c1 hb, cellStay h.c2 hb, (cfStay ⟨h.c0, h.z0⟩ hb).2, (cfStay ⟨h.c1, h.z1⟩ hb).2, own_keep h.og hb, own_keep h.ow hb, h.hvw, fun x hx => (h.got x hx).below hb, fun x hx => (h.want x hx).below hb, h.gotB, h.wantB, h.apart, h.small⟩

/-- The new book: nothing in it. -/
theorem book_new (w : World) (t : TypeId) {B : Nat} (hB : B ≤ w.heap.size) : Book (w.alloc (.cells #[.slice none 0 0, .slice none 0 0, .bool false] t)) B w.heap.size [] (.slice none 0 0) (.slice none 0 0) :=
  ⟨hB, by simp, by simp, by simp, by simp [go_sem], by simp [go_sem], World.ownsRow_nil _ _ _ _, World.ownsRow_nil _ _ _ _, (fun g h => by cases h), (fun x hx => by cases hx), (fun x hx => by cases hx), (fun x hx => by cases hx), (fun x hx => by cases hx), List.Pairwise.nil, (fun x hx => by cases hx)⟩

/-- A block that is newer than the book's world is clear of it. -/
theorem Book.clear {w : World} {B pb : Nat} {L : List Item} {vg vw : Value} (h : Book w B pb L vg vw) {g : Nat} (hg : w.heap.size ≤ g) : Clear pb vg vw g :=
  ⟨by have := h.lt; omega, fun e => by have := (h.og.lt g e).2; omega, fun e => by have := (h.ow.lt g e).2; omega⟩

theorem Book.clear_low {w : World} {B pb : Nat} {L : List Item} {vg vw : Value} (h : Book w B pb L vg vw) {g : Nat} (hg : g < pb) : Clear pb vg vw g :=
  ⟨by omega, fun e => by have := (h.og.lt g e).1; omega, fun e => by have := (h.ow.lt g e).1; omega⟩

/-- One answer more. -/
theorem Book.adds {w w' : World} {B pb : Nat} {L : List Item} {vg vw : Value} (h : Book w B pb L vg vw) {x : Item} (hA : Added w w' pb L.length vg vw (L.map Item.got) (L.map Item.want) x.got x.want)
    (hg : Fr 38 w B x.ao x.n x.c x.ys) (hw : Fr 38 w 0 x.wo x.n x.wc x.ys) (hgB : ∀ g, blkOf x.ao = some g → Clear pb vg vw g) (hwB : ∀ g, blkOf x.wo = some g → Clear pb vg vw g)
    (hap : ∀ y ∈ L, ∀ g, blkOf y.ao = some g → blkOf x.ao ≠ some g) (hs : x.n + 41 ≤ 35184372088832) : ∃ vg' vw', Book w' B pb (L ++ [x]) vg' vw' := by
  obtain ⟨g1, p1, g2, p2, r1, r2, r3, r4, r5, r6, r7⟩ := hA.new
  have keep : ∀ {base : Nat} {ao : Option Addr} {n c : Nat} {xs : List Nat}, Fr 38 w base ao n c xs → (∀ g, blkOf ao = some g → Clear pb vg vw g) → Fr 38 w' base ao n c xs := fun hF hc =>
    fr_at hF hA.size fun g hg hl => hA.block g hl (hc g hg).1 (fun e => (hc g hg).2.1 e.symm) (fun e => (hc g hg).2.2 e.symm)
  have clr : ∀ {base : Nat} {ao : Option Addr} {n c : Nat} {xs : List Nat}, Fr 38 w base ao n c xs → (∀ g, blkOf ao = some g → Clear pb vg vw g) → ∀ g, blkOf ao = some g → Clear pb (.slice (some ⟨g1, 0, none⟩) (L.length + 1) p1) (.slice (some ⟨g2, 0, none⟩) (L.length + 1) p2) g := fun hF hc g hg => by
    have hl := (fr_lt hF hg).2
    refine ⟨(hc g hg).1, fun e => ?_, fun e => ?_⟩
    · have e' : g1 = g := Option.some.inj e
      subst e'
      rcases r5 with h5 | h5
      · exact (hc _ hg).2.1 h5
      · omega
    · have e' : g2 = g := Option.some.inj e
      subst e'
      rcases r6 with h6 | h6
      · exact (hc _ hg).2.2 h6
      · omega
  refine ⟨.slice (some ⟨g1, 0, none⟩) (L.length + 1) p1, .slice (some ⟨g2, 0, none⟩) (L.length + 1) p2, h.base, r1, r2, hA.c2.trans h.c2, (hA.frozen 0).trans h.z0, (hA.frozen 1).trans h.z1, ?_, ?_, ?_, ?_, ?_, ?_, ?_, ?_, ?_⟩
  · simpa using r3
  · simpa using r4
  · intro g e1 e2
    cases e1
    cases e2
    exact r7 rfl
  · intro y hy
    rcases List.mem_append.1 hy with hy | hy
    · exact keep (h.got y hy) (h.gotB y hy)
    · obtain rfl := List.mem_singleton.1 hy; exact keep hg hgB
  · intro y hy
    rcases List.mem_append.1 hy with hy | hy
    · exact keep (h.want y hy) (h.wantB y hy)
    · obtain rfl := List.mem_singleton.1 hy; exact keep hw hwB
  · intro y hy
    rcases List.mem_append.1 hy with hy | hy
    · exact clr (h.got y hy) (h.gotB y hy)
    · obtain rfl := List.mem_singleton.1 hy; exact clr hg hgB
  · intro y hy
    rcases List.mem_append.1 hy with hy | hy
    · exact clr (h.want y hy) (h.wantB y hy)
    · obtain rfl := List.mem_singleton.1 hy; exact clr hw hwB
  · rw [List.pairwise_append]
    exact ⟨h.apart, List.pairwise_singleton _ _, fun y hy z hz => by obtain rfl := List.mem_singleton.1 hz; exact hap y hy⟩
  · intro y hy
    rcases List.mem_append.1 hy with hy | hy
    · exact h.small y hy
    · obtain rfl := List.mem_singleton.1 hy; exact hs

/-- Older memory is as it was. -/
theorem Added.below {w w' : World} {B pb k : Nat} {vg vw x y : Value} {gs ws : List Value} (hA : Added w w' pb k vg vw gs ws x y) (hB : B ≤ pb) (hl : pb < w.heap.size)
    (h1 : ∀ g, vg.ownBlock = some g → pb + 1 ≤ g ∧ g < w.heap.size) (h2 : ∀ g, vw.ownBlock = some g → pb + 1 ≤ g ∧ g < w.heap.size) : Below B w w' :=
  ⟨hA.os, hA.tape, hA.output, hA.size, fun b hb => hA.block b (by omega) (by omega) (fun e => by have := (h1 b e.symm).1; omega) (fun e => by have := (h2 b e.symm).1; omega)⟩

/-- The list of all: what was answered, what was lent. -/
def famOf (L : List (Option Addr × Nat × Nat)) : Fam := ⟨L.length, fun t => (L.getD t (none, 0, 0)).1, fun t => (L.getD t (none, 0, 0)).2.1, fun t => (L.getD t (none, 0, 0)).2.2⟩

def Item.trip (x : Item) : Option Addr × Nat × Nat := (x.ao, x.n, x.c)

theorem getD_mem {α : Type} (L : List α) (d : α) {t : Nat} (h : t < L.length) : L.getD t d ∈ L := by
  rw [List.getD_eq_getElem?_getD, List.getElem?_eq_getElem h]
  exact List.getElem_mem h

end Go.Proofs.YtklibjdhlmdkpaaGreatDoor
