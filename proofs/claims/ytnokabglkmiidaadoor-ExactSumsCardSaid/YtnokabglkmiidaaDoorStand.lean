/-
  Plain: numbers that lie apart, written full with marks and then grown one by one: what stands in memory at each step (the laws' own test of what they were answered). No program in sight.
-/
import Derived.Test.YtnokabglkmiidaaDoorBox
namespace Go.Lb
open Go.RowKit

def blkOf : Option Addr → Option Nat
  | some a => some a.block
  | none => none

theorem blkOf_some (g : Nat) : blkOf (some ⟨g, 0, none⟩) = some g := rfl

/-- A slice that begins a block of its own (or is nil), whatever it holds. -/
structure Room (e : TypeId) (w : World) (ao : Option Addr) (n c : Nat) : Prop where
  le : n ≤ c
  cap : c ≤ 9223372036854775807
  blk : (ao = none ∧ n = 0 ∧ c = 0) ∨ ∃ g cur, ao = some ⟨g, 0, none⟩ ∧ w.heap[g]? = some (.cells cur e (0, 0)) ∧ c ≤ cur.size

/-- n cells from the place o on read as f says. -/
def Reads (w : World) (ao : Option Addr) (o n : Nat) (f : Nat → Nat) : Prop := ∀ j, j < n → ∃ g, ao = some ⟨g, 0, none⟩ ∧ w.cell? ⟨g, o + j, none⟩ = some (.int .u32 (f j : Int))

theorem Fr.room {e : TypeId} {w : World} {base : Nat} {ao : Option Addr} {n c : Nat} {xs : List Nat} (h : Fr e w base ao n c xs) : Room e w ao n c :=
  ⟨h.sl.le, h.sl.cap, h.blk.imp id fun ⟨g, cur, h1, _, h3, h4⟩ => ⟨g, cur, h1, h3, h4⟩⟩

theorem Room.other {e : TypeId} {w w' : World} {ao : Option Addr} {n c : Nat} (h : Room e w ao n c) (hk : ∀ g, blkOf ao = some g → g < w.heap.size → w'.heap[g]? = w.heap[g]?) : Room e w' ao n c :=
  ⟨h.le, h.cap, h.blk.imp id fun ⟨g, cur, h1, h2, h3⟩ => ⟨g, cur, h1, (hk g (by rw [h1]; rfl) (Array.getElem?_eq_some_iff.1 h2).1).trans h2, h3⟩⟩

theorem Reads.other {w w' : World} {ao : Option Addr} {o n : Nat} {f : Nat → Nat} (h : Reads w ao o n f) (hk : ∀ g, blkOf ao = some g → g < w.heap.size → w'.heap[g]? = w.heap[g]?) : Reads w' ao o n f := fun j hj => by
  obtain ⟨g, h1, h2⟩ := h j hj
  exact ⟨g, h1, (World.cell?_of_block (hk g (by rw [h1]; rfl) (World.block_lt_of_cell? _ _ h2))).trans h2⟩

theorem Room.grown {e : TypeId} {w w' : World} {ao : Option Addr} {n c : Nat} {row : Option Nat} (h : Room e w ao n c) (hg : w.grownBy w' row) (hne : ∀ g, blkOf ao = some g → some g ≠ row) : Room e w' ao n c :=
  h.other fun g h1 h2 => hg.block g h2 (hne g h1)

theorem Reads.grown {w w' : World} {ao : Option Addr} {o n : Nat} {f : Nat → Nat} {row : Option Nat} (h : Reads w ao o n f) (hg : w.grownBy w' row) (hne : ∀ g, blkOf ao = some g → some g ≠ row) : Reads w' ao o n f :=
  h.other fun g h1 h2 => hg.block g h2 (hne g h1)

/-- A store leaves every block as long as it was. -/
theorem Room.set {e : TypeId} {w : World} {ao : Option Addr} {n c : Nat} (h : Room e w ao n c) (b j : Nat) (v : Value) : Room e (w.setCell ⟨b, j, none⟩ v) ao n c := by
  obtain ⟨h1, h2, h3⟩ := h
  refine ⟨h1, h2, h3.imp id ?_⟩
  rintro ⟨g, cur, e1, e2, e3⟩
  by_cases hb : g = b
  · subst hb
    exact ⟨g, _, e1, heap_setCell_same w g j cur e v e2, by simpa using e3⟩
  · exact ⟨g, cur, e1, (heap_setCell_other w ⟨b, j, none⟩ g v hb).trans e2, e3⟩

/-- A place within a slice's length can be written. -/
theorem Room.cell {e : TypeId} {w : World} {g n c : Nat} (h : Room e w (some ⟨g, 0, none⟩) n c) {j : Nat} (hj : j < n) : ∃ u, w.cell? ⟨g, j, none⟩ = some u := by
  rcases h.blk with ⟨h1, _⟩ | ⟨g', cur, h1, h2, h3⟩
  · cases h1
  · cases h1
    have hs : j < cur.size := by have := h.le; omega
    exact ⟨cur[j], by rw [cell_of_row w g j cur e (0, 0) h2, Array.getElem?_eq_getElem hs]⟩

theorem Room.frozen {e : TypeId} {w : World} {g n c : Nat} (h : Room e w (some ⟨g, 0, none⟩) n c) (j : Nat) : w.frozen? ⟨g, j, none⟩ = false := by
  rcases h.blk with ⟨h1, _⟩ | ⟨g', cur, h1, h2, h3⟩
  · cases h1
  · cases h1
    exact frozen_of_row w g j cur e h2

theorem Room.at_ {e : TypeId} {w : World} {ao : Option Addr} {n c : Nat} (h : Room e w ao n c) (hn : 0 < n) : ∃ g, ao = some ⟨g, 0, none⟩ ∧ g < w.heap.size := by
  rcases h.blk with ⟨_, h1, _⟩ | ⟨g, cur, h1, h2, _⟩
  · omega
  · exact ⟨g, h1, (Array.getElem?_eq_some_iff.1 h2).1⟩

/-- append of one value onto such a slice: in place, or in a new block; what was read reads on. -/
theorem run_append_one {P : Program} (w : World) (t ty e : TypeId) (i : TypeInfo) (z : Value) (ht : P.underlying t = some (.slice e)) (hi : P.info? e = some i) (hz : i.zero = some z)
    (hsize : i.size = 1) (hby : i.bytes = 4) (hzs : z.cells.size = 1)
    {ao : Option Addr} {n c : Nat} (hr : Room e w ao n c) (b o m : Nat) (u : Value) (hu : w.cell? ⟨b, o, none⟩ = some u) (hu1 : u.oneCell' = true) (hbytes : (n + 1) * 4 ≤ 140737488355328) :
    ∃ g c' w', (Builtin.append_ #[t, t] ty #[.slice ao n c, .slice (some ⟨b, o, none⟩) 1 m]).run P w = .ok (.slice (some ⟨g, 0, none⟩) (n + 1) c') w' ∧ Room e w' (some ⟨g, 0, none⟩) (n + 1) c' ∧
      ((ao = some ⟨g, 0, none⟩ ∧ w.grownBy w' (some g)) ∨ (g = w.heap.size ∧ w.grownBy w' none)) ∧
      (∀ j, j < n → ∀ g0, ao = some ⟨g0, 0, none⟩ → w'.cell? ⟨g, j, none⟩ = w.cell? ⟨g0, j, none⟩) ∧ w'.cell? ⟨g, n, none⟩ = some u ∧ g < w'.heap.size := by
  have hnews : ∀ j v, [u][j]? = some v → w.cell? ((⟨b, o, none⟩ : Addr).add j) = some v := by
    intro j v h
    match j, h with
    | 0, h =>
      simp at h
      subst h
      rw [Addr.add_lit]
      exact hu
  have h63 : n + 1 ≤ maxLen := by unfold maxLen; omega
  have grown : ∀ (olds : List Value) (old : Nat), olds.length = n →
      Room e (w.drew.alloc (.cells (olds.toArray ++ [u].toArray ++ Builtin.zeroCells z.cells (grownCap w (n + 1) old e - (n + 1))) e)) (some ⟨w.heap.size, 0, none⟩) (n + 1) (grownCap w (n + 1) old e) ∧
      w.grownBy (w.drew.alloc (.cells (olds.toArray ++ [u].toArray ++ Builtin.zeroCells z.cells (grownCap w (n + 1) old e - (n + 1))) e)) none ∧
      (∀ j, j < n → (w.drew.alloc (.cells (olds.toArray ++ [u].toArray ++ Builtin.zeroCells z.cells (grownCap w (n + 1) old e - (n + 1))) e)).cell? ⟨w.heap.size, j, none⟩ = olds[j]?) ∧
      (w.drew.alloc (.cells (olds.toArray ++ [u].toArray ++ Builtin.zeroCells z.cells (grownCap w (n + 1) old e - (n + 1))) e)).cell? ⟨w.heap.size, n, none⟩ = some u := by
    intro olds old hlo
    have hge := grownCap_ge w (n + 1) old e
    have hcm := grownCap_le_maxLen w (n + 1) old e h63
    have hnew : (w.drew.alloc (.cells (olds.toArray ++ [u].toArray ++ Builtin.zeroCells z.cells (grownCap w (n + 1) old e - (n + 1))) e)).heap[w.heap.size]? = some (.cells (olds.toArray ++ [u].toArray ++ Builtin.zeroCells z.cells (grownCap w (n + 1) old e - (n + 1))) e (0, 0)) := heap_alloc_new w.drew _
    refine ⟨⟨hge, by unfold maxLen at hcm; omega, .inr ⟨w.heap.size, _, rfl, hnew, ?_⟩⟩, ⟨rfl, rfl, rfl, by simp, fun k hk _ => Below.heap_alloc w.drew _ k hk⟩, fun j hj => ?_, ?_⟩
    · simp only [Array.size_append, List.size_toArray, size_zeroCells, hzs, hlo, List.length_singleton]
      omega
    · rw [cell_of_row _ _ _ _ _ _ hnew, Array.append_assoc, Array.getElem?_append_left (by simp [hlo]; exact hj)]
      simp
    · rw [cell_of_row _ _ _ _ _ _ hnew, Array.append_assoc, Array.getElem?_append_right (by simp [hlo])]
      simp [hlo]
      rw [Array.getElem?_append_left (by simp)]
      rfl
  rcases hr.blk with ⟨rfl, rfl, rfl⟩ | ⟨g, cur, rfl, hg, hc⟩
  · have hrun := run_append_nil (P := P) w t ty e i z ht hi hz ⟨b, o, none⟩ 1 m [u] (by simp [hsize]) hnews (by omega) (by omega) (by rw [hby]; omega)
    obtain ⟨g1, g2, g3, g4⟩ := grown [] 0 rfl
    simp only [Nat.zero_add, Array.empty_append] at g1 g2 g4 ⊢
    exact ⟨_, _, _, hrun, g1, .inr ⟨rfl, g2⟩, fun j hj => absurd hj (by omega), g4, by simp⟩
  · have hle := hr.le
    by_cases hroom : n + 1 ≤ c
    · have hfit : n * i.size + [u].length ≤ cur.size := by rw [hsize]; simp; omega
      have hrun := run_append_room (P := P) w t ty e i ht hi g n c cur hg ⟨b, o, none⟩ 1 m [u] (by simp [hsize]) hnews (by simpa using hu1) hroom hfit
      rw [hsize, Nat.mul_one] at hrun
      have hh := setRow_heap w g cur (cur.toList.take n ++ [u] ++ cur.toList.drop (n + [u].length)).toArray e (0, 0) hg
      have hlt : n < cur.size := by omega
      refine ⟨g, c, _, hrun, ⟨hroom, hr.cap, .inr ⟨g, _, rfl, hh, ?_⟩⟩, .inl ⟨rfl, ⟨rfl, rfl, rfl, by simp, fun k _ hk => setRow_other w g k _ (fun e => hk (by rw [e]))⟩⟩, fun j hj g0 e0 => ?_, ?_, ?_⟩
      · simp
        omega
      · cases e0
        rw [cell_of_row _ _ _ _ _ _ hh, cell_of_row _ _ _ _ _ _ hg]
        rw [List.getElem?_toArray, List.append_assoc, List.getElem?_append_left (by simp; omega), List.getElem?_take, if_pos hj]
        simp
      · rw [cell_of_row _ _ _ _ _ _ hh, List.getElem?_toArray, List.append_assoc, List.getElem?_append_right (by simp; omega)]
        simp
        rw [show n - min n cur.size = 0 by omega]
        rfl
      · simp
        exact (Array.getElem?_eq_some_iff.1 hg).1
    · have hlo : (cur.toList.take n).length = n := by simp; omega
      have holds : ∀ j v, (cur.toList.take n)[j]? = some v → w.cell? ((⟨g, 0, none⟩ : Addr).add j) = some v := by
        intro j v h
        rw [Addr.add_lit, Nat.zero_add, cell_of_row w g j cur e (0, 0) hg]
        rw [List.getElem?_take] at h
        split at h
        · simpa using h
        · cases h
      have hrun := run_append_grow (P := P) w t ty e i z ht hi hz ⟨g, 0, none⟩ n c _ (by rw [hsize, Nat.mul_one]; exact hlo) holds ⟨b, o, none⟩ 1 m [u] (by simp [hsize]) hnews (by omega) (by omega) (growslice_fits (by omega) (by rw [hby]; exact hbytes))
      obtain ⟨g1, g2, g3, g4⟩ := grown (cur.toList.take n) c hlo
      refine ⟨_, _, _, hrun, g1, .inr ⟨rfl, g2⟩, fun j hj g0 e0 => ?_, g4, by simp⟩
      cases e0
      rw [g3 j hj, cell_of_row _ _ _ _ _ _ hg, List.getElem?_take, if_pos hj]
      simp

theorem wpList_append_one {P : Program} (w : World) {ops : Array Oper} {rest : List Oper} {o : Oper} {a : Act} {Q : Exit → Act → World → Prop} (hgd : o.guard = none) (s x : Operand) (t : TypeId)
    (ho : o.op = .call { callee := .builtin .append, args := #[s, x], argTypes := #[t, t] })
    (e : TypeId) (i : TypeInfo) (z : Value) (ht : P.underlying t = some (.slice e)) (hi : P.info? e = some i) (hz : i.zero = some z) (hsize : i.size = 1) (hby : i.bytes = 4) (hzs : z.cells.size = 1)
    (ao : Option Addr) (n c : Nat) (hs : a.eval s = .slice ao n c) (hr : Room e w ao n c) (b p m : Nat) (u : Value) (hx : a.eval x = .slice (some ⟨b, p, none⟩) 1 m) (hu : w.cell? ⟨b, p, none⟩ = some u) (hu1 : u.oneCell' = true)
    (hbytes : (n + 1) * 4 ≤ 140737488355328)
    (h : ∀ g c' w', Room e w' (some ⟨g, 0, none⟩) (n + 1) c' → ((ao = some ⟨g, 0, none⟩ ∧ w.grownBy w' (some g)) ∨ (g = w.heap.size ∧ w.grownBy w' none)) →
      (∀ j, j < n → ∀ g0, ao = some ⟨g0, 0, none⟩ → w'.cell? ⟨g, j, none⟩ = w.cell? ⟨g0, j, none⟩) → w'.cell? ⟨g, n, none⟩ = some u → g < w'.heap.size → wpList P ops Q rest (a.put o.dst (.slice (some ⟨g, 0, none⟩) (n + 1) c')) w') : wpList P ops Q (o :: rest) a w := by
  refine wpList_plain hgd fun K hK => ?_
  obtain ⟨g, c', w', hrun, h2, h3, h4, h5, h6⟩ := run_append_one (P := P) w t o.type e i z ht hi hz hsize hby hzs hr b p m u hu hu1 hbytes
  unfold Oper.wp execOp
  simp only [ho, resolve, invoke, builtin, Sem.run_bind, Sem.run_pure, Result.andThen_ok, List.map_toArray, List.map_cons, List.map_nil, hs, hx, hrun]
  exact hK _ _ (h g c' w' h2 h3 h4 h5 h6)

end Go.Lb
