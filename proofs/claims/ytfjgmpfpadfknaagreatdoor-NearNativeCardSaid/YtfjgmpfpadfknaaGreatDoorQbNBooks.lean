/-
  The walks of the reference's cmp and Same, asked of two numbers that read alike. Plain: numbers that lie apart, written full with marks and then grown one by one: what stands in memory at each step (the laws' own test of what they were answered). No program in sight. The walk of the book's adds: one answer more, and what it must be. The walk of the book's dyadic: an answer that is what it must be. Plain: what holds while numbers that lie apart are written full (Wr) and grown (Gr, Gi). No program in sight. append of a list of values that is nil or begins a block onto a row of the call's own. No program in sight. The walk of the book's stands: all answers are what they must be, and none touches another when they are written full and grown. The book of answers: what holds of it between the calls (Book), one answer more (Book.adds), and its end (stands_book).
-/
import Derived.Test.YtfjgmpfpadfknaaGreatDoorQbNMakes
import Derived.Deep.RegionLaw
import Derived.Deep.RegionHeld3
import Derived.Deep.LoopGhost
set_option maxHeartbeats 1600000
namespace Go.Proofs.YtfjgmpfpadfknaaGreatDoor
open Go.RowKit Go.Lb
theorem refCmpL_eq (a1 a2 : Option Addr) (n c1 c2 : Nat) (xs : List Nat) (w : World) (h1 : Sl w a1 n c1 xs) (h2 : Sl w a2 n c2 xs) :
 Calls Tryz.prog 62 #[.slice a1 n c1, .slice a2 n c2] w fun e w' => e = .returned (.int .i64 0) ∧ Below w.heap.size w w' := by
 have hle := h1.le
 have hcap := h1.cap
 go_enter Tryz.func62, Tryz.ntmps62
 go_wp2
 go_loopw [5] (fun i wr => ∃ k m : Nat, k ≤ n ∧ i = .int .i64 ((k : Int) - 1) ∧ wr = w.drewN m) (fun i _ => (intOf i + 1).toNat)
 case atStart => exact ⟨n, 0, by omega, rfl, rfl⟩
 case round =>
  obtain ⟨k, m, hk, rfl, rfl⟩ := hrel
  by_cases h0 : k = 0
  · subst h0
    go_wp2
    go_ret
    exact ⟨rfl, drewn (Below.refl _ _) _⟩
  · obtain ⟨j, rfl⟩ : ∃ j, k = j + 1 := ⟨k - 1, by omega⟩
    obtain ⟨b1, o1, rfl, hb1, hc1⟩ := h1.at_ (by omega)
    obtain ⟨b2, o2, rfl, hb2, hc2⟩ := h2.at_ (by omega)
    have k1 := hc1 j (by omega)
    have k2 := hc2 j (by omega)
    have hj0 : (0 : Int) ≤ (j : Int) := by omega
    have hjn : (j : Int) < (n : Int) := by omega
    clear hc1 hc2
    go_wp2
    go_quiet (fail)
    go_wp2
    go_quiet (fail)
    go_wp2
    go_roundw
    case rel => exact ⟨j, _, by omega, by go_num, rfl⟩
    case measure => simp [intOf]
theorem refSame_eq (a1 a2 : Option Addr) (n c1 c2 : Nat) (xs : List Nat) (w : World) (h1 : Sl w a1 n c1 xs) (h2 : Sl w a2 n c2 xs) :
 Calls Tryz.prog 15 #[.agg #[.slice a1 n c1], .agg #[.slice a2 n c2]] w fun e w' => e = .returned (.bool true) ∧ Below w.heap.size w w' := by
 go_enter Tryz.func15, Tryz.ntmps15
 go_wp2_with (go_at_call 62; refine (refCmpL_eq a1 a2 n c1 c2 xs _ ((h1.alloc _).alloc _) ((h2.alloc _).alloc _)).mono ?_; rintro e w1 ⟨rfl, hb1⟩)
 go_ret
 exact ⟨rfl, next (more (more (Below.refl _ _) _) _) hb1⟩
end Go.Proofs.YtfjgmpfpadfknaaGreatDoor
namespace Go.Lb
open Go.RowKit
def blkOf : Option Addr → Option Nat
 | some a => some a.block
 | none => none
structure Room (e : TypeId) (w : World) (ao : Option Addr) (n c : Nat) : Prop where
 le : n ≤ c
 cap : c ≤ 9223372036854775807
 blk : (ao = none ∧ n = 0 ∧ c = 0) ∨ ∃ g cur, ao = some ⟨g, 0, none⟩ ∧ w.heap[g]? = some (.cells cur e (0, 0)) ∧ c ≤ cur.size
def Reads (w : World) (ao : Option Addr) (o n : Nat) (f : Nat → Nat) : Prop := ∀ j, j < n → ∃ g, ao = some ⟨g, 0, none⟩ ∧ w.cell? ⟨g, o + j, none⟩ = some (.int .u32 (f j : Int))
theorem Fr.room {e : TypeId} {w : World} {base : Nat} {ao : Option Addr} {n c : Nat} {xs : List Nat} (h : Fr e w base ao n c xs) : Room e w ao n c :=
 ⟨h.sl.le, h.sl.cap, h.blk.imp id fun ⟨g, cur, h1, _, h3, h4⟩ => ⟨g, cur, h1, h3, h4⟩⟩
theorem Room.other {e : TypeId} {w w' : World} {ao : Option Addr} {n c : Nat} (h : Room e w ao n c) (hk : ∀ g, blkOf ao = some g → g < w.heap.size → w'.heap[g]? = w.heap[g]?) : Room e w' ao n c :=
 ⟨h.le, h.cap, h.blk.imp id fun ⟨g, cur, h1, h2, h3⟩ => ⟨g, cur, h1, (hk g (by rw [h1]; rfl) (Array.getElem?_eq_some_iff.1 h2).1).trans h2, h3⟩⟩
theorem Reads.other {w w' : World} {ao : Option Addr} {o n : Nat} {f : Nat → Nat} (h : Reads w ao o n f) (hk : ∀ g, blkOf ao = some g → g < w.heap.size → w'.heap[g]? = w.heap[g]?) : Reads w' ao o n f := fun j hj => by
 obtain ⟨g, h1, h2⟩ := h j hj
 exact ⟨g, h1, (World.cell?_of_block (hk g (by rw [h1]; rfl) (World.block_lt_of_cell? _ _ h2))).trans h2⟩
theorem Room.grown {e : TypeId} {w w' : World} {ao : Option Addr} {n c : Nat} {row : Option Nat} (h : Room e w ao n c) (hg : w.grownBy w' row) (hne : ∀ g, blkOf ao = some g → some g ≠ row) : Room e w' ao n c :=
 h.other fun g h1 h2 => hg.block g h2 (hne g h1)
theorem Reads.grown {w w' : World} {ao : Option Addr} {o n : Nat} {f : Nat → Nat} {row : Option Nat} (h : Reads w ao o n f) (hg : w.grownBy w' row) (hne : ∀ g, blkOf ao = some g → some g ≠ row) : Reads w' ao o n f :=
 h.other fun g h1 h2 => hg.block g h2 (hne g h1)
theorem Room.set {e : TypeId} {w : World} {ao : Option Addr} {n c : Nat} (h : Room e w ao n c) (b j : Nat) (v : Value) : Room e (w.setCell ⟨b, j, none⟩ v) ao n c := by
 obtain ⟨h1, h2, h3⟩ := h
 refine ⟨h1, h2, h3.imp id ?_⟩
 rintro ⟨g, cur, e1, e2, e3⟩
 by_cases hb : g = b
 · subst hb
   exact ⟨g, _, e1, heap_setCell_same w g j cur e v e2, by simpa using e3⟩
 · exact ⟨g, cur, e1, (heap_setCell_other w ⟨b, j, none⟩ g v hb).trans e2, e3⟩
theorem Room.cell {e : TypeId} {w : World} {g n c : Nat} (h : Room e w (some ⟨g, 0, none⟩) n c) {j : Nat} (hj : j < n) : ∃ u, w.cell? ⟨g, j, none⟩ = some u := by
 rcases h.blk with ⟨h1, _⟩ | ⟨g', cur, h1, h2, h3⟩
 · cases h1
 · cases h1
   have hs : j < cur.size := by have := h.le; omega
   exact ⟨cur[j], by rw [cell_of_row w g j cur e (0, 0) h2, Array.getElem?_eq_getElem hs]⟩
theorem Room.frozen {e : TypeId} {w : World} {g n c : Nat} (h : Room e w (some ⟨g, 0, none⟩) n c) (j : Nat) : w.frozen? ⟨g, j, none⟩ = false := by
 rcases h.blk with ⟨h1, _⟩ | ⟨g', cur, h1, h2, h3⟩
 · cases h1
 · cases h1
   exact frozen_of_row w g j cur e h2
theorem Room.at_ {e : TypeId} {w : World} {ao : Option Addr} {n c : Nat} (h : Room e w ao n c) (hn : 0 < n) : ∃ g, ao = some ⟨g, 0, none⟩ ∧ g < w.heap.size := by
 rcases h.blk with ⟨_, h1, _⟩ | ⟨g, cur, h1, h2, _⟩
 · omega
 · exact ⟨g, h1, (Array.getElem?_eq_some_iff.1 h2).1⟩
theorem run_append_one {P : Program} (w : World) (t ty e : TypeId) (i : TypeInfo) (z : Value) (ht : P.underlying t = some (.slice e)) (hi : P.info? e = some i) (hz : i.zero = some z)
 (hsize : i.size = 1) (hby : i.bytes = 4) (hzs : z.cells.size = 1)
 {ao : Option Addr} {n c : Nat} (hr : Room e w ao n c) (b o m : Nat) (u : Value) (hu : w.cell? ⟨b, o, none⟩ = some u) (hu1 : u.oneCell' = true) (hbytes : (n + 1) * 4 ≤ 140737488355328) :
 ∃ g c' w', (Builtin.append_ #[t, t] ty #[.slice ao n c, .slice (some ⟨b, o, none⟩) 1 m]).run P w = .ok (.slice (some ⟨g, 0, none⟩) (n + 1) c') w' ∧ Room e w' (some ⟨g, 0, none⟩) (n + 1) c' ∧
  ((ao = some ⟨g, 0, none⟩ ∧ w.grownBy w' (some g)) ∨ (g = w.heap.size ∧ w.grownBy w' none)) ∧
  (∀ j, j < n → ∀ g0, ao = some ⟨g0, 0, none⟩ → w'.cell? ⟨g, j, none⟩ = w.cell? ⟨g0, j, none⟩) ∧ w'.cell? ⟨g, n, none⟩ = some u ∧ g < w'.heap.size := by
 have hnews : ∀ j v, [u][j]? = some v → w.cell? ((⟨b, o, none⟩ : Addr).add j) = some v := by
  intro j v h
  match j, h with
  | 0, h =>
    simp at h
    subst h
    rw [Addr.add_lit]
    exact hu
 have h63 : n + 1 ≤ maxLen := by unfold maxLen; omega
 have grown : ∀ (olds : List Value) (old : Nat), olds.length = n →
  Room e (w.drew.alloc (.cells (olds.toArray ++ [u].toArray ++ Builtin.zeroCells z.cells (grownCap w (n + 1) old e - (n + 1))) e)) (some ⟨w.heap.size, 0, none⟩) (n + 1) (grownCap w (n + 1) old e) ∧
  w.grownBy (w.drew.alloc (.cells (olds.toArray ++ [u].toArray ++ Builtin.zeroCells z.cells (grownCap w (n + 1) old e - (n + 1))) e)) none ∧
  (∀ j, j < n → (w.drew.alloc (.cells (olds.toArray ++ [u].toArray ++ Builtin.zeroCells z.cells (grownCap w (n + 1) old e - (n + 1))) e)).cell? ⟨w.heap.size, j, none⟩ = olds[j]?) ∧
  (w.drew.alloc (.cells (olds.toArray ++ [u].toArray ++ Builtin.zeroCells z.cells (grownCap w (n + 1) old e - (n + 1))) e)).cell? ⟨w.heap.size, n, none⟩ = some u := by
  intro olds old hlo
  have hge := grownCap_ge w (n + 1) old e
  have hcm := grownCap_le_maxLen w (n + 1) old e h63
  have hnew : (w.drew.alloc (.cells (olds.toArray ++ [u].toArray ++ Builtin.zeroCells z.cells (grownCap w (n + 1) old e - (n + 1))) e)).heap[w.heap.size]? = some (.cells (olds.toArray ++ [u].toArray ++ Builtin.zeroCells z.cells (grownCap w (n + 1) old e - (n + 1))) e (0, 0)) := heap_alloc_new w.drew _
  refine ⟨⟨hge, by unfold maxLen at hcm; omega, .inr ⟨w.heap.size, _, rfl, hnew, ?_⟩⟩, ⟨rfl, rfl, rfl, by simp, fun k hk _ => Below.heap_alloc w.drew _ k hk⟩, fun j hj => ?_, ?_⟩
  · simp only [Array.size_append, List.size_toArray, size_zeroCells, hzs, hlo, List.length_singleton]
    omega
  · rw [cell_of_row _ _ _ _ _ _ hnew, Array.append_assoc, Array.getElem?_append_left (by simp [hlo]; exact hj)]
    simp
  · rw [cell_of_row _ _ _ _ _ _ hnew, Array.append_assoc, Array.getElem?_append_right (by simp [hlo])]
    simp [hlo]
    rw [Array.getElem?_append_left (by simp)]
    rfl
 rcases hr.blk with ⟨rfl, rfl, rfl⟩ | ⟨g, cur, rfl, hg, hc⟩
 · have hrun := run_append_nil (P := P) w t ty e i z ht hi hz ⟨b, o, none⟩ 1 m [u] (by simp [hsize]) hnews (by omega) (by omega) (by rw [hby]; omega)
   obtain ⟨g1, g2, g3, g4⟩ := grown [] 0 rfl
   simp only [Nat.zero_add, Array.empty_append] at g1 g2 g4 ⊢
   exact ⟨_, _, _, hrun, g1, .inr ⟨rfl, g2⟩, fun j hj => absurd hj (by omega), g4, by simp⟩
 · have hle := hr.le
   by_cases hroom : n + 1 ≤ c
   · have hfit : n * i.size + [u].length ≤ cur.size := by rw [hsize]; simp; omega
     have hrun := run_append_room (P := P) w t ty e i ht hi g n c cur hg ⟨b, o, none⟩ 1 m [u] (by simp [hsize]) hnews (by simpa using hu1) hroom hfit
     rw [hsize, Nat.mul_one] at hrun
     have hh := setRow_heap w g cur (cur.toList.take n ++ [u] ++ cur.toList.drop (n + [u].length)).toArray e (0, 0) hg
     have hlt : n < cur.size := by omega
     refine ⟨g, c, _, hrun, ⟨hroom, hr.cap, .inr ⟨g, _, rfl, hh, ?_⟩⟩, .inl ⟨rfl, ⟨rfl, rfl, rfl, by simp, fun k _ hk => setRow_other w g k _ (fun e => hk (by rw [e]))⟩⟩, fun j hj g0 e0 => ?_, ?_, ?_⟩
     · simp
       omega
     · cases e0
       rw [cell_of_row _ _ _ _ _ _ hh, cell_of_row _ _ _ _ _ _ hg]
       rw [List.getElem?_toArray, List.append_assoc, List.getElem?_append_left (by simp; omega), List.getElem?_take, if_pos hj]
       simp
     · rw [cell_of_row _ _ _ _ _ _ hh, List.getElem?_toArray, List.append_assoc, List.getElem?_append_right (by simp; omega)]
       simp
       rw [show n - min n cur.size = 0 by omega]
       rfl
     · simp
       exact (Array.getElem?_eq_some_iff.1 hg).1
   · have hlo : (cur.toList.take n).length = n := by simp; omega
     have holds : ∀ j v, (cur.toList.take n)[j]? = some v → w.cell? ((⟨g, 0, none⟩ : Addr).add j) = some v := by
      intro j v h
      rw [Addr.add_lit, Nat.zero_add, cell_of_row w g j cur e (0, 0) hg]
      rw [List.getElem?_take] at h
      split at h
      · simpa using h
      · cases h
     have hrun := run_append_grow (P := P) w t ty e i z ht hi hz ⟨g, 0, none⟩ n c _ (by rw [hsize, Nat.mul_one]; exact hlo) holds ⟨b, o, none⟩ 1 m [u] (by simp [hsize]) hnews (by omega) (by omega) (growslice_fits (by omega) (by rw [hby]; exact hbytes))
     obtain ⟨g1, g2, g3, g4⟩ := grown (cur.toList.take n) c hlo
     refine ⟨_, _, _, hrun, g1, .inr ⟨rfl, g2⟩, fun j hj g0 e0 => ?_, g4, by simp⟩
     cases e0
     rw [g3 j hj, cell_of_row _ _ _ _ _ _ hg, List.getElem?_take, if_pos hj]
     simp
theorem wpList_append_one {P : Program} (w : World) {ops : Array Oper} {rest : List Oper} {o : Oper} {a : Act} {Q : Exit → Act → World → Prop} (hgd : o.guard = none) (s x : Operand) (t : TypeId)
 (ho : o.op = .call { callee := .builtin .append, args := #[s, x], argTypes := #[t, t] })
 (e : TypeId) (i : TypeInfo) (z : Value) (ht : P.underlying t = some (.slice e)) (hi : P.info? e = some i) (hz : i.zero = some z) (hsize : i.size = 1) (hby : i.bytes = 4) (hzs : z.cells.size = 1)
 (ao : Option Addr) (n c : Nat) (hs : a.eval s = .slice ao n c) (hr : Room e w ao n c) (b p m : Nat) (u : Value) (hx : a.eval x = .slice (some ⟨b, p, none⟩) 1 m) (hu : w.cell? ⟨b, p, none⟩ = some u) (hu1 : u.oneCell' = true)
 (hbytes : (n + 1) * 4 ≤ 140737488355328)
 (h : ∀ g c' w', Room e w' (some ⟨g, 0, none⟩) (n + 1) c' → ((ao = some ⟨g, 0, none⟩ ∧ w.grownBy w' (some g)) ∨ (g = w.heap.size ∧ w.grownBy w' none)) →
   (∀ j, j < n → ∀ g0, ao = some ⟨g0, 0, none⟩ → w'.cell? ⟨g, j, none⟩ = w.cell? ⟨g0, j, none⟩) → w'.cell? ⟨g, n, none⟩ = some u → g < w'.heap.size → wpList P ops Q rest (a.put o.dst (.slice (some ⟨g, 0, none⟩) (n + 1) c')) w') : wpList P ops Q (o :: rest) a w := by
 refine wpList_plain hgd fun K hK => ?_
 obtain ⟨g, c', w', hrun, h2, h3, h4, h5, h6⟩ := run_append_one (P := P) w t o.type e i z ht hi hz hsize hby hzs hr b p m u hu hu1 hbytes
 unfold Oper.wp execOp
 simp only [ho, resolve, invoke, builtin, Sem.run_bind, Sem.run_pure, Result.andThen_ok, List.map_toArray, List.map_cons, List.map_nil, hs, hx, hrun]
 exact hK _ _ (h g c' w' h2 h3 h4 h5 h6)
end Go.Lb
namespace Go.Proofs.YtfjgmpfpadfknaaGreatDoor
open Go.RowKit Go.Lb
theorem own_keep {w w' : World} {base e n : Nat} {v : Value} {xs : List Value} (h : w.ownsRow base e 1 v n xs) (hb : Below w.heap.size w w') : w'.ownsRow base e 1 v n xs := by
 have hl := h.lt
 obtain ⟨h1, h2⟩ := h
 refine ⟨h1, h2.imp id ?_⟩
 rintro ⟨g, cap, cur, rfl, hg, hh, r⟩
 exact ⟨g, cap, cur, rfl, hg, (hb.block g (hl g rfl).2).trans hh, r⟩
end Go.Proofs.YtfjgmpfpadfknaaGreatDoor
namespace Go.Lb
open Go.RowKit
def mark (t j : Nat) : Nat := 1000 * t + j % 1000
structure Fam where
 k : Nat
 ao : Nat → Option Addr
 nn : Nat → Nat
 cc : Nat → Nat
structure Fam.Apart (F : Fam) (B ga : Nat) : Prop where
 items : ∀ s t, s < F.k → t < F.k → s ≠ t → ∀ g, blkOf (F.ao s) = some g → blkOf (F.ao t) ≠ some g
 all : ∀ t, t < F.k → blkOf (F.ao t) ≠ some ga
 base : ∀ t, t < F.k → ∀ g, blkOf (F.ao t) = some g → B ≤ g
def Fam.Row (F : Fam) (w : World) (ga : Nat) : Prop := ∀ t, t < F.k → w.cell? ⟨ga, t, none⟩ = some (.slice (F.ao t) (F.nn t) (F.cc t))
structure Wr (F : Fam) (e : TypeId) (B ga : Nat) (w0 w : World) (i j : Nat) : Prop where
 bel : Below B w0 w
 row : F.Row w ga
 room : ∀ t, t < F.k → Room e w (F.ao t) (F.nn t) (F.cc t)
 done : ∀ t, t < i → t < F.k → Reads w (F.ao t) 0 (F.nn t) (mark t)
 cur : Reads w (F.ao i) 0 j (mark i)
theorem Fam.Row.other {F : Fam} {w w' : World} {ga : Nat} (h : F.Row w ga) (hk : w'.heap[ga]? = w.heap[ga]?) : F.Row w' ga := fun t ht => (World.cell?_of_block hk).trans (h t ht)
theorem reads_none (w : World) (ao : Option Addr) (o : Nat) (f : Nat → Nat) : Reads w ao o 0 f := fun _ h => absurd h (by omega)
theorem blkOf_eq {g : Nat} {ao : Option Addr} (h : ao = some ⟨g, 0, none⟩) : blkOf ao = some g := by rw [h]; rfl
theorem Wr.start {F : Fam} {e : TypeId} {B ga : Nat} {w0 w : World} (hb : Below B w0 w) (hr : F.Row w ga) (hm : ∀ t, t < F.k → Room e w (F.ao t) (F.nn t) (F.cc t)) : Wr F e B ga w0 w 0 0 :=
 ⟨hb, hr, hm, fun t h => absurd h (by omega), reads_none _ _ _ _⟩
theorem Wr.next {F : Fam} {e : TypeId} {B ga : Nat} {w0 w : World} {i : Nat} (h : Wr F e B ga w0 w i (F.nn i)) : Wr F e B ga w0 w (i + 1) 0 :=
 ⟨h.bel, h.row, h.room, fun t ht hk => by
  by_cases e : t = i
  · subst e; exact h.cur
  · exact h.done t (by omega) hk, reads_none _ _ _ _⟩
theorem Wr.step {F : Fam} {e : TypeId} {B ga : Nat} {w0 w : World} {i j g : Nat} (h : Wr F e B ga w0 w i j) (hA : F.Apart B ga) (hi : i < F.k) (hj : j < F.nn i) (hg : F.ao i = some ⟨g, 0, none⟩) :
 Wr F e B ga w0 (w.setCell ⟨g, j, none⟩ (.int .u32 (mark i j : Nat))) i (j + 1) := by
 have hgb := blkOf_eq hg
 have hother : ∀ b, b ≠ g → (w.setCell ⟨g, j, none⟩ (.int .u32 (mark i j : Nat))).heap[b]? = w.heap[b]? := fun b hb => heap_setCell_other w ⟨g, j, none⟩ b _ hb
 have hrm := h.room i hi
 rw [hg] at hrm
 obtain ⟨u, hu⟩ := hrm.cell hj
 refine ⟨h.bel.setCell (hA.base i hi g hgb) _, h.row.other (hother ga (fun e => hA.all i hi (by rw [hgb, e]))), fun t ht => (h.room t ht).set g j _, fun t ht hk => ?_, fun q hq => ?_⟩
 · refine (h.done t ht hk).other fun b hb _ => hother b fun e => ?_
   subst e
   exact hA.items i t hi hk (by omega) b hgb hb
 · refine ⟨g, hg, ?_⟩
   rw [Nat.zero_add]
   by_cases e : q = j
   · subst e
     exact World.cell?_setCell_same _ _ _ hu
   · rw [World.cell?_setCell_other _ _ _ _ (fun e2 => e (by have := congrArg Addr.off e2; simpa using this.symm))]
     obtain ⟨g', hg', hc⟩ := h.cur q (by omega)
     rw [hg] at hg'
     cases hg'
     rw [Nat.zero_add] at hc
     exact hc
section
section
variable {P : Program} (w : World)
end
end
end Go.Lb
namespace Go.Proofs.YtfjgmpfpadfknaaGreatDoor
open Go.RowKit Go.Lb
theorem fr_lt {e : TypeId} {w : World} {base : Nat} {ao : Option Addr} {n c : Nat} {xs : List Nat} (h : Fr e w base ao n c xs) {g : Nat} (hg : blkOf ao = some g) : base ≤ g ∧ g < w.heap.size := by
 rcases h.blk with ⟨h1, _⟩ | ⟨g', cur, h1, h2, h3, _⟩
 · rw [h1] at hg; cases hg
 · rw [h1] at hg; cases hg; exact ⟨h2, (Array.getElem?_eq_some_iff.1 h3).1⟩
theorem fr_at {e : TypeId} {w w' : World} {base : Nat} {ao : Option Addr} {n c : Nat} {xs : List Nat} (h : Fr e w base ao n c xs) (hs : w.heap.size ≤ w'.heap.size) (hk : ∀ g, blkOf ao = some g → g < w.heap.size → w'.heap[g]? = w.heap[g]?) : Fr e w' base ao n c xs := by
 obtain ⟨h1, h2⟩ := h
 rcases h2 with ⟨rfl, rfl, rfl⟩ | ⟨g, cur, rfl, hg, hh, hc⟩
 · exact ⟨⟨h1.len, h1.le, h1.cap, h1.ok, fun hn => absurd hn (by decide)⟩, .inl ⟨rfl, rfl, rfl⟩⟩
 · have hl := (Array.getElem?_eq_some_iff.1 hh).1
   have hb := hk g rfl hl
   refine ⟨⟨h1.len, h1.le, h1.cap, h1.ok, fun hn => ?_⟩, .inr ⟨g, cur, rfl, hg, hb.trans hh, hc⟩⟩
   obtain ⟨b, o, e1, _, hcell⟩ := h1.at_ hn
   cases e1
   exact ⟨g, 0, rfl, Nat.lt_of_lt_of_le hl hs, fun j hj => (World.cell?_of_block hb).trans (hcell j hj)⟩
end Go.Proofs.YtfjgmpfpadfknaaGreatDoor
