/-
  What the law TurnCuts asks of one kind of floats: the twelve widths, ends, answers; the arrays' rows. (Printed by wip/gen/turcuts.py.)
-/
import Derived.Deep.MidRow
import Derived.ChangeKeysEq
import Derived.Test.YtoiifhmepniniaaGreatDoorQCTurCr
namespace Go.Proofs.YtoiifhmepniniaaGreatDoor
open Go.RowKit Go.Lb
attribute [local go_sem] Go.World.cell?_alloc_some
def wdC (k : Nat) : Int := ([64, 8, 16, 32, 64, 64, 8, 16, 32, 64, 16, 32] : List Int).getD k 0
def loC (k : Nat) : Int := ([-9223372036854775808, -128, -32768, -2147483648, -9223372036854775808, 0, 0, 0, 0, 0, -32768, 0] : List Int).getD k 0
def hiC (k : Nat) : Int := ([9223372036854775808, 128, 32768, 2147483648, 9223372036854775808, 18446744073709551616, 256, 65536, 4294967296, 18446744073709551616, 32768, 4294967296] : List Int).getD k 0
def sgC (k : Nat) : Bool := decide (k < 5 ∨ k = 10)
def gV (E F b k : Nat) : Int := IntKind.u64.wrap (cuV (loC k) (hiC k) (finB E F b) (tzV E F b))
def gB (E F b k : Nat) : Bool := cuB (loC k) (hiC k) (finB E F b) (tzV E F b)
theorem refCut_k (E F b k : Nat) (w : World) (hk : k < 12) (h1 : formE (E : Int) (F : Int) = 0) (hp : b < pw (1 + E + F)) (hT : Tab w) :
 Calls Tryz.prog 30 #[.agg #[.int .i64 (E : Int), .int .i64 (F : Int)], .int .u64 (b : Int), .int .i64 (wdC k), .bool (sgC k)] w fun en w' => en = .returned (.tuple #[.int .u64 (gV E F b k), .bool (gB E F b k)]) ∧ Below w.heap.size w w' := by
 have hh : k = 0 ∨ k = 1 ∨ k = 2 ∨ k = 3 ∨ k = 4 ∨ k = 5 ∨ k = 6 ∨ k = 7 ∨ k = 8 ∨ k = 9 ∨ k = 10 ∨ k = 11 := by omega
 rcases hh with rfl | rfl | rfl | rfl | rfl | rfl | rfl | rfl | rfl | rfl | rfl | rfl
 · exact refCutS_any 64 (-9223372036854775808) 9223372036854775808 64 E F b w (.inr (.inr (.inr (⟨rfl, rfl, rfl, rfl⟩)))) h1 hp hT
 · exact refCutS_any 8 (-128) 128 8 E F b w (.inl ⟨rfl, rfl, rfl, rfl⟩) h1 hp hT
 · exact refCutS_any 16 (-32768) 32768 16 E F b w (.inr (.inl ⟨rfl, rfl, rfl, rfl⟩)) h1 hp hT
 · exact refCutS_any 32 (-2147483648) 2147483648 32 E F b w (.inr (.inr (.inl ⟨rfl, rfl, rfl, rfl⟩))) h1 hp hT
 · exact refCutS_any 64 (-9223372036854775808) 9223372036854775808 64 E F b w (.inr (.inr (.inr (⟨rfl, rfl, rfl, rfl⟩)))) h1 hp hT
 · exact refCutU_any 64 0 18446744073709551616 64 E F b w (.inr (.inr (.inr (⟨rfl, rfl, rfl, rfl⟩)))) h1 hp hT
 · exact refCutU_any 8 0 256 8 E F b w (.inl ⟨rfl, rfl, rfl, rfl⟩) h1 hp hT
 · exact refCutU_any 16 0 65536 16 E F b w (.inr (.inl ⟨rfl, rfl, rfl, rfl⟩)) h1 hp hT
 · exact refCutU_any 32 0 4294967296 32 E F b w (.inr (.inr (.inl ⟨rfl, rfl, rfl, rfl⟩))) h1 hp hT
 · exact refCutU_any 64 0 18446744073709551616 64 E F b w (.inr (.inr (.inr (⟨rfl, rfl, rfl, rfl⟩)))) h1 hp hT
 · exact refCutS_any 16 (-32768) 32768 16 E F b w (.inr (.inl ⟨rfl, rfl, rfl, rfl⟩)) h1 hp hT
 · exact refCutU_any 32 0 4294967296 32 E F b w (.inr (.inr (.inl ⟨rfl, rfl, rfl, rfl⟩))) h1 hp hT
def rowW (V : Nat → Int) (k : Nat) : List Value := (List.range 12).map fun j => if j < k then .int .u64 (V j) else .int .u64 0
def rowB (V : Nat → Bool) (k : Nat) : List Value := (List.range 12).map fun j => if j < k then .bool (V j) else .bool false
def rowI (V : Nat → Int) : List Value := (List.range 12).map fun j => .int .i64 (V j)
theorem rowW_get (V : Nat → Int) (k j : Nat) (hj : j < 12) : (rowW V k)[j]? = some (if j < k then .int .u64 (V j) else .int .u64 0) := by
 unfold rowW
 rw [List.getElem?_map, List.getElem?_range hj]
 rfl
theorem rowB_get (V : Nat → Bool) (k j : Nat) (hj : j < 12) : (rowB V k)[j]? = some (if j < k then .bool (V j) else .bool false) := by
 unfold rowB
 rw [List.getElem?_map, List.getElem?_range hj]
 rfl
theorem rowI_get (V : Nat → Int) (j : Nat) (hj : j < 12) : (rowI V)[j]? = some (.int .i64 (V j)) := by
 unfold rowI
 rw [List.getElem?_map, List.getElem?_range hj]
 rfl
theorem rowW_len (V : Nat → Int) (k : Nat) : (rowW V k).length = 12 := by unfold rowW; simp
theorem rowB_len (V : Nat → Bool) (k : Nat) : (rowB V k).length = 12 := by unfold rowB; simp
def Rw (w : World) (b : Nat) (cs : List Value) : Prop := ∀ j v, cs[j]? = some v → w.cell? ⟨b, j, none⟩ = some v ∧ w.frozen? ⟨b, j, none⟩ = false
theorem Rw.stay {w w' : World} {b : Nat} {cs : List Value} (h : Rw w b cs) (hb : Below w.heap.size w w') : Rw w' b cs := fun j v hv => cfStay (h j v hv) hb
theorem Rw.there {w : World} {b : Nat} {cs : List Value} (h : Rw w b cs) : w.there b 0 cs.length := fun j hj => by
 rw [Nat.zero_add]
 have := h j _ (List.getElem?_eq_getElem hj)
 exact ⟨by rw [this.1]; rfl, this.2⟩
theorem Rw.other {w : World} {b : Nat} {cs : List Value} (h : Rw w b cs) {p : Nat} (hp : b ≠ p) (i : Nat) (u : Value) : Rw (w.setCell ⟨p, i, none⟩ u) b cs := fun j v hv =>
 ⟨(World.cell?_setCell_other w _ _ _ (fun hh => hp (by injection hh with h1 h2 h3; exact h1.symm))).trans (h j v hv).1, by simpa using (h j v hv).2⟩
theorem Rw.one {w : World} {b k : Nat} {cs ds : List Value} {u : Value} (h : Rw w b cs) (hk : k < cs.length) (hs : ∀ j v, ds[j]? = some v → (j = k ∧ v = u) ∨ (j ≠ k ∧ cs[j]? = some v)) : Rw (w.setCell ⟨b, k, none⟩ u) b ds := by
 intro j v hv
 have hz : w.frozen? ⟨b, j, none⟩ = false := by
  rcases hs j v hv with ⟨rfl, _⟩ | ⟨_, h2⟩
  · exact (h j _ (List.getElem?_eq_getElem hk)).2
  · exact (h j _ h2).2
 refine ⟨?_, by simpa using hz⟩
 rcases hs j v hv with ⟨rfl, rfl⟩ | ⟨hj, h2⟩
 · exact World.cell?_setCell_same w _ _ (h j _ (List.getElem?_eq_getElem hk)).1
 · exact (World.cell?_setCell_other w _ _ _ (fun hh => hj (by injection hh with h1 h2 h3; exact h2.symm))).trans (h j v h2).1
theorem rowW_step (V : Nat → Int) (k : Nat) : ∀ j v, (rowW V (k + 1))[j]? = some v → (j = k ∧ v = .int .u64 (V k)) ∨ (j ≠ k ∧ (rowW V k)[j]? = some v) := by
 intro j v hv
 have hj : j < 12 := by
  have := (List.getElem?_eq_some_iff.1 hv).1
  rwa [rowW_len] at this
 rw [rowW_get V (k + 1) j hj] at hv
 rw [rowW_get V k j hj]
 by_cases hjk : j = k
 · subst hjk
   rw [if_pos (by omega)] at hv
   cases hv
   exact .inl ⟨rfl, rfl⟩
 · refine .inr ⟨hjk, ?_⟩
   rw [← hv]
   congr 1
   by_cases hl : j < k
   · rw [if_pos hl, if_pos (by omega)]
   · rw [if_neg hl, if_neg (by omega)]
theorem rowB_step (V : Nat → Bool) (k : Nat) : ∀ j v, (rowB V (k + 1))[j]? = some v → (j = k ∧ v = .bool (V k)) ∨ (j ≠ k ∧ (rowB V k)[j]? = some v) := by
 intro j v hv
 have hj : j < 12 := by
  have := (List.getElem?_eq_some_iff.1 hv).1
  rwa [rowB_len] at this
 rw [rowB_get V (k + 1) j hj] at hv
 rw [rowB_get V k j hj]
 by_cases hjk : j = k
 · subst hjk
   rw [if_pos (by omega)] at hv
   cases hv
   exact .inl ⟨rfl, rfl⟩
 · refine .inr ⟨hjk, ?_⟩
   rw [← hv]
   congr 1
   by_cases hl : j < k
   · rw [if_pos hl, if_pos (by omega)]
   · rw [if_neg hl, if_neg (by omega)]
theorem rw_new (w : World) (c : Array Value) (t : TypeId) : Rw (w.alloc (.cells c t)) w.heap.size c.toList := fun j v hv => by
 have hv2 : c[j]? = some v := by simpa using hv
 exact ⟨by simp [hv2], by simp⟩
theorem Rw.all {w : World} {b : Nat} {cs ds : List Value} (h : Rw w b cs) (hl : ds.length = cs.length) : Rw (w.setCells b 0 ds) b ds := by
 have ht : w.there b 0 ds.length := by rw [hl]; exact h.there
 have h1 := World.rangeAt_setCells_same w b 0 ds ht
 have h2 := World.there_setCells ht b 0 ds
 intro j v hv
 have hj := (List.getElem?_eq_some_iff.1 hv).1
 have := h1 j v hv
 have := (h2 j hj).2
 rw [Nat.zero_add] at *
 exact ⟨by assumption, by assumption⟩
theorem cu_in {lo hi : Int} {fin : Bool} {t : Int} (h0 : lo ≤ 0) (h1 : 0 < hi) (hh : -9223372036854775808 ≤ lo ∧ hi ≤ 18446744073709551616) : -9223372036854775808 ≤ cuV lo hi fin t ∧ lo ≤ cuV lo hi fin t ∧ cuV lo hi fin t < hi := by
 unfold cuV
 split
 · rename_i h
   unfold cuB at h
   rw [Bool.and_eq_true, decide_eq_true_eq] at h
   omega
 · omega
theorem wrap_in {v lo hi : Int} (h : -9223372036854775808 ≤ v ∧ lo ≤ v ∧ v < hi) (hh : hi ≤ 9223372036854775808 := by decide) : wrap64 v = v := by unfold wrap64; omega
theorem wrap_in_u64 {v hi : Int} (h : -9223372036854775808 ≤ v ∧ 0 ≤ v ∧ v < hi) (hh : hi ≤ 18446744073709551616 := by decide) : IntKind.u64.wrap v = v := by rw [IntKind.wrap_u64]; omega
theorem Rw.apart {w : World} {b p : Nat} {cs ds : List Value} (h : Rw w b cs) (hp : b ≠ p) : Rw (w.setCells p 0 ds) b cs := fun j v hv =>
 ⟨(World.cell?_setCells_out p ds 0 w ⟨b, j, none⟩ (fun hh => absurd hh hp)).trans (h j v hv).1, (World.frozen?_setCells p ds 0 w ⟨b, j, none⟩).trans (h j v hv).2⟩
theorem box2_apart {w : World} {b p : Nat} {u v : Value} {ds : List Value} (h : Box2 w b u v) (hp : b ≠ p) : Box2 (w.setCells p 0 ds) b u v :=
 ⟨(World.cell?_setCells_out p ds 0 w ⟨b, 0, none⟩ (fun hh => absurd hh hp)).trans h.c0, (World.cell?_setCells_out p ds 0 w ⟨b, 1, none⟩ (fun hh => absurd hh hp)).trans h.c1⟩
theorem below_cells {w : World} {p : Nat} : ∀ (ds : List Value) (o : Nat) (w1 : World), Below w.heap.size w w1 → w.heap.size ≤ p → Below w.heap.size w (w1.setCells p o ds)
 | [], _, _, h, _ => h
 | _ :: r, o, _, h, hp => below_cells r (o + 1) _ (Below.setCell h hp _) hp
structure Cs (n E F : Nat) (V : Nat → Int) (B : Nat → Bool) (g i k : Nat) (w : World) : Prop where
 box : Box2 w n (.int .i64 (E : Int)) (.int .i64 (F : Int))
 got : Rw w (n + 1) (rowW V g)
 want : Rw w (n + 2) (rowW V k)
 is : Rw w (n + 3) (rowB B i)
 there : Rw w (n + 4) (rowB B k)
theorem Cs.stay {n E F : Nat} {V : Nat → Int} {B : Nat → Bool} {g i k : Nat} {w w' : World} (h : Cs n E F V B g i k w) (hb : Below w.heap.size w w') : Cs n E F V B g i k w' :=
 ⟨h.box.stay hb, h.got.stay hb, h.want.stay hb, h.is.stay hb, h.there.stay hb⟩
theorem Cs.setGot {n E F : Nat} {V : Nat → Int} {B : Nat → Bool} {i k : Nat} {w : World} (h : Cs n E F V B 0 i k w) {ds : List Value} (hd : ds = rowW V 12) : Cs n E F V B 12 i k (w.setCells (n + 1) 0 ds) := by
 subst hd
 exact ⟨box2_apart h.box (by omega), h.got.all (by rw [rowW_len, rowW_len]), h.want.apart (by omega), h.is.apart (by omega), h.there.apart (by omega)⟩
theorem Cs.setIs {n E F : Nat} {V : Nat → Int} {B : Nat → Bool} {g k : Nat} {w : World} (h : Cs n E F V B g 0 k w) {ds : List Value} (hd : ds = rowB B 12) : Cs n E F V B g 12 k (w.setCells (n + 3) 0 ds) := by
 subst hd
 exact ⟨box2_apart h.box (by omega), h.got.apart (by omega), h.want.apart (by omega), h.is.all (by rw [rowB_len, rowB_len]), h.there.apart (by omega)⟩
theorem eqItems_same {P : Program} (d : Nat) (e : TypeId) (xs : Array Value) (W : World) : ∀ (is : List Nat), (∀ j, j ∈ is → ∃ v, (part e xs (j * P.cellsOf e)).run P W = .ok v W ∧ (Op.equalIn d e v v).run P W = .ok true W) → (Op.eqItems d e (P.cellsOf e) xs xs is).run P W = .ok true W
 | [], _ => by simp [Op.eqItems]
 | j :: is, h => by
   obtain ⟨v, h1, h2⟩ := h j (by simp)
   have ih := eqItems_same d e xs W is (fun k hk => h k (by simp [hk]))
   simp only [Op.eqItems, Sem.run_bind, h1, Result.andThen_ok, h2]
   simpa using ih
theorem rows_same {P : Program} (d n : Nat) (t e : TypeId) (xs : Array Value) (W : World) (i : TypeInfo) (h : P.underlying t = some (.array n e)) (hi : P.info? e = some i) (hz : i.size = 1) (hp : ∀ j, j < n → ∃ v, (part e xs j).run P W = .ok v W ∧ (Op.equalIn d e v v).run P W = .ok true W) :
 (Op.equalIn (d + 1) t (.agg xs) (.agg xs)).run P W = .ok true W := by
 rw [run_equalIn_array W d xs xs h hi]
 have hc : P.cellsOf e = 1 := by simp [Program.cellsOf, hi, hz]
 refine eqItems_same d e xs W _ fun j hj => ?_
 rw [hc, Nat.mul_one]
 exact hp j (by simpa using hj)
theorem rowW_same {P : Program} (d : Nat) (t e : TypeId) (V : Nat → Int) (W : World) (h : P.underlying t = some (.array 12 e)) (he : P.underlying e = some (.int .u64)) (hs : (P.info? e).map (·.size) = some 1) : (Op.equalIn (d + 1 + 1) t (.agg (rowW V 12).toArray) (.agg (rowW V 12).toArray)).run P W = .ok true W := by
 obtain ⟨i, hi, hz⟩ := Option.map_eq_some_iff.1 hs
 refine rows_same (d + 1) 12 t e _ W i h hi hz fun j hj => ⟨.int .u64 (V j), ?_, ?_⟩
 · have hg := rowW_get V 12 j hj
   rw [if_pos hj] at hg
   simp [part, isAgg, run_underlying he, hg]
 · rw [run_equalIn_int W d e .u64 .u64 _ _ he]
   simp
theorem rowB_same {P : Program} (d : Nat) (t e : TypeId) (V : Nat → Bool) (W : World) (h : P.underlying t = some (.array 12 e)) (he : P.underlying e = some .bool) (hs : (P.info? e).map (·.size) = some 1) : (Op.equalIn (d + 1 + 1) t (.agg (rowB V 12).toArray) (.agg (rowB V 12).toArray)).run P W = .ok true W := by
 obtain ⟨i, hi, hz⟩ := Option.map_eq_some_iff.1 hs
 refine rows_same (d + 1) 12 t e _ W i h hi hz fun j hj => ⟨.bool (V j), ?_, ?_⟩
 · have hg := rowB_get V 12 j hj
   rw [if_pos hj] at hg
   simp [part, isAgg, run_underlying he, hg]
 · rw [run_equalIn_bool W d e _ _ he]
   simp
theorem three_ways (k : Nat) : (sgC k = true ∧ (k : Int) < 5 ∧ True) ∨ (sgC k = true ∧ ¬ (k : Int) < 5 ∧ ((k : Int) == 10) = true) ∨ (sgC k = false ∧ ¬ (k : Int) < 5 ∧ ((k : Int) == 10) = false) := by
 rcases (by omega : k < 5 ∨ k = 10 ∨ (¬ k < 5 ∧ k ≠ 10)) with h | h | h
 · exact .inl ⟨decide_eq_true (.inl h), by omega, trivial⟩
 · exact .inr (.inl ⟨decide_eq_true (.inr h), by omega, by rw [beq_iff_eq]; omega⟩)
 · exact .inr (.inr ⟨decide_eq_false (by omega), by omega, by rw [beq_eq_false_iff_ne]; omega⟩)
theorem Cs.cells {n E F : Nat} {V : Nat → Int} {B : Nat → Bool} {w : World} (h : Cs n E F V B 12 12 12 w) :
 (w.cell? ⟨n + 1, 0, none⟩ = some (.int .u64 (V 0)) ∧ w.cell? ⟨n + 1, 1, none⟩ = some (.int .u64 (V 1)) ∧ w.cell? ⟨n + 1, 2, none⟩ = some (.int .u64 (V 2)) ∧ w.cell? ⟨n + 1, 3, none⟩ = some (.int .u64 (V 3)) ∧ w.cell? ⟨n + 1, 4, none⟩ = some (.int .u64 (V 4)) ∧ w.cell? ⟨n + 1, 5, none⟩ = some (.int .u64 (V 5)) ∧ w.cell? ⟨n + 1, 6, none⟩ = some (.int .u64 (V 6)) ∧ w.cell? ⟨n + 1, 7, none⟩ = some (.int .u64 (V 7)) ∧ w.cell? ⟨n + 1, 8, none⟩ = some (.int .u64 (V 8)) ∧ w.cell? ⟨n + 1, 9, none⟩ = some (.int .u64 (V 9)) ∧ w.cell? ⟨n + 1, 10, none⟩ = some (.int .u64 (V 10)) ∧ w.cell? ⟨n + 1, 11, none⟩ = some (.int .u64 (V 11))) ∧ (w.cell? ⟨n + 1 + 1, 0, none⟩ = some (.int .u64 (V 0)) ∧ w.cell? ⟨n + 1 + 1, 1, none⟩ = some (.int .u64 (V 1)) ∧ w.cell? ⟨n + 1 + 1, 2, none⟩ = some (.int .u64 (V 2)) ∧ w.cell? ⟨n + 1 + 1, 3, none⟩ = some (.int .u64 (V 3)) ∧ w.cell? ⟨n + 1 + 1, 4, none⟩ = some (.int .u64 (V 4)) ∧ w.cell? ⟨n + 1 + 1, 5, none⟩ = some (.int .u64 (V 5)) ∧ w.cell? ⟨n + 1 + 1, 6, none⟩ = some (.int .u64 (V 6)) ∧ w.cell? ⟨n + 1 + 1, 7, none⟩ = some (.int .u64 (V 7)) ∧ w.cell? ⟨n + 1 + 1, 8, none⟩ = some (.int .u64 (V 8)) ∧ w.cell? ⟨n + 1 + 1, 9, none⟩ = some (.int .u64 (V 9)) ∧ w.cell? ⟨n + 1 + 1, 10, none⟩ = some (.int .u64 (V 10)) ∧ w.cell? ⟨n + 1 + 1, 11, none⟩ = some (.int .u64 (V 11))) ∧ (w.cell? ⟨n + 1 + 1 + 1, 0, none⟩ = some (.bool (B 0)) ∧ w.cell? ⟨n + 1 + 1 + 1, 1, none⟩ = some (.bool (B 1)) ∧ w.cell? ⟨n + 1 + 1 + 1, 2, none⟩ = some (.bool (B 2)) ∧ w.cell? ⟨n + 1 + 1 + 1, 3, none⟩ = some (.bool (B 3)) ∧ w.cell? ⟨n + 1 + 1 + 1, 4, none⟩ = some (.bool (B 4)) ∧ w.cell? ⟨n + 1 + 1 + 1, 5, none⟩ = some (.bool (B 5)) ∧ w.cell? ⟨n + 1 + 1 + 1, 6, none⟩ = some (.bool (B 6)) ∧ w.cell? ⟨n + 1 + 1 + 1, 7, none⟩ = some (.bool (B 7)) ∧ w.cell? ⟨n + 1 + 1 + 1, 8, none⟩ = some (.bool (B 8)) ∧ w.cell? ⟨n + 1 + 1 + 1, 9, none⟩ = some (.bool (B 9)) ∧ w.cell? ⟨n + 1 + 1 + 1, 10, none⟩ = some (.bool (B 10)) ∧ w.cell? ⟨n + 1 + 1 + 1, 11, none⟩ = some (.bool (B 11))) ∧ (w.cell? ⟨n + 1 + 1 + 1 + 1, 0, none⟩ = some (.bool (B 0)) ∧ w.cell? ⟨n + 1 + 1 + 1 + 1, 1, none⟩ = some (.bool (B 1)) ∧ w.cell? ⟨n + 1 + 1 + 1 + 1, 2, none⟩ = some (.bool (B 2)) ∧ w.cell? ⟨n + 1 + 1 + 1 + 1, 3, none⟩ = some (.bool (B 3)) ∧ w.cell? ⟨n + 1 + 1 + 1 + 1, 4, none⟩ = some (.bool (B 4)) ∧ w.cell? ⟨n + 1 + 1 + 1 + 1, 5, none⟩ = some (.bool (B 5)) ∧ w.cell? ⟨n + 1 + 1 + 1 + 1, 6, none⟩ = some (.bool (B 6)) ∧ w.cell? ⟨n + 1 + 1 + 1 + 1, 7, none⟩ = some (.bool (B 7)) ∧ w.cell? ⟨n + 1 + 1 + 1 + 1, 8, none⟩ = some (.bool (B 8)) ∧ w.cell? ⟨n + 1 + 1 + 1 + 1, 9, none⟩ = some (.bool (B 9)) ∧ w.cell? ⟨n + 1 + 1 + 1 + 1, 10, none⟩ = some (.bool (B 10)) ∧ w.cell? ⟨n + 1 + 1 + 1 + 1, 11, none⟩ = some (.bool (B 11))) :=
 ⟨⟨(h.got 0 _ rfl).1, (h.got 1 _ rfl).1, (h.got 2 _ rfl).1, (h.got 3 _ rfl).1, (h.got 4 _ rfl).1, (h.got 5 _ rfl).1, (h.got 6 _ rfl).1, (h.got 7 _ rfl).1, (h.got 8 _ rfl).1, (h.got 9 _ rfl).1, (h.got 10 _ rfl).1, (h.got 11 _ rfl).1⟩, ⟨(h.want 0 _ rfl).1, (h.want 1 _ rfl).1, (h.want 2 _ rfl).1, (h.want 3 _ rfl).1, (h.want 4 _ rfl).1, (h.want 5 _ rfl).1, (h.want 6 _ rfl).1, (h.want 7 _ rfl).1, (h.want 8 _ rfl).1, (h.want 9 _ rfl).1, (h.want 10 _ rfl).1, (h.want 11 _ rfl).1⟩, ⟨(h.is 0 _ rfl).1, (h.is 1 _ rfl).1, (h.is 2 _ rfl).1, (h.is 3 _ rfl).1, (h.is 4 _ rfl).1, (h.is 5 _ rfl).1, (h.is 6 _ rfl).1, (h.is 7 _ rfl).1, (h.is 8 _ rfl).1, (h.is 9 _ rfl).1, (h.is 10 _ rfl).1, (h.is 11 _ rfl).1⟩, ⟨(h.there 0 _ rfl).1, (h.there 1 _ rfl).1, (h.there 2 _ rfl).1, (h.there 3 _ rfl).1, (h.there 4 _ rfl).1, (h.there 5 _ rfl).1, (h.there 6 _ rfl).1, (h.there 7 _ rfl).1, (h.there 8 _ rfl).1, (h.there 9 _ rfl).1, (h.there 10 _ rfl).1, (h.there 11 _ rfl).1⟩⟩
theorem rowW_lit (V : Nat → Int) (W : World) : (Op.equalIn 10000 53 (.agg #[.int .u64 (V 0), .int .u64 (V 1), .int .u64 (V 2), .int .u64 (V 3), .int .u64 (V 4), .int .u64 (V 5), .int .u64 (V 6), .int .u64 (V 7), .int .u64 (V 8), .int .u64 (V 9), .int .u64 (V 10), .int .u64 (V 11)]) (.agg #[.int .u64 (V 0), .int .u64 (V 1), .int .u64 (V 2), .int .u64 (V 3), .int .u64 (V 4), .int .u64 (V 5), .int .u64 (V 6), .int .u64 (V 7), .int .u64 (V 8), .int .u64 (V 9), .int .u64 (V 10), .int .u64 (V 11)])).run Tryz.prog W = .ok true W :=
 rowW_same (P := Tryz.prog) 9998 53 22 V W Tryz.underlying53 Tryz.underlying22 (by kernel_rfl)
theorem rowB_lit (B : Nat → Bool) (W : World) : (Op.equalIn 10000 54 (.agg #[.bool (B 0), .bool (B 1), .bool (B 2), .bool (B 3), .bool (B 4), .bool (B 5), .bool (B 6), .bool (B 7), .bool (B 8), .bool (B 9), .bool (B 10), .bool (B 11)]) (.agg #[.bool (B 0), .bool (B 1), .bool (B 2), .bool (B 3), .bool (B 4), .bool (B 5), .bool (B 6), .bool (B 7), .bool (B 8), .bool (B 9), .bool (B 10), .bool (B 11)])).run Tryz.prog W = .ok true W :=
 rowB_same (P := Tryz.prog) 9998 54 4 B W Tryz.underlying54 Tryz.underlying4 (by kernel_rfl)
structure Ct (n m k E F : Nat) (v : Int) (w w' : World) : Prop where
 c0 : w'.cell? ⟨n, 0, none⟩ = some (.int .i64 (E : Int))
 c1 : w'.cell? ⟨n, 1, none⟩ = some (.int .i64 (F : Int))
 g : w'.cell? ⟨m, k, none⟩ = some (.int .i64 v)
 x1 : w'.cell? ⟨n + 1 + 1, k, none⟩ = some (cellOf w' (n + 1 + 1) k)
 x2 : w'.cell? ⟨n + 1 + 1 + 1 + 1, k, none⟩ = some (cellOf w' (n + 1 + 1 + 1 + 1) k)
 z1 : w'.frozen? ⟨n + 1 + 1, k, none⟩ = false
 z2 : w'.frozen? ⟨n + 1 + 1 + 1 + 1, k, none⟩ = false
 hb : Below w.heap.size w w'
 hn : w.heap.size ≤ n
 hm : n + 4 < m
theorem Ct.stay {n m k E F : Nat} {v : Int} {w wp w' : World} (h : Ct n m k E F v w wp) (hb : Below wp.heap.size wp w') : Ct n m k E F v w w' :=
 ⟨cellStay h.c0 hb, cellStay h.c1 hb, cellStay h.g hb, cellOf_of (cellStay h.x1 hb), cellOf_of (cellStay h.x2 hb), (cfStay ⟨h.x1, h.z1⟩ hb).2, (cfStay ⟨h.x2, h.z2⟩ hb).2, next h.hb hb, h.hn, h.hm⟩
theorem Ct.drew {n m k E F : Nat} {v : Int} {w wp : World} (h : Ct n m k E F v w wp) : Ct n m k E F v w wp.drew := h.stay ((Below.refl _ _).drew)
theorem ne_cell {a b i j : Nat} (h : a ≠ b) : (⟨a, i, none⟩ : Addr) ≠ ⟨b, j, none⟩ := fun hh => h (by injection hh)
theorem Ct.setW {n m k E F : Nat} {v : Int} {w wp : World} (h : Ct n m k E F v w wp) (u : Value) : Ct n m k E F v w (wp.setCell ⟨n + 1 + 1, k, none⟩ u) := by
 have hm := h.hm
 have o : ∀ {b j : Nat} {x : Value}, b ≠ n + 1 + 1 → wp.cell? ⟨b, j, none⟩ = some x → (wp.setCell ⟨n + 1 + 1, k, none⟩ u).cell? ⟨b, j, none⟩ = some x := fun hb hx => (World.cell?_setCell_other wp _ _ _ (ne_cell (Ne.symm hb))).trans hx
 exact ⟨o (by omega) h.c0, o (by omega) h.c1, o (by omega) h.g, cellOf_of (World.cell?_setCell_same wp _ _ h.x1), cellOf_of (o (by omega) h.x2), by rw [World.frozen?_setCell]; exact h.z1, by rw [World.frozen?_setCell]; exact h.z2, Below.setCell h.hb (by have := h.hn; show w.heap.size ≤ n + 1 + 1; omega) _, h.hn, hm⟩
theorem Ct.setT {n m k E F : Nat} {v : Int} {w wp : World} (h : Ct n m k E F v w wp) (u : Value) : Ct n m k E F v w (wp.setCell ⟨n + 1 + 1 + 1 + 1, k, none⟩ u) := by
 have hm := h.hm
 have o : ∀ {b j : Nat} {x : Value}, b ≠ n + 1 + 1 + 1 + 1 → wp.cell? ⟨b, j, none⟩ = some x → (wp.setCell ⟨n + 1 + 1 + 1 + 1, k, none⟩ u).cell? ⟨b, j, none⟩ = some x := fun hb hx => (World.cell?_setCell_other wp _ _ _ (ne_cell (Ne.symm hb))).trans hx
 exact ⟨o (by omega) h.c0, o (by omega) h.c1, o (by omega) h.g, cellOf_of (o (by omega) h.x1), cellOf_of (World.cell?_setCell_same wp _ _ h.x2), by rw [World.frozen?_setCell]; exact h.z1, by rw [World.frozen?_setCell]; exact h.z2, Below.setCell h.hb (by have := h.hn; show w.heap.size ≤ n + 1 + 1 + 1 + 1; omega) _, h.hn, hm⟩
theorem Ct.conj {n m k E F : Nat} {v : Int} {w w' : World} (h : Ct n m k E F v w w') :
 w'.cell? ⟨n, 0, none⟩ = some (.int .i64 (E : Int)) ∧ w'.cell? ⟨n, 1, none⟩ = some (.int .i64 (F : Int)) ∧ w'.cell? ⟨m, k, none⟩ = some (.int .i64 v) ∧ w'.cell? ⟨n + 1 + 1, k, none⟩ = some (cellOf w' (n + 1 + 1) k) ∧ w'.cell? ⟨n + 1 + 1 + 1 + 1, k, none⟩ = some (cellOf w' (n + 1 + 1 + 1 + 1) k) ∧ w'.frozen? ⟨n + 1 + 1, k, none⟩ = false ∧ w'.frozen? ⟨n + 1 + 1 + 1 + 1, k, none⟩ = false ∧ Below w.heap.size w w' ∧ Ct n m k E F v w w' :=
 ⟨h.c0, h.c1, h.g, h.x1, h.x2, h.z1, h.z2, h.hb, h⟩
theorem Cs.oneMore {n m E F k : Nat} {V : Nat → Int} {B : Nat → Bool} {w w' : World} {R : List Value} (h : Cs n E F V B 12 12 k w) (hk : k < 12) (hR : Rw w m R) (hm : n + 4 < m) (hw : w' = (w.setCell ⟨n + 1 + 1, k, none⟩ (.int .u64 (V k))).setCell ⟨n + 1 + 1 + 1 + 1, k, none⟩ (.bool (B k)) ∨ w' = (w.setCell ⟨n + 1 + 1 + 1 + 1, k, none⟩ (.bool (B k))).setCell ⟨n + 1 + 1, k, none⟩ (.int .u64 (V k))) :
 Cs n E F V B 12 12 (k + 1) w' ∧ Rw w' m R := by
 have o : ∀ {W : World} {b p i : Nat} {u x y : Value}, b ≠ p → Box2 W b x y → Box2 (W.setCell ⟨p, i, none⟩ u) b x y := fun {W b p i u x y} hb hx => ⟨(World.cell?_setCell_other W _ _ _ (ne_cell (Ne.symm hb))).trans hx.c0, (World.cell?_setCell_other W _ _ _ (ne_cell (Ne.symm hb))).trans hx.c1⟩
 have hw1 : k < (rowW V k).length := by rw [rowW_len]; exact hk
 have hb1 : k < (rowB B k).length := by rw [rowB_len]; exact hk
 rcases hw with rfl | rfl
 · exact ⟨⟨o (by omega) (o (by omega) h.box), (h.got.other (by omega) _ _).other (by omega) _ _, ((h.want).one hw1 (rowW_step V k)).other (by omega) _ _, (h.is.other (by omega) _ _).other (by omega) _ _, (h.there.other (by omega) _ _).one hb1 (rowB_step B k)⟩, (hR.other (by omega) _ _).other (by omega) _ _⟩
 · exact ⟨⟨o (by omega) (o (by omega) h.box), (h.got.other (by omega) _ _).other (by omega) _ _, ((h.want).other (by omega) _ _).one hw1 (rowW_step V k), (h.is.other (by omega) _ _).other (by omega) _ _, ((h.there).one hb1 (rowB_step B k)).other (by omega) _ _⟩, (hR.other (by omega) _ _).other (by omega) _ _⟩
theorem cs_new (w : World) (E F : Nat) (V : Nat → Int) (B : Nat → Bool) (t0 t1 t2 t3 t4 : TypeId) :
 Cs w.heap.size E F V B 0 0 0 (((((w.alloc (.cells #[.int .i64 (E : Int), .int .i64 (F : Int)] t0)).alloc (.cells #[.int .u64 0, .int .u64 0, .int .u64 0, .int .u64 0, .int .u64 0, .int .u64 0, .int .u64 0, .int .u64 0, .int .u64 0, .int .u64 0, .int .u64 0, .int .u64 0] t1)).alloc (.cells #[.int .u64 0, .int .u64 0, .int .u64 0, .int .u64 0, .int .u64 0, .int .u64 0, .int .u64 0, .int .u64 0, .int .u64 0, .int .u64 0, .int .u64 0, .int .u64 0] t2)).alloc (.cells #[.bool false, .bool false, .bool false, .bool false, .bool false, .bool false, .bool false, .bool false, .bool false, .bool false, .bool false, .bool false] t3)).alloc (.cells #[.bool false, .bool false, .bool false, .bool false, .bool false, .bool false, .bool false, .bool false, .bool false, .bool false, .bool false, .bool false] t4)) := by
 have a0 := box2_new w (.int .i64 (E : Int)) (.int .i64 (F : Int)) t0
 generalize h0 : w.alloc (.cells #[.int .i64 (E : Int), .int .i64 (F : Int)] t0) = w0 at *
 have s0 : w0.heap.size = w.heap.size + 1 := by rw [← h0]; simp
 have a1 := rw_new w0 #[.int .u64 0, .int .u64 0, .int .u64 0, .int .u64 0, .int .u64 0, .int .u64 0, .int .u64 0, .int .u64 0, .int .u64 0, .int .u64 0, .int .u64 0, .int .u64 0] t1
 have b1 := more (Below.refl w0.heap.size w0) (.cells #[.int .u64 0, .int .u64 0, .int .u64 0, .int .u64 0, .int .u64 0, .int .u64 0, .int .u64 0, .int .u64 0, .int .u64 0, .int .u64 0, .int .u64 0, .int .u64 0] t1)
 generalize h1 : w0.alloc (.cells #[.int .u64 0, .int .u64 0, .int .u64 0, .int .u64 0, .int .u64 0, .int .u64 0, .int .u64 0, .int .u64 0, .int .u64 0, .int .u64 0, .int .u64 0, .int .u64 0] t1) = w1 at *
 have s1 : w1.heap.size = w.heap.size + 2 := by rw [← h1]; simp [s0]
 have a2 := rw_new w1 #[.int .u64 0, .int .u64 0, .int .u64 0, .int .u64 0, .int .u64 0, .int .u64 0, .int .u64 0, .int .u64 0, .int .u64 0, .int .u64 0, .int .u64 0, .int .u64 0] t2
 have b2 := more (Below.refl w1.heap.size w1) (.cells #[.int .u64 0, .int .u64 0, .int .u64 0, .int .u64 0, .int .u64 0, .int .u64 0, .int .u64 0, .int .u64 0, .int .u64 0, .int .u64 0, .int .u64 0, .int .u64 0] t2)
 generalize h2 : w1.alloc (.cells #[.int .u64 0, .int .u64 0, .int .u64 0, .int .u64 0, .int .u64 0, .int .u64 0, .int .u64 0, .int .u64 0, .int .u64 0, .int .u64 0, .int .u64 0, .int .u64 0] t2) = w2 at *
 have s2 : w2.heap.size = w.heap.size + 3 := by rw [← h2]; simp [s1]
 have a3 := rw_new w2 #[.bool false, .bool false, .bool false, .bool false, .bool false, .bool false, .bool false, .bool false, .bool false, .bool false, .bool false, .bool false] t3
 have b3 := more (Below.refl w2.heap.size w2) (.cells #[.bool false, .bool false, .bool false, .bool false, .bool false, .bool false, .bool false, .bool false, .bool false, .bool false, .bool false, .bool false] t3)
 generalize h3 : w2.alloc (.cells #[.bool false, .bool false, .bool false, .bool false, .bool false, .bool false, .bool false, .bool false, .bool false, .bool false, .bool false, .bool false] t3) = w3 at *
 have s3 : w3.heap.size = w.heap.size + 4 := by rw [← h3]; simp [s2]
 have a4 := rw_new w3 #[.bool false, .bool false, .bool false, .bool false, .bool false, .bool false, .bool false, .bool false, .bool false, .bool false, .bool false, .bool false] t4
 have b4 := more (Below.refl w3.heap.size w3) (.cells #[.bool false, .bool false, .bool false, .bool false, .bool false, .bool false, .bool false, .bool false, .bool false, .bool false, .bool false, .bool false] t4)
 rw [s0] at a1
 rw [s1] at a2
 rw [s2] at a3
 rw [s3] at a4
 exact ⟨(((a0.stay b1).stay b2).stay b3).stay b4, ((a1.stay b2).stay b3).stay b4, (a2.stay b3).stay b4, a3.stay b4, a4⟩
end Go.Proofs.YtoiifhmepniniaaGreatDoor
