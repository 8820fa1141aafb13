/-
  Two dyadics that are lent at once: the statement x, y := own(a), own(b), whatever its order. (Printed by wip/gen/lawsums.py.)
-/
import Derived.Test.YthemcdnlcgmimaaGreatDoorSums
import Derived.Test.YthemcdnlcgmimaaGreatDoorLent
import Derived.Deep.Cut
import Derived.Deep.RegionHeld3
namespace Go.Proofs.YthemcdnlcgmimaaGreatDoor
open Go.RowKit Go.Lb

theorem cell_new0 {w : World} {b : Nat} (hb : w.heap.size = b) (u v x : Value) (t : TypeId) : (w.alloc (.cells #[u, v, x] t)).cell? ⟨b, 0, none⟩ = some u := hb ▸ (box3_new w u v x t).c0
theorem cell_new1 {w : World} {b : Nat} (hb : w.heap.size = b) (u v x : Value) (t : TypeId) : (w.alloc (.cells #[u, v, x] t)).cell? ⟨b, 1, none⟩ = some v := hb ▸ (box3_new w u v x t).c1
theorem cell_new2 {w : World} {b : Nat} (hb : w.heap.size = b) (u v x : Value) (t : TypeId) : (w.alloc (.cells #[u, v, x] t)).cell? ⟨b, 2, none⟩ = some x := hb ▸ (box3_new w u v x t).c2
theorem nex (w : World) (o : Obj) (u v x : Value) (t : TypeId) : Box3 ((w.alloc o).alloc (.cells #[u, v, x] t)) (w.heap.size + 1) u v x := by
  have := box3_new (w.alloc o) u v x t
  rw [World.size_alloc] at this
  exact this
theorem cell_nex0 {w : World} {b : Nat} (hb : w.heap.size = b) (o : Obj) (u v x : Value) (t : TypeId) : ((w.alloc o).alloc (.cells #[u, v, x] t)).cell? ⟨b + 1, 0, none⟩ = some u := hb ▸ (nex w o u v x t).c0
theorem cell_nex1 {w : World} {b : Nat} (hb : w.heap.size = b) (o : Obj) (u v x : Value) (t : TypeId) : ((w.alloc o).alloc (.cells #[u, v, x] t)).cell? ⟨b + 1, 1, none⟩ = some v := hb ▸ (nex w o u v x t).c1
theorem cell_nex2 {w : World} {b : Nat} (hb : w.heap.size = b) (o : Obj) (u v x : Value) (t : TypeId) : ((w.alloc o).alloc (.cells #[u, v, x] t)).cell? ⟨b + 1, 2, none⟩ = some x := hb ▸ (nex w o u v x t).c2
theorem cell_old {w : World} {p : Addr} {v : Value} (h : w.cell? p = some v) (o : Obj) : (w.alloc o).cell? p = some v := cellStay h ((Below.refl _ _).alloc (Nat.le_refl _) o)
theorem cell_same {w : World} {p : Addr} (v : Value) (h : ∃ u, w.cell? p = some u) : (w.setCell p v).cell? p = some v := by
  obtain ⟨u, h⟩ := h
  exact World.cell?_setCell_same _ _ _ h
theorem ex_set {w : World} {q : Addr} (h : ∃ u, w.cell? q = some u) (p : Addr) (x : Value) : ∃ u, (w.setCell p x).cell? q = some u := by
  by_cases e : p = q
  · subst e
    exact ⟨x, cell_same x h⟩
  · obtain ⟨u, h⟩ := h
    exact ⟨u, (World.cell?_setCell_other _ _ _ _ e).trans h⟩
theorem ex_old {w : World} {q : Addr} (h : ∃ u, w.cell? q = some u) (o : Obj) : ∃ u, (w.alloc o).cell? q = some u := by
  obtain ⟨u, h⟩ := h
  exact ⟨u, cell_old h o⟩
theorem cell_off {w : World} {b i j : Nat} {v : Value} (h : w.cell? ⟨b, j, none⟩ = some v) (hne : i ≠ j) (u : Value) : (w.setCell ⟨b, i, none⟩ u).cell? ⟨b, j, none⟩ = some v :=
  (World.cell?_setCell_other _ _ _ _ (fun e => hne (congrArg Addr.off e))).trans h
theorem cell_blk {w : World} {a b i j : Nat} {v : Value} (h : w.cell? ⟨b, j, none⟩ = some v) (hne : a ≠ b) (u : Value) : (w.setCell ⟨a, i, none⟩ u).cell? ⟨b, j, none⟩ = some v :=
  (World.cell?_setCell_other _ _ _ _ (fun e => hne (congrArg Addr.block e))).trans h
theorem own_al {w : World} {base e n : Nat} {v : Value} {xs : List Value} (h : w.ownsRow base e 1 v n xs) (o : Obj) : (w.alloc o).ownsRow base e 1 v n xs := own_keep h ((Below.refl _ _).alloc (Nat.le_refl _) o)
theorem own_set_ne {w : World} {base e n m c g a i : Nat} {xs : List Value} (h : w.ownsRow base e 1 (.slice (some ⟨g, 0, none⟩) m c) n xs) (hne : a ≠ g) (u : Value) : (w.setCell ⟨a, i, none⟩ u).ownsRow base e 1 (.slice (some ⟨g, 0, none⟩) m c) n xs := by
  obtain ⟨h1, h2⟩ := h
  refine ⟨h1, h2.imp id ?_⟩
  rintro ⟨g', cap, cur, e1, hg, hh, r⟩
  cases e1
  exact ⟨g, c, cur, rfl, hg, (Below.heap_setCell _ _ _ _ (fun e => hne e.symm)).trans hh, r⟩

set_option maxHeartbeats 1000000 in
theorem still_any (neg : Bool) (g cap : Nat) (ao : Option Addr) (n c base : Nat) (x : Int) (xs : List Nat) (w : World) (h : Sl w ao n c xs)
    (hown : w.ownsRow base 46 1 (.slice (some ⟨g, 0, none⟩) (n + 3) cap) (n + 3) (lvs (xs ++ [77, 78, 79]))) (hn : n ≤ 35184372088832) :
    Calls Tryz.prog 12 #[.agg #[.bool neg, .slice (some ⟨g, 0, none⟩) n cap, .int .i64 x], .agg #[.bool neg, .slice ao n c, .int .i64 x]] w fun e w' => e = .returned (.bool true) ∧ Below w.heap.size w w' := by
  have hl := hown.lt g rfl
  go_enter Tryz.func12, Tryz.ntmps12
  go_wp2_with (go_at_call 13; refine (kept_any g cap ao n c base xs _ ((h.alloc _).alloc _) ((hown.alloc _).alloc _) (by simp; omega) hn).mono ?_; rintro en w1 ⟨rfl, hb1⟩)
  go_ret
  exact ⟨rfl, next (more (more (Below.refl _ _) _) _) hb1⟩

/-- What stands behind the statement: both boxes, both rows. -/
structure Two (w2 wx : World) (s t : Bool) (x y : Int) (n1 n2 : Nat) (xs ys : List Nat) (gx gy px py bx bY : Nat) : Prop where
  below : Below w2.heap.size w2 wx
  cx : Cell3 wx bx (.bool s) (.slice (some ⟨gx, 0, none⟩) n1 px) (.int .i64 x)
  cy : Cell3 wx bY (.bool t) (.slice (some ⟨gy, 0, none⟩) n2 py) (.int .i64 y)
  ox : wx.ownsRow w2.heap.size 46 1 (.slice (some ⟨gx, 0, none⟩) (n1 + 3) px) (n1 + 3) (lvs (xs ++ [77, 78, 79]))
  oy : wx.ownsRow w2.heap.size 46 1 (.slice (some ⟨gy, 0, none⟩) (n2 + 3) py) (n2 + 3) (lvs (ys ++ [77, 78, 79]))
  ne : gx ≠ gy
  nx : bx ≠ gx
  ny : bY ≠ gx

/-- A number's limbs, the first k with their second bit turned. -/
def xr (xs : List Nat) (k : Nat) : List Nat := (xs.take k).map (fun v => v ^^^ 2) ++ xs.drop k
theorem xr_zero (xs : List Nat) : xr xs 0 = xs := by simp [xr]
theorem xr_length (xs : List Nat) (k : Nat) : (xr xs k).length = xs.length := by simp [xr]; omega
theorem ok_xr {xs : List Nat} (h : Ok xs) (k : Nat) : Ok (xr xs k) := by
  unfold xr
  refine ok_append (fun v hv => ?_) (ok_drop h k)
  obtain ⟨u, hu, rfl⟩ := List.mem_map.1 hv
  have := h u (List.mem_of_mem_take hu)
  have h2 : u ^^^ 2 < 2 ^ 32 := Nat.xor_lt_two_pow (by omega) (by omega)
  omega
theorem nth_xr {xs : List Nat} {k : Nat} (h : k < xs.length) : nth (xr xs k) k = nth xs k := by
  unfold nth xr
  rw [List.getD_eq_getElem?_getD, List.getD_eq_getElem?_getD, List.getElem?_append_right (by simp; omega)]
  simp
  congr 2
  omega
theorem xr_step {xs : List Nat} {k : Nat} (h : k < xs.length) : (xr xs k).set k (nth xs k ^^^ 2) = xr xs (k + 1) := by
  unfold xr
  have h1 : xs.drop k = nth xs k :: xs.drop (k + 1) := by
    rw [List.drop_eq_getElem_cons h]
    unfold nth
    rw [List.getD_eq_getElem?_getD, List.getElem?_eq_getElem h]
    rfl
  rw [h1, take_succ_getD h, List.map_append, List.set_append_right _ _ (by simp; omega)]
  have h2 : k - ((xs.take k).map (fun v => v ^^^ 2)).length = 0 := by simp; omega
  rw [h2]
  simp [nth]
theorem own_low {w W : World} {N base e m c g k : Nat} {xs : List Value} (h : w.ownsRow base e 1 (.slice (some ⟨g, 0, none⟩) m c) k xs) (hb : Below N w W) (hg : g < N) : W.ownsRow base e 1 (.slice (some ⟨g, 0, none⟩) m c) k xs := by
  obtain ⟨h1, h2⟩ := h
  refine ⟨h1, h2.imp id ?_⟩
  rintro ⟨g', cap, cur, e1, hg', hh, r⟩
  cases e1
  exact ⟨g, c, cur, rfl, hg', (hb.block g hg).trans hh, r⟩
theorem sl_hr {w W : World} {base e n c : Nat} {ao : Option Addr} {xs : List Nat} (h : Fr e w base ao n c xs) (hk : ∀ g, blkOf ao = some g → W.heap[g]? = w.heap[g]?) : Sl W ao n c xs := by
  obtain ⟨h1, h2⟩ := h
  rcases h2 with ⟨rfl, rfl, rfl⟩ | ⟨g, cur, rfl, hg, hh, hc⟩
  · exact ⟨h1.len, h1.le, h1.cap, h1.ok, fun hn => absurd hn (by decide)⟩
  · have hb := hk g rfl
    refine ⟨h1.len, h1.le, h1.cap, h1.ok, fun hn => ?_⟩
    obtain ⟨b, o, e1, _, hcell⟩ := h1.at_ hn
    cases e1
    exact ⟨g, 0, rfl, (Array.getElem?_eq_some_iff.1 (hb.trans hh)).1, fun j hj => (World.cell?_of_block hb).trans (hcell j hj)⟩
theorem room_own {w : World} {base g n cap k : Nat} {xs : List Value} (h : w.ownsRow base 46 1 (.slice (some ⟨g, 0, none⟩) (n + k) cap) (n + k) xs) : Room 46 w (some ⟨g, 0, none⟩) n cap := by
  rcases h.2 with ⟨h', _⟩ | ⟨g', cap', cur, h', _, hh, h1, h2, hs, _⟩
  · cases h'
  · cases h'
    unfold maxLen at h2
    exact ⟨by omega, by omega, .inr ⟨g, cur, rfl, hh, by omega⟩⟩
theorem book_mono {w : World} {B B' pb : Nat} {L : List Item} {vg vw : Value} (h : Book w B pb L vg vw) (hB : B' ≤ B) : Book w B' pb L vg vw :=
  ⟨Nat.le_trans hB h.base, h.c0, h.c1, h.c2, h.z0, h.z1, h.og, h.ow, h.hvw, fun x hx => (h.got x hx).mono hB, h.want, h.gotB, h.wantB, h.apart, h.small⟩
/-- stands, of a book and of what was lent. -/
theorem bk_stands (w : World) (B pb k : Nat) (h : Bk w pb k 0 0) (hk0 : k ≠ 0) (hkk : k ≤ 900) (hB : B ≤ pb) (M : List (Option Addr × Nat × Nat)) (lo : Option Addr) (lc : Nat)
    (hl : M = [] ∧ lo = none ∧ lc = 0 ∨ ∃ bl, lo = some ⟨bl, 0, none⟩ ∧ ∀ j y, M[j]? = some y → w.cell? ⟨bl, j, none⟩ = some (.slice y.1 y.2.1 y.2.2))
    (hR : ∀ y ∈ M, Room 46 w y.1 y.2.1 y.2.2) (hM : ∀ y ∈ M, ∀ g, blkOf y.1 = some g → B ≤ g ∧ g < pb)
    (hap : M.Pairwise (fun x y => ∀ g, blkOf x.1 = some g → blkOf y.1 ≠ some g)) (hs : ∀ y ∈ M, y.2.1 + 41 ≤ 35184372088832) (hm : M.length ≤ 50) :
    Calls Tryz.prog 14 #[.pointer (some ⟨pb, 0, none⟩), .slice lo M.length lc] w fun e w' => e = .returned (.bool true) ∧ Below B w w' := by
  obtain ⟨L, vg, vw, rfl, h2, h3, _⟩ := h
  refine stands_book w B pb L M vg vw lo lc (book_mono h2 hB) (fun e => hk0 (by rw [e]; rfl)) hl hR (fun y hy g hg => ⟨(hM y hy g hg).1, fun e => by have := (h2.og.lt g e).1; have := (hM y hy g hg).2; omega⟩) ?_ hs (by omega)
  rw [List.pairwise_append]
  refine ⟨List.pairwise_map.2 h2.apart, hap, fun a ha b hb g hg e => ?_⟩
  obtain ⟨i, hi, rfl⟩ := List.mem_map.1 ha
  have e1 := (fr_lt (h2.got i hi) hg).1
  have e2 := (hM b hb g e).2
  omega
theorem hr_at {w W : World} {lo g : Nat} (h : Hr w lo W) (g1 : lo ≤ g) (g2 : g < w.heap.size) : W.heap[g]? = w.heap[g]? := h g g1 g2
theorem xr_set {xs ms : List Nat} {k : Nat} (h : k < xs.length) : (lvs (xr xs k ++ ms)).set k (lv (nth xs k ^^^ 2)) = lvs (xr xs (k + 1) ++ ms) := by
  rw [lvs_set, List.set_append_left _ _ (by rw [xr_length]; exact h), xr_step h]

end Go.Proofs.YthemcdnlcgmimaaGreatDoor
