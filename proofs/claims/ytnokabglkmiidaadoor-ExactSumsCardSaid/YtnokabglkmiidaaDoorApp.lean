/-
  append of a slice of limbs that is only read (nil, empty or not) onto a row of the call's own. No program in sight.
-/
import Derived.Test.YtnokabglkmiidaaDoorMem
import Derived.Maps.AppendAt
import Derived.OwnWalk
import Derived.Deep.AppendLies
namespace Go.Lb
open Go.RowKit

def lvs (xs : List Nat) : List Value := xs.map lv

theorem lvs_oneCell (xs : List Nat) : ∀ u ∈ lvs xs, u.oneCell' = true := by
  intro u hu
  obtain ⟨_, _, rfl⟩ := List.mem_map.1 hu
  rfl

theorem lvs_get {xs : List Nat} {j : Nat} {u : Value} (h : (lvs xs)[j]? = some u) : j < xs.length ∧ u = lv (nth xs j) := by
  unfold lvs at h
  rw [List.getElem?_map] at h
  obtain ⟨x, hx, rfl⟩ := Option.map_eq_some_iff.1 h
  obtain ⟨hj, he⟩ := List.getElem?_eq_some_iff.1 hx
  refine ⟨hj, ?_⟩
  unfold nth
  rw [List.getD_eq_getElem?_getD, hx]
  rfl

theorem lvs_at {xs : List Nat} {j : Nat} (h : j < xs.length) : (lvs xs)[j]? = some (lv (nth xs j)) := by
  unfold lvs nth
  rw [List.getElem?_map, List.getD_eq_getElem?_getD, List.getElem?_eq_getElem h]
  rfl

/-- The cells of a slice that reads as xs, as the laws on append ask for them. -/
theorem Sl.news {w : World} {a : Addr} {n c : Nat} {xs : List Nat} (h : Sl w (some a) n c xs) : ∀ j u, (lvs xs)[j]? = some u → w.cell? (a.add j) = some u := by
  intro j u hu
  obtain ⟨hj, rfl⟩ := lvs_get hu
  rw [h.len] at hj
  obtain ⟨b, o, e, _, hc⟩ := h.at_ (by omega)
  obtain rfl := Option.some.inj e
  rw [Addr.add_lit]
  exact hc j hj

theorem sl_marks (w : World) (e : TypeId) : Sl (w.alloc (.cells #[.int .u32 77, .int .u32 78, .int .u32 79] e)) (some ⟨w.heap.size, 0, none⟩) 3 3 [77, 78, 79] := by
  refine ⟨rfl, by decide, by decide, fun x hx => ?_, fun _ => ⟨_, _, rfl, by simp, fun j hj => ?_⟩⟩
  · simp at hx; omega
  · match j, hj with
    | 0, _ => simp [nth]
    | 1, _ => simp [nth]
    | 2, _ => simp [nth]

theorem own_cap {w : World} {base e g n cap : Nat} {xs : List Value} (h : w.ownsRow base e 1 (.slice (some ⟨g, 0, none⟩) n cap) n xs) : n ≤ cap ∧ cap ≤ 9223372036854775807 := by
  rcases h.2 with ⟨h', _⟩ | ⟨g', cap', cur, h', _, _, h1, h2, _⟩
  · cases h'
  · cases h'
    unfold maxLen at h2
    exact ⟨h1, by omega⟩

theorem own_mono {w : World} {base base' e n : Nat} {v : Value} {xs : List Value} (h : w.ownsRow base e 1 v n xs) (hb : base' ≤ base) : w.ownsRow base' e 1 v n xs :=
  ⟨h.1, h.2.imp id fun ⟨g, cap, cur, h1, h2, h3⟩ => ⟨g, cap, cur, h1, Nat.le_trans hb h2, h3⟩⟩

/-- The cells of a row that is owned. -/
theorem own_cell {w : World} {base e g n cap : Nat} {xs : List Nat} (h : w.ownsRow base e 1 (.slice (some ⟨g, 0, none⟩) n cap) n (lvs xs)) {j : Nat} (hj : j < n) : w.cell? ⟨g, j, none⟩ = some (.int .u32 (nth xs j : Int)) := by
  have hl : xs.length = n := by have := h.1; simpa [lvs] using this
  rw [h.cellAt j (by omega), lvs_at (by omega)]
  rfl

theorem nth_app {xs ys : List Nat} {j : Nat} : nth (xs ++ ys) j = if j < xs.length then nth xs j else nth ys (j - xs.length) := by
  unfold nth
  rw [List.getD_eq_getElem?_getD, List.getElem?_append]
  split <;> rw [List.getD_eq_getElem?_getD]

theorem own_below {w w' : World} {base e g n cap : Nat} {xs : List Value} (h : w.ownsRow base e 1 (.slice (some ⟨g, 0, none⟩) n cap) n xs) (hb : Below w.heap.size w w') : w'.ownsRow base e 1 (.slice (some ⟨g, 0, none⟩) n cap) n xs := by
  have hl := h.lt g rfl
  obtain ⟨h1, h2⟩ := h
  refine ⟨h1, ?_⟩
  rcases h2 with h2 | ⟨g', cap', cur, hv, hg, hh, r⟩
  · exact .inl h2
  · cases hv
    exact .inr ⟨g, cap, cur, rfl, hg, (hb.block g hl.2).trans hh, r⟩

/-- The first n places of a row that is owned, as a slice. -/
theorem sl_own {w : World} {base e g n k cap : Nat} {xs ys : List Nat} (h : w.ownsRow base e 1 (.slice (some ⟨g, 0, none⟩) (n + k) cap) (n + k) (lvs (xs ++ ys))) (hn : xs.length = n) (hok : Ok xs) : Sl w (some ⟨g, 0, none⟩) n cap xs := by
  obtain ⟨c1, c2⟩ := own_cap h
  refine ⟨hn, by omega, c2, hok, fun _ => ⟨g, 0, rfl, (h.lt g rfl).2, fun j hj => ?_⟩⟩
  rw [Nat.zero_add, own_cell h (by omega), nth_app, if_pos (by omega)]

/-- What an append onto a row of the call's own leaves of older memory. -/
theorem grownOwn {W w w' : World} {base e n : Nat} {v : Value} {xs : List Value} (h : Below W.heap.size W w) (hown : w.ownsRow base e 1 v n xs) (hb : W.heap.size ≤ base) (hg : w.grownBy w' v.ownBlock) : Below W.heap.size W w' :=
  h.grown hg h.size (fun k hk => Nat.le_trans hb (hown.lt k hk).1)

/-- Three stores into one block of three cells. -/
theorem set3 {w : World} {b : Nat} {u0 u1 u2 : Value} (v0 v1 v2 : Value) (h0 : w.cell? ⟨b, 0, none⟩ = some u0) (h1 : w.cell? ⟨b, 1, none⟩ = some u1) (h2 : w.cell? ⟨b, 2, none⟩ = some u2) :
    (((w.setCell ⟨b, 0, none⟩ v0).setCell ⟨b, 1, none⟩ v1).setCell ⟨b, 2, none⟩ v2).cell? ⟨b, 0, none⟩ = some v0 ∧
    (((w.setCell ⟨b, 0, none⟩ v0).setCell ⟨b, 1, none⟩ v1).setCell ⟨b, 2, none⟩ v2).cell? ⟨b, 1, none⟩ = some v1 ∧
    (((w.setCell ⟨b, 0, none⟩ v0).setCell ⟨b, 1, none⟩ v1).setCell ⟨b, 2, none⟩ v2).cell? ⟨b, 2, none⟩ = some v2 := by
  have n01 : (⟨b, 1, none⟩ : Addr) ≠ ⟨b, 0, none⟩ := by simp
  have n02 : (⟨b, 2, none⟩ : Addr) ≠ ⟨b, 0, none⟩ := by simp
  have n12 : (⟨b, 2, none⟩ : Addr) ≠ ⟨b, 1, none⟩ := by simp
  refine ⟨?_, ?_, ?_⟩
  · rw [World.cell?_setCell_other _ _ _ _ n02, World.cell?_setCell_other _ _ _ _ n01]; exact World.cell?_setCell_same _ _ _ h0
  · rw [World.cell?_setCell_other _ _ _ _ n12]; exact World.cell?_setCell_same _ _ _ ((World.cell?_setCell_other _ _ _ _ n01.symm).trans h1)
  · exact World.cell?_setCell_same _ _ _ ((World.cell?_setCell_other _ _ _ _ n12.symm).trans ((World.cell?_setCell_other _ _ _ _ n02.symm).trans h2))

section
variable {P : Program} (w : World)

theorem run_append_sl (base : Nat) (t ty e : TypeId) (i : TypeInfo) (z : Value) (ht : P.underlying t = some (.slice e)) (hi : P.info? e = some i) (hz : i.zero = some z)
    (hsize : i.size = 1) (hby : i.bytes = 4) (hzs : z.cells.size = 1)
    (v : Value) (n : Nat) (xs : List Nat) (hown : w.ownsRow base e 1 v n (lvs xs))
    (ao : Option Addr) (m c : Nat) (ys : List Nat) (hr : Sl w ao m c ys)
    (hbytes : (n + m) * 4 ≤ 140737488355328) (hbase : base ≤ w.heap.size) :
    ∃ v' w', (Builtin.append_ #[t, t] ty #[v, .slice ao m c]).run P w = .ok v' w' ∧ w'.ownsRow base e 1 v' (n + m) (lvs (xs ++ ys)) ∧ w.grownBy w' v.ownBlock ∧
      (v'.ownBlock = v.ownBlock ∨ v'.ownBlock = some w.heap.size) := by
  rcases ao with _ | ad
  · have hm : m = 0 := by
      rcases Nat.eq_zero_or_pos m with h0 | h0
      · exact h0
      · obtain ⟨b, o, h, _⟩ := hr.at_ h0
        cases h
    subst hm
    have hn : ys = [] := List.eq_nil_of_length_eq_zero hr.len
    subst hn
    refine ⟨v, w, ?_, by simpa using hown, World.grownBy.refl w _, .inl rfl⟩
    rcases hown.2 with ⟨rfl, rfl⟩ | ⟨g, cap, cur, rfl, _, _, hnc, _⟩
    · simp [Builtin.append_, run_underlying ht, sizeOf, typeInfo, hi, Builtin.lenOf, Builtin.firstCells]
    · simp [Builtin.append_, run_underlying ht, sizeOf, typeInfo, hi, Builtin.lenOf, Builtin.firstCells, hnc, storeCells]
  · obtain ⟨v', w', hrun, h2, h3, _, h5⟩ := run_append_own_at (P := P) w base t ty e i z 1 4 ht hi hz hsize hby hzs (by decide) v n (lvs xs) hown ad m c (lvs ys) (by simp [lvs, hr.len]) hr.news (lvs_oneCell ys) (by unfold maxLen; omega) hbytes hbase
    exact ⟨v', w', hrun, by rw [show lvs (xs ++ ys) = lvs xs ++ lvs ys from List.map_append ..]; exact h2, h3, h5⟩

theorem wpList_append_sl {ops : Array Oper} {rest : List Oper} {o : Oper} {a : Act} {Q : Exit → Act → World → Prop} (hgd : o.guard = none) (s x : Operand) (t : TypeId)
    (ho : o.op = .call { callee := .builtin .append, args := #[s, x], argTypes := #[t, t] })
    (base : Nat) (e : TypeId) (i : TypeInfo) (z : Value) (ht : P.underlying t = some (.slice e)) (hi : P.info? e = some i) (hz : i.zero = some z)
    (hsize : i.size = 1) (hby : i.bytes = 4) (hzs : z.cells.size = 1)
    (v : Value) (n : Nat) (xs : List Nat) (hs : a.eval s = v) (hown : w.ownsRow base e 1 v n (lvs xs))
    (ao : Option Addr) (m c : Nat) (ys : List Nat) (hx : a.eval x = .slice ao m c) (hr : Sl w ao m c ys)
    (hbytes : (n + m) * 4 ≤ 140737488355328) (hbase : base ≤ w.heap.size)
    (h : ∀ v' w', w'.ownsRow base e 1 v' (n + m) (lvs (xs ++ ys)) → w.grownBy w' v.ownBlock → (v'.ownBlock = v.ownBlock ∨ v'.ownBlock = some w.heap.size) → wpList P ops Q rest (a.put o.dst v') w') : wpList P ops Q (o :: rest) a w := by
  refine wpList_plain hgd fun K hK => ?_
  obtain ⟨v', w', hrun, h2, h3, h4⟩ := run_append_sl (P := P) w base t o.type e i z ht hi hz hsize hby hzs v n xs hown ao m c ys hr hbytes hbase
  unfold Oper.wp execOp
  simp only [ho, resolve, invoke, builtin, Sem.run_bind, Sem.run_pure, Result.andThen_ok, List.map_toArray, List.map_cons, List.map_nil, hs, hx, hrun]
  exact hK _ _ (h v' w' h2 h3 h4)
end
end Go.Lb
