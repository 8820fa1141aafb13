/-
  Plain: what holds while numbers that lie apart are written full (Wr) and grown (Gr, Gi). No program in sight.
-/
import Derived.Test.YtnokabglkmiidaaDoorStand
namespace Go.Lb
open Go.RowKit

/-- The marks. -/
def mark (t j : Nat) : Nat := 1000 * t + j % 1000
def tailM (t q : Nat) : Nat := 900000 + 1000 * t + q

/-- A list of slices: where each begins, its length, its room. -/
structure Fam where
  k : Nat
  ao : Nat → Option Addr
  nn : Nat → Nat
  cc : Nat → Nat

/-- No two of them lie in one block, and none lies in the block ga; all lie from B on. -/
structure Fam.Apart (F : Fam) (B ga : Nat) : Prop where
  items : ∀ s t, s < F.k → t < F.k → s ≠ t → ∀ g, blkOf (F.ao s) = some g → blkOf (F.ao t) ≠ some g
  all : ∀ t, t < F.k → blkOf (F.ao t) ≠ some ga
  base : ∀ t, t < F.k → ∀ g, blkOf (F.ao t) = some g → B ≤ g

/-- The list of them all, in the block ga. -/
def Fam.Row (F : Fam) (w : World) (ga : Nat) : Prop := ∀ t, t < F.k → w.cell? ⟨ga, t, none⟩ = some (.slice (F.ao t) (F.nn t) (F.cc t))

/-- i of them are written full, and j places of the next. -/
structure Wr (F : Fam) (e : TypeId) (B ga : Nat) (w0 w : World) (i j : Nat) : Prop where
  bel : Below B w0 w
  row : F.Row w ga
  room : ∀ t, t < F.k → Room e w (F.ao t) (F.nn t) (F.cc t)
  done : ∀ t, t < i → t < F.k → Reads w (F.ao t) 0 (F.nn t) (mark t)
  cur : Reads w (F.ao i) 0 j (mark i)

theorem Fam.Row.other {F : Fam} {w w' : World} {ga : Nat} (h : F.Row w ga) (hk : w'.heap[ga]? = w.heap[ga]?) : F.Row w' ga := fun t ht => (World.cell?_of_block hk).trans (h t ht)

theorem reads_none (w : World) (ao : Option Addr) (o : Nat) (f : Nat → Nat) : Reads w ao o 0 f := fun _ h => absurd h (by omega)

theorem blkOf_eq {g : Nat} {ao : Option Addr} (h : ao = some ⟨g, 0, none⟩) : blkOf ao = some g := by rw [h]; rfl

theorem Wr.start {F : Fam} {e : TypeId} {B ga : Nat} {w0 w : World} (hb : Below B w0 w) (hr : F.Row w ga) (hm : ∀ t, t < F.k → Room e w (F.ao t) (F.nn t) (F.cc t)) : Wr F e B ga w0 w 0 0 :=
  ⟨hb, hr, hm, fun t h => absurd h (by omega), reads_none _ _ _ _⟩

theorem Wr.next {F : Fam} {e : TypeId} {B ga : Nat} {w0 w : World} {i : Nat} (h : Wr F e B ga w0 w i (F.nn i)) : Wr F e B ga w0 w (i + 1) 0 :=
  ⟨h.bel, h.row, h.room, fun t ht hk => by
    by_cases e : t = i
    · subst e; exact h.cur
    · exact h.done t (by omega) hk, reads_none _ _ _ _⟩

theorem Wr.step {F : Fam} {e : TypeId} {B ga : Nat} {w0 w : World} {i j g : Nat} (h : Wr F e B ga w0 w i j) (hA : F.Apart B ga) (hi : i < F.k) (hj : j < F.nn i) (hg : F.ao i = some ⟨g, 0, none⟩) :
    Wr F e B ga w0 (w.setCell ⟨g, j, none⟩ (.int .u32 (mark i j : Nat))) i (j + 1) := by
  have hgb := blkOf_eq hg
  have hother : ∀ b, b ≠ g → (w.setCell ⟨g, j, none⟩ (.int .u32 (mark i j : Nat))).heap[b]? = w.heap[b]? := fun b hb => heap_setCell_other w ⟨g, j, none⟩ b _ hb
  have hrm := h.room i hi
  rw [hg] at hrm
  obtain ⟨u, hu⟩ := hrm.cell hj
  refine ⟨h.bel.setCell (hA.base i hi g hgb) _, h.row.other (hother ga (fun e => hA.all i hi (by rw [hgb, e]))), fun t ht => (h.room t ht).set g j _, fun t ht hk => ?_, fun q hq => ?_⟩
  · refine (h.done t ht hk).other fun b hb _ => hother b fun e => ?_
    subst e
    exact hA.items i t hi hk (by omega) b hgb hb
  · refine ⟨g, hg, ?_⟩
    rw [Nat.zero_add]
    by_cases e : q = j
    · subst e
      exact World.cell?_setCell_same _ _ _ hu
    · rw [World.cell?_setCell_other _ _ _ _ (fun e2 => e (by have := congrArg Addr.off e2; simpa using this.symm))]
      obtain ⟨g', hg', hc⟩ := h.cur q (by omega)
      rw [hg] at hg'
      cases hg'
      rw [Nat.zero_add] at hc
      exact hc

/-- The slices that were grown: where each begins, its room. -/
def grownL (F : Fam) (a' c' : Nat → Nat) (i : Nat) : List Value := (List.range i).map fun t => .slice (some ⟨a' t, 0, none⟩) (F.nn t + 40) (c' t)

/-- i of them are grown. -/
structure Gr (F : Fam) (e eS : TypeId) (B H ga : Nat) (w0 w : World) (i : Nat) (a' c' : Nat → Nat) (vg : Value) : Prop where
  bel : Below B w0 w
  hsz : H ≤ w.heap.size
  row : F.Row w ga
  marks : ∀ t, t < F.k → Reads w (F.ao t) 0 (F.nn t) (mark t)
  room : ∀ t, t < F.k → i ≤ t → Room e w (F.ao t) (F.nn t) (F.cc t)
  got : ∀ t, t < i → Reads w (some ⟨a' t, 0, none⟩) 0 (F.nn t) (mark t) ∧ Reads w (some ⟨a' t, 0, none⟩) (F.nn t) 40 (tailM t)
  p1 : ∀ t, t < i → blkOf (F.ao t) = some (a' t) ∨ H ≤ a' t
  p2 : ∀ s t, s < t → t < i → a' s ≠ a' t
  own : w.ownsRow H eS 1 vg i (grownL F a' c' i)
  p3 : ∀ t, t < i → vg.ownBlock ≠ some (a' t)

/-- .. and q places of the next one, which is now al. -/
structure Gi (F : Fam) (e eS : TypeId) (B H ga : Nat) (w0 w : World) (i : Nat) (a' c' : Nat → Nat) (vg : Value) (q : Nat) (al : Option Addr) (cl : Nat) : Prop where
  bel : Below B w0 w
  hsz : H ≤ w.heap.size
  row : F.Row w ga
  marks : ∀ t, t < F.k → Reads w (F.ao t) 0 (F.nn t) (mark t)
  room : ∀ t, t < F.k → i < t → Room e w (F.ao t) (F.nn t) (F.cc t)
  got : ∀ t, t < i → Reads w (some ⟨a' t, 0, none⟩) 0 (F.nn t) (mark t) ∧ Reads w (some ⟨a' t, 0, none⟩) (F.nn t) 40 (tailM t)
  p1 : ∀ t, t < i → blkOf (F.ao t) = some (a' t) ∨ H ≤ a' t
  p2 : ∀ s t, s < t → t < i → a' s ≠ a' t
  own : w.ownsRow H eS 1 vg i (grownL F a' c' i)
  p3 : ∀ t, t < i → vg.ownBlock ≠ some (a' t)
  lroom : Room e w al (F.nn i + q) cl
  lmark : Reads w al 0 (F.nn i) (mark i)
  ltail : Reads w al (F.nn i) q (tailM i)
  l1 : al = F.ao i ∨ ∃ g, al = some ⟨g, 0, none⟩ ∧ H ≤ g ∧ (∀ t, t < i → a' t ≠ g) ∧ vg.ownBlock ≠ some g

theorem Gr.start {F : Fam} {e eS : TypeId} {B ga : Nat} {w0 w : World} (h : Wr F e B ga w0 w F.k 0) : Gr F e eS B w.heap.size ga w0 w 0 (fun _ => 0) (fun _ => 0) (.slice none 0 0) :=
  ⟨h.bel, Nat.le_refl _, h.row, fun t ht => h.done t ht ht, fun t ht _ => h.room t ht, fun t ht => absurd ht (by omega), fun t ht => absurd ht (by omega), fun s t _ ht => absurd ht (by omega), World.ownsRow_nil _ _ _ _, fun t ht => absurd ht (by omega)⟩

theorem Gi.start {F : Fam} {e eS : TypeId} {B H ga : Nat} {w0 w : World} {i : Nat} {a' c' : Nat → Nat} {vg : Value} (h : Gr F e eS B H ga w0 w i a' c' vg) (hi : i < F.k) : Gi F e eS B H ga w0 w i a' c' vg 0 (F.ao i) (F.cc i) :=
  ⟨h.bel, h.hsz, h.row, h.marks, fun t ht hk => h.room t ht (by omega), h.got, h.p1, h.p2, h.own, h.p3, h.room i hi (Nat.le_refl _), h.marks i hi, reads_none _ _ _ _, .inl rfl⟩

/-- The frame of one append onto al: every other block is as it was. -/
theorem Gi.step {F : Fam} {e eS : TypeId} {B H ga : Nat} {w0 w w1 w2 : World} {i : Nat} {a' c' : Nat → Nat} {vg : Value} {q : Nat} {al : Option Addr} {cl g c2 : Nat} (h : Gi F e eS B H ga w0 w i a' c' vg q al cl)
    (hA : F.Apart B ga) (hi : i < F.k) (hga : ga < H) (hH : ∀ t, t < F.k → ∀ b, blkOf (F.ao t) = some b → b < H) (hBH : B ≤ H)
    (hw1 : w.grownBy w1 none) (hr2 : Room e w2 (some ⟨g, 0, none⟩) (F.nn i + q + 1) c2)
    (hor : (al = some ⟨g, 0, none⟩ ∧ w1.grownBy w2 (some g)) ∨ (g = w1.heap.size ∧ w1.grownBy w2 none))
    (hold : ∀ j, j < F.nn i + q → ∀ g0, al = some ⟨g0, 0, none⟩ → w2.cell? ⟨g, j, none⟩ = w1.cell? ⟨g0, j, none⟩) (hnew : w2.cell? ⟨g, F.nn i + q, none⟩ = some (.int .u32 (tailM i q : Nat))) :
    Gi F e eS B H ga w0 w2 i a' c' vg (q + 1) (some ⟨g, 0, none⟩) c2 := by
  -- the block that may have turned
  obtain ⟨row, hg2, hrow⟩ : ∃ row, w1.grownBy w2 row ∧ ∀ b, row = some b → al = some ⟨b, 0, none⟩ ∧ b = g := by
    rcases hor with ⟨h1, h2⟩ | ⟨_, h2⟩
    · exact ⟨some g, h2, fun b hb => by cases hb; exact ⟨h1, rfl⟩⟩
    · exact ⟨none, h2, fun b hb => by cases hb⟩
  have hs1 := hw1.size
  have hs2 := hg2.size
  have hkeep : ∀ b, b < w.heap.size → (∀ x, al = some x → b ≠ x.block) → w2.heap[b]? = w.heap[b]? := fun b hb hne =>
    (hg2.block b (by omega) (fun e => by obtain ⟨h1, h2⟩ := hrow b e.symm; exact hne _ h1 rfl)).trans (hw1.block b hb (by simp))
  -- al's block against the others
  have halB : ∀ x, al = some x → B ≤ x.block := fun x hx => by
    rcases h.l1 with hl | ⟨b, hl, h2, _⟩
    · exact hA.base i hi _ (by rw [← hl, hx]; rfl)
    · rw [hl] at hx; cases hx; exact Nat.le_trans hBH h2
  have hsep : ∀ t, t < F.k → t ≠ i → ∀ b, blkOf (F.ao t) = some b → ∀ x, al = some x → b ≠ x.block := fun t ht hti b hb x hx e => by
    rcases h.l1 with hl | ⟨b', hl, h2, _⟩
    · exact hA.items t i ht hi hti b hb (by rw [← hl, hx, e]; rfl)
    · rw [hl] at hx; cases hx
      have := hH t ht b hb
      simp at e
      omega
  have hsepG : ∀ t, t < i → ∀ x, al = some x → a' t ≠ x.block := fun t ht x hx e => by
    rcases h.l1 with hl | ⟨b', hl, h2, h3, _⟩
    · have hbi : blkOf (F.ao i) = some x.block := by rw [← hl, hx]; rfl
      rcases h.p1 t ht with h4 | h4
      · exact hA.items t i (by omega) hi (by omega) _ h4 (by rw [hbi, e])
      · have := hH i hi _ hbi
        omega
    · rw [hl] at hx; cases hx
      exact h3 t ht e
  have hsepV : ∀ x, al = some x → vg.ownBlock ≠ some x.block := fun x hx e => by
    rcases h.l1 with hl | ⟨b', hl, h2, _, h4⟩
    · have hbi : blkOf (F.ao i) = some x.block := by rw [← hl, hx]; rfl
      have := hH i hi _ hbi
      have := (h.own.lt _ e).1
      omega
    · rw [hl] at hx; cases hx
      exact h4 e
  have hgaA : ∀ x, al = some x → ga ≠ x.block := fun x hx e => by
    rcases h.l1 with hl | ⟨b', hl, h2, _⟩
    · exact hA.all i hi (by rw [← hl, hx, e]; rfl)
    · rw [hl] at hx; cases hx
      simp at e
      omega
  have hsz := h.hsz
  -- what al reads as, in w2 at g
  have hmv : ∀ j, j < F.nn i + q → ∀ v, (∃ g0, al = some ⟨g0, 0, none⟩ ∧ w.cell? ⟨g0, j, none⟩ = some v) → w2.cell? ⟨g, j, none⟩ = some v := by
    rintro j hj v ⟨g0, e0, hc⟩
    rw [hold j hj g0 e0, World.cell?_of_block (hw1.block g0 (World.block_lt_of_cell? _ _ hc) (by simp))]
    exact hc
  refine ⟨?_, by omega, ?_, fun t ht => ?_, fun t ht hit => ?_, fun t ht => ?_, h.p1, h.p2, ?_, h.p3, ?_, fun j hj => ?_, fun j hj => ?_, ?_⟩
  · exact (h.bel.grown hw1 (by omega) (fun k hk => by cases hk)).grown hg2 (by omega) (fun k hk => by obtain ⟨h1, _⟩ := hrow k hk; exact halB _ h1)
  · refine h.row.other ?_
    by_cases hk0 : 0 < F.k
    · exact hkeep ga (World.block_lt_of_cell? _ _ (h.row 0 hk0)) hgaA
    · omega
  · by_cases hti : t = i
    · subst hti
      intro j hj
      obtain ⟨g1, e1, hc1⟩ := h.marks t hi j hj
      refine ⟨g1, e1, ?_⟩
      by_cases hal : ∃ x, al = some x ∧ x.block = g1
      · obtain ⟨x, hx, hxb⟩ := hal
        obtain ⟨g0, e0, hc0⟩ := h.lmark j hj
        rw [e0] at hx
        cases hx
        simp at hxb
        subst hxb
        rcases hor with ⟨h1, _⟩ | ⟨_, h2⟩
        · rw [e0] at h1
          cases h1
          rw [Nat.zero_add]
          exact hmv j (by omega) _ ⟨_, e0, by simpa using hc0⟩
        · rw [World.cell?_of_block (h2.block g0 (by have := World.block_lt_of_cell? _ _ hc1; simp at this; omega) (by simp)), World.cell?_of_block (hw1.block g0 (World.block_lt_of_cell? _ _ hc1) (by simp))]
          exact hc1
      · exact (World.cell?_of_block (hkeep g1 (World.block_lt_of_cell? _ _ hc1) fun x hx e => hal ⟨x, hx, e.symm⟩)).trans hc1
    · exact (h.marks t ht).other fun b hb hlt => hkeep b hlt (hsep t ht hti b hb)
  · exact (h.room t ht hit).other fun b hb hlt => hkeep b hlt (hsep t ht (by omega) b hb)
  · exact ⟨(h.got t ht).1.other fun b hb hlt => hkeep b hlt (by cases hb; exact hsepG t ht), (h.got t ht).2.other fun b hb hlt => hkeep b hlt (by cases hb; exact hsepG t ht)⟩
  · have hk1 := h.own.kept hw1 (by cases hv : vg.ownBlock <;> simp)
    refine hk1.kept hg2 ?_
    cases hv : vg.ownBlock with
    | none => exact .inl rfl
    | some b => exact .inr fun e => by obtain ⟨h1, _⟩ := hrow b e.symm; exact hsepV _ h1 hv
  · rw [← Nat.add_assoc]; exact hr2
  · obtain ⟨g0, e0, hc0⟩ := h.lmark j hj
    exact ⟨g, rfl, by rw [Nat.zero_add] at hc0 ⊢; exact hmv j (by omega) _ ⟨g0, e0, hc0⟩⟩
  · by_cases hjq : j = q
    · subst hjq; exact ⟨g, rfl, hnew⟩
    · obtain ⟨g0, e0, hc0⟩ := h.ltail j (by omega)
      exact ⟨g, rfl, hmv _ (by omega) _ ⟨g0, e0, hc0⟩⟩
  · rcases hor with ⟨h1, _⟩ | ⟨h1, _⟩
    · rw [← h1]; exact h.l1
    · refine .inr ⟨g, rfl, by omega, fun t ht e => ?_, fun e => ?_⟩
      · obtain ⟨g0, e0, hc0⟩ := (h.got t ht).2 0 (by omega)
        have := World.block_lt_of_cell? _ _ hc0
        cases e0
        simp at this
        omega
      · have := (h.own.lt _ e).2
        omega

/-- The last place is written: it is laid into the list of the grown ones. -/
theorem Gr.step {F : Fam} {e eS : TypeId} {B H ga : Nat} {w0 w w1 w2 : World} {i : Nat} {a' c' : Nat → Nat} {vg vg' : Value} {g cl : Nat} (h : Gi F e eS B H ga w0 w i a' c' vg 40 (some ⟨g, 0, none⟩) cl)
    (hA : F.Apart B ga) (hi : i < F.k) (hga : ga < H) (hH : ∀ t, t < F.k → ∀ b, blkOf (F.ao t) = some b → b < H) (hBH : B ≤ H)
    (hw1 : w.grownBy w1 none) (hg2 : w1.grownBy w2 vg.ownBlock) (hown : w2.ownsRow H eS 1 vg' (i + 1) (grownL F a' c' i ++ [.slice (some ⟨g, 0, none⟩) (F.nn i + 40) cl])) (hor : vg'.ownBlock = vg.ownBlock ∨ vg'.ownBlock = some w1.heap.size) :
    Gr F e eS B H ga w0 w2 (i + 1) (fun t => if t = i then g else a' t) (fun t => if t = i then cl else c' t) vg' := by
  have hs1 := hw1.size
  have hs2 := hg2.size
  have hsz := h.hsz
  have hkeep : ∀ b, b < w.heap.size → vg.ownBlock ≠ some b → w2.heap[b]? = w.heap[b]? := fun b hb hne =>
    (hg2.block b (by omega) (fun e => hne e.symm)).trans (hw1.block b hb (by simp))
  have hlow : ∀ b, b < H → vg.ownBlock ≠ some b := fun b hb e => by have := (h.own.lt _ e).1; omega
  have hgl : vg.ownBlock ≠ some g := by
    rcases h.l1 with hl | ⟨b, hl, _, _, h4⟩
    · exact hlow g (hH i hi g (by rw [← hl]; rfl))
    · cases hl; exact h4
  have hgt : ∀ t, t < i → a' t ≠ g := fun t ht e => by
    rcases h.l1 with hl | ⟨b, hl, _, h3, _⟩
    · have hbi : blkOf (F.ao i) = some g := by rw [← hl]; rfl
      rcases h.p1 t ht with h4 | h4
      · exact hA.items t i (by omega) hi (by omega) _ h4 (by rw [hbi, e])
      · have := hH i hi _ hbi
        omega
    · cases hl; exact h3 t ht e
  have hlt : ∀ t, t < i → a' t < w.heap.size := fun t ht => by
    obtain ⟨g0, e0, hc0⟩ := (h.got t ht).2 0 (by omega)
    have := World.block_lt_of_cell? _ _ hc0
    cases e0
    exact this
  have hglt : g < w.heap.size := by
    obtain ⟨g0, e0, hc0⟩ := h.ltail 0 (by omega)
    have := World.block_lt_of_cell? _ _ hc0
    cases e0
    exact this
  refine ⟨?_, by omega, ?_, fun t ht => ?_, fun t ht hit => ?_, fun t ht => ?_, fun t ht => ?_, fun s t hs ht => ?_, ?_, fun t ht => ?_⟩
  · refine (h.bel.grown hw1 (by omega) (fun k hk => by cases hk)).grown hg2 (by omega) (fun k hk => by have := (h.own.lt _ hk).1; omega)
  · exact h.row.other (hkeep ga (by omega) (hlow ga hga))
  · exact (h.marks t ht).other fun b hb hlt => hkeep b hlt (hlow b (hH t ht b hb))
  · exact (h.room t ht (by omega)).other fun b hb hlt => hkeep b hlt (hlow b (hH t ht b hb))
  · by_cases hti : t = i
    · subst hti
      simp only [if_true]
      exact ⟨h.lmark.other fun b hb hlt => hkeep b hlt (by cases hb; exact hgl), h.ltail.other fun b hb hlt => hkeep b hlt (by cases hb; exact hgl)⟩
    · simp only [if_neg hti]
      exact ⟨(h.got t (by omega)).1.other fun b hb hlt => hkeep b hlt (by cases hb; exact h.p3 t (by omega)), (h.got t (by omega)).2.other fun b hb hlt => hkeep b hlt (by cases hb; exact h.p3 t (by omega))⟩
  · by_cases hti : t = i
    · subst hti
      simp only [if_true]
      rcases h.l1 with hl | ⟨b, hl, h2, _⟩
      · exact .inl (by rw [← hl]; rfl)
      · cases hl; exact .inr h2
    · simp only [if_neg hti]
      exact h.p1 t (by omega)
  · have hsi : s ≠ i := by omega
    simp only [if_neg hsi]
    by_cases hti : t = i
    · subst hti
      simp only [if_true]
      exact hgt s (by omega)
    · simp only [if_neg hti]
      exact h.p2 s t hs (by omega)
  · have e1 : grownL F (fun t => if t = i then g else a' t) (fun t => if t = i then cl else c' t) (i + 1) = grownL F a' c' i ++ [.slice (some ⟨g, 0, none⟩) (F.nn i + 40) cl] := by
      unfold grownL
      rw [List.range_succ, List.map_append]
      congr 1
      · refine List.map_congr_left fun t ht => ?_
        have : t < i := List.mem_range.1 ht
        simp only [if_neg (show t ≠ i by omega)]
      · simp
    rw [e1]
    exact hown
  · have hb : (if t = i then g else a' t) < w.heap.size := by
      by_cases hti : t = i
      · rw [if_pos hti]; exact hglt
      · rw [if_neg hti]; exact hlt t (by omega)
    rcases hor with h1 | h1
    · rw [h1]
      split
      · exact hgl
      · exact h.p3 t (by omega)
    · rw [h1]
      intro e
      have := Option.some.inj e
      omega

end Go.Lb
