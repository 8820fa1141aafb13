/-
  The book's ratio: two answers more.
-/
import Derived.Test.YthemcdnlcgmimaaGreatDoorRtI
import Derived.Test.YthemcdnlcgmimaaGreatDoorTwoOwn
namespace Go.Proofs.YthemcdnlcgmimaaGreatDoor
open Go.RowKit Go.Lb

/-- A book that holds L, whose own blocks keep clear of those from lo up to hi. -/
def BkL (w : World) (pb : Nat) (L : List Item) (lo hi : Nat) : Prop :=
  ∃ vg vw, Book w pb pb L vg vw ∧ (∀ x ∈ L, ∀ g, blkOf x.wo = some g → pb ≤ g) ∧ ∀ g, lo ≤ g → g < hi → Clear pb vg vw g

theorem BkL.below {w w' : World} {pb lo hi : Nat} {L : List Item} (h : BkL w pb L lo hi) (hb : Below w.heap.size w w') : BkL w' pb L lo hi := by
  obtain ⟨vg, vw, h2, h3, h4⟩ := h
  exact ⟨vg, vw, h2.below hb, h3, h4⟩

theorem BkL.lt {w : World} {pb lo hi : Nat} {L : List Item} (h : BkL w pb L lo hi) : pb < w.heap.size := by
  obtain ⟨vg, vw, h2, h3, h4⟩ := h
  exact h2.lt

theorem BkL.bk {w : World} {pb lo hi : Nat} {L : List Item} (h : BkL w pb L lo hi) : Bk w pb L.length 0 0 := by
  obtain ⟨vg, vw, h2, h3, _⟩ := h
  exact ⟨L, vg, vw, rfl, h2, h3, fun g _ hg => absurd hg (by omega)⟩

theorem bkL_adds {w : World} {pb lo hi : Nat} {L : List Item} (h : BkL w pb L lo hi) (hhi : hi ≤ w.heap.size) (a b : Option Addr) (n c c2 : Nat) (ys : List Nat)
    (hg : Fr 46 w pb a n c ys) (hw : Fr 46 w pb b n c2 ys) (ga : ∀ g, blkOf a = some g → lo ≤ g ∧ g < hi) (gb : ∀ g, blkOf b = some g → lo ≤ g ∧ g < hi)
    (hap : ∀ y ∈ L, ∀ g, blkOf y.ao = some g → blkOf a ≠ some g) (hs : n + 41 ≤ 35184372088832) (hkk : L.length ≤ 1000) :
    Calls Tryz.prog 22 #[.pointer (some ⟨pb, 0, none⟩), .agg #[.slice a n c], .agg #[.slice b n c2]] w
      fun e w' => e = .returned (.tuple #[]) ∧ BkL w' pb (L ++ [⟨a, n, c, b, c2, ys⟩]) lo hi ∧ Below pb w w' ∧ ∀ g, lo ≤ g → g < hi → w'.heap[g]? = w.heap[g]? := by
  obtain ⟨vg, vw, hW, h3, h4⟩ := h
  refine (adds_any pb L.length vg vw (L.map Item.got) (L.map Item.want) a b n c n c2 w hW.c0 hW.c1 hW.z0 hW.z1 hW.og hW.ow hW.hvw (by omega)).mono ?_
  rintro e w' ⟨rfl, hA⟩
  have hbl : ∀ g, lo ≤ g → g < hi → w'.heap[g]? = w.heap[g]? := fun g g1 g2 => by
    obtain ⟨c1, c2, c3⟩ := h4 g g1 g2
    exact hA.block g (by omega) c1 (fun e => c2 e.symm) (fun e => c3 e.symm)
  obtain ⟨vg', vw', hB⟩ := hW.adds (x := ⟨a, n, c, b, c2, ys⟩) hA hg (hw.mono (Nat.zero_le _)) (fun g hh => h4 g (ga g hh).1 (ga g hh).2) (fun g hh => h4 g (gb g hh).1 (gb g hh).2) hap hs
  refine ⟨rfl, ⟨vg', vw', hB, ?_, ?_⟩, hA.below (Nat.le_refl _) hW.lt hW.og.lt hW.ow.lt, hbl⟩
  · intro y hy g hh
    rcases List.mem_append.1 hy with hy | hy
    · exact h3 y hy g hh
    · obtain rfl := List.mem_singleton.1 hy
      exact (fr_lt hw hh).1
  · intro g g1 g2
    obtain ⟨c1, c2, c3⟩ := h4 g g1 g2
    obtain ⟨p1, q1, p2, q2, r1, r2, _, _, r5, r6, _⟩ := hA.new
    have e1 : vg' = _ := Option.some.inj (hB.c0.symm.trans r1)
    have e2 : vw' = _ := Option.some.inj (hB.c1.symm.trans r2)
    subst e1
    subst e2
    refine ⟨c1, fun e => ?_, fun e => ?_⟩
    · have e' : p1 = g := Option.some.inj e
      subst e'
      rcases r5 with h5 | h5
      · exact c2 h5
      · omega
    · have e' : p2 = g := Option.some.inj e
      subst e'
      rcases r6 with h6 | h6
      · exact c3 h6
      · omega

theorem fr_keep {e : TypeId} {w w' : World} {base : Nat} {ao : Option Addr} {n c lo hi : Nat} {xs : List Nat} (h : Fr e w base ao n c xs) (hs : w.heap.size ≤ w'.heap.size) (hk : ∀ g, lo ≤ g → g < hi → w'.heap[g]? = w.heap[g]?) (ga : ∀ g, blkOf ao = some g → lo ≤ g ∧ g < hi) : Fr e w' base ao n c xs :=
  fr_at h hs fun g hg _ => hk g (ga g hg).1 (ga g hg).2

set_option maxRecDepth 100000 in
set_option maxHeartbeats 4000000 in
/-- ratio, of an answer that is what it must be. -/
theorem bk_ratio {w0 w : World} {pb k lo hi : Nat} (hk : Bk w0 pb k lo hi) (hb : Below w0.heap.size w0 w) (s : Bool) (er : Int) (a1 a2 b1 b2 : Option Addr) (n1 n2 c1 c2 d1 d2 : Nat) (xs ys : List Nat)
    (h1 : Fr 46 w w0.heap.size a1 n1 c1 xs) (h2 : Fr 46 w w0.heap.size a2 n2 c2 ys) (k1 : Fr 46 w w0.heap.size b1 n1 d1 xs) (k2 : Fr 46 w w0.heap.size b2 n2 d2 ys)
    (hap : ∀ g, blkOf a1 = some g → blkOf a2 ≠ some g) (hs1 : n1 + 41 ≤ 35184372088832) (hs2 : n2 + 41 ≤ 35184372088832) (hkk : k ≤ 900) :
    Calls Tryz.prog 8 #[.pointer (some ⟨pb, 0, none⟩), .agg #[.bool s, .slice a1 n1 c1, .slice a2 n2 c2], .int .i64 er, .agg #[.bool s, .slice b1 n1 d1, .slice b2 n2 d2], .int .i64 er] w
      fun e w' => e = .returned (.tuple #[]) ∧ Bk w' pb (k + 2) 0 0 ∧ Below pb w w' := by
  obtain ⟨L, vg, vw, rfl, g2, g3, _⟩ := hk
  have hK : ∀ W hi', Below w0.heap.size w0 W → BkL W pb L w0.heap.size hi' := fun W hi' hW => ⟨vg, vw, g2.below hW, g3, fun g hg _ => g2.clear hg⟩
  have hpb := g2.lt
  have hsz := hb.size
  have hL : ∀ y ∈ L, ∀ g, blkOf y.ao = some g → g < w0.heap.size := fun y hy g hg => (fr_lt (g2.got y hy) hg).2
  have hM := more (more (Below.refl w.heap.size w) (.cells #[.bool s, .slice a1 n1 c1, .slice a2 n2 c2] 28)) (.cells #[.bool s, .slice b1 n1 d1, .slice b2 n2 d2] 28)
  have P := (box3_new w (.bool s) (.slice a1 n1 c1) (.slice a2 n2 c2) 28).alloc (.cells #[.bool s, .slice b1 n1 d1, .slice b2 n2 d2] 28)
  have Q := box3_new (w.alloc (.cells #[.bool s, .slice a1 n1 c1, .slice a2 n2 c2] 28)) (.bool s) (.slice b1 n1 d1) (.slice b2 n2 d2) 28
  rw [World.size_alloc] at Q
  go_enter Tryz.func8, Tryz.ntmps8
  go_wp2_with fail
  have S1 : ∀ W, Below w.heap.size w W → Calls Tryz.prog 21 #[.agg #[.slice a1 n1 c1], .agg #[.slice b1 n1 d1]] W fun e w' => e = .returned (.bool true) ∧ Below W.heap.size W w' := fun W hW => refSame_eq a1 b1 n1 c1 d1 xs W (h1.sl.below hW) (k1.sl.below hW)
  have S2 : ∀ W, Below w.heap.size w W → Calls Tryz.prog 21 #[.agg #[.slice a2 n2 c2], .agg #[.slice b2 n2 d2]] W fun e w' => e = .returned (.bool true) ∧ Below W.heap.size W w' := fun W hW => refSame_eq a2 b2 n2 c2 d2 ys W (h2.sl.below hW) (k2.sl.below hW)
  refine (S1 _ hM).mono ?_
  rintro e w1 ⟨rfl, hb1⟩
  have hW := next hM hb1
  replace P := P.stay hb1
  replace Q := Q.stay hb1
  have ⟨p0, p1, p2, _, _, _⟩ := P
  have ⟨q0, q1, q2, _, _, _⟩ := Q
  go_wp2_with fail
  refine (S2 _ hW).mono ?_
  rintro e w2 ⟨rfl, hb2⟩
  replace hW := next hW hb2
  replace P := P.stay hb2
  replace Q := Q.stay hb2
  clear p0 p1 p2 q0 q1 q2
  have hQl := Q.lt
  have ⟨p0, p1, p2, _, _, _⟩ := P
  have ⟨q0, q1, q2, _, _, _⟩ := Q
  have hV := next hb hW
  have r1 : ∀ g, blkOf a1 = some g → w0.heap.size ≤ g ∧ g < w.heap.size + 2 := fun g hg => by have := fr_lt h1 hg; omega
  have r2 : ∀ g, blkOf a2 = some g → w0.heap.size ≤ g ∧ g < w.heap.size + 2 := fun g hg => by have := fr_lt h2 hg; omega
  have r3 : ∀ g, blkOf b1 = some g → w0.heap.size ≤ g ∧ g < w.heap.size + 2 := fun g hg => by have := fr_lt k1 hg; omega
  have r4 : ∀ g, blkOf b2 = some g → w0.heap.size ≤ g ∧ g < w.heap.size + 2 := fun g hg => by have := fr_lt k2 hg; omega
  have hpw : pb ≤ w0.heap.size := by omega
  have hA := bkL_adds (hK w2 (w.heap.size + 2) hV) (by omega) a1 b1 n1 c1 d1 xs ((h1.below hW).mono hpw) ((k1.below hW).mono hpw) r1 r3 (fun y hy g hg e => by have := hL y hy g hg; have := (fr_lt h1 e).1; omega) hs1 (by omega)
  go_wp2_with fail
  refine hA.mono ?_
  rintro e w3 ⟨rfl, hB3, hb3, hk3⟩
  have p0 := (World.cell?_of_block (hk3 w.heap.size (by omega) (by omega))).trans P.c0
  have p1 := (World.cell?_of_block (hk3 w.heap.size (by omega) (by omega))).trans P.c1
  have p2 := (World.cell?_of_block (hk3 w.heap.size (by omega) (by omega))).trans P.c2
  have q0 := (World.cell?_of_block (hk3 (w.heap.size + 1) (by omega) (by omega))).trans Q.c0
  have q1 := (World.cell?_of_block (hk3 (w.heap.size + 1) (by omega) (by omega))).trans Q.c1
  have q2 := (World.cell?_of_block (hk3 (w.heap.size + 1) (by omega) (by omega))).trans Q.c2
  have hs3 := hb3.size
  have hC := bkL_adds hB3 (by omega) a2 b2 n2 c2 d2 ys ((fr_keep (h2.below hW) hs3 hk3 r2).mono hpw) ((fr_keep (k2.below hW) hs3 hk3 r4).mono hpw) r2 r4 (fun y hy g hg e => by
    rcases List.mem_append.1 hy with hy | hy
    · have := hL y hy g hg
      have := (fr_lt h2 e).1
      omega
    · obtain rfl := List.mem_singleton.1 hy
      exact hap g hg e) hs2 (by simp; omega)
  go_wp2_with fail
  refine hC.mono ?_
  rintro e w4 ⟨rfl, hB4, hb4, hk4⟩
  have hBk := hB4.bk
  simp only [List.length_append, List.length_cons, List.length_nil] at hBk
  go_wp2
  refine bodyPost_end (v := .tuple #[]) (by simp [results, Tryz.results8, go_sem]) rfl ⟨rfl, hBk, ?_⟩
  exact ((hW.mono (by omega)).trans hb3).trans hb4

end Go.Proofs.YthemcdnlcgmimaaGreatDoor
