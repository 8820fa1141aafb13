/-
  soft's kit: dyadic (what is rounded), sum.
-/
import Derived.Deep.CutRange
import Derived.Test.YtkifhlgmbckekaaGreatDoorQMS15
import Derived.Test.YtkifhlgmbckekaaGreatDoorSoftF
import Derived.Test.YtkifhlgmbckekaaGreatDoorQExs
import Derived.Test.YtkifhlgmbckekaaGreatDoorQMS9
namespace Go.Proofs.YtkifhlgmbckekaaGreatDoor

open Go.RowKit Go.Lb

attribute [local go_sem] Go.World.cell?_alloc_some

set_option maxRecDepth 100000 in
set_option maxHeartbeats 2000000 in
theorem kitDyadic_any (pk : Nat) (E F : Int) (s neg : Bool) (ao : Option Addr) (k c m : Nat) (X : Int) (xs : List Nat) (w : World) (hK : Box3 w pk (.int .i64 E) (.int .i64 F) (.int .u8 (m : Int))) (h : Sl w ao k c xs) (l1 : k ≤ 400) :
    Calls Tryz.prog 155 #[.pointer (some ⟨pk, 0, none⟩), .agg #[.bool s, .slice ao k c, .int .i64 X], .int .i64 0, .bool neg] w fun en w' => en = .returned (.agg #[.int .u64 (dyBits E F s xs X neg m : Int), .int .u8 (dyFlags E F s xs X m : Int), .int .i64 (dyErr E F s xs X m)]) ∧ Below w.heap.size w w' := by
  obtain ⟨W2, hW2⟩ : ∃ W2 : World, W2 = (w.alloc (.cells #[.bool s, .slice ao k c, .int .i64 X] 81)).alloc (.cells #[.int .u64 0, .int .u8 0, .int .i64 0] 90) := ⟨_, rfl⟩
  have hb2 : Below w.heap.size w W2 := hW2 ▸ more (more (Below.refl _ _) _) _
  have X2 : Box3 W2 w.heap.size (.bool s) (.slice ao k c) (.int .i64 X) := hW2 ▸ (box3_new w _ _ _ _).alloc _
  have R2 : Box3 W2 (w.heap.size + 1) (.int .u64 0) (.int .u8 0) (.int .i64 0) := by
    have := box3_new (w.alloc (.cells #[.bool s, .slice ao k c, .int .i64 X] 81)) (.int .u64 0) (.int .u8 0) (.int .i64 0) 90
    rw [World.size_alloc] at this
    exact hW2 ▸ this
  have K2 := hK.stay hb2
  have cD : ∀ W, Below w.heap.size w W → Calls Tryz.prog 83 #[.agg #[.int .i64 E, .int .i64 F], .agg #[.bool s, .slice ao k c, .int .i64 X], .bool neg, .int .u8 (m : Int)] W _ := fun W hW => rdDyadic_any ao k c m E F X s neg xs W (h.below hW) l1
  generalize dyBits E F s xs X neg m = B at *
  generalize dyFlags E F s xs X m = G at *
  generalize dyErr E F s xs X m = er at *
  clear h l1 hK
  go_enter Tryz.func155, Tryz.ntmps155
  go_upto_region 1 with fail
  rw [← hW2]
  clear hW2
  have hb0 := Below.refl W2.heap.size W2
  have kS : ∀ w' : World, Below W2.heap.size W2 w' → (w'.cell? ⟨pk, 0, none⟩ = some (.int .i64 E) ∧ w'.cell? ⟨pk, 1, none⟩ = some (.int .i64 F) ∧ w'.cell? ⟨pk, 2, none⟩ = some (.int .u8 (m : Int)) ∧ w'.cell? ⟨w.heap.size, 0, none⟩ = some (.bool s) ∧ w'.cell? ⟨w.heap.size, 1, none⟩ = some (.slice ao k c) ∧ w'.cell? ⟨w.heap.size, 2, none⟩ = some (.int .i64 X) ∧ Below W2.heap.size W2 w') := fun w' hb => ⟨cellStay K2.c0 hb, cellStay K2.c1 hb, cellStay K2.c2 hb, cellStay X2.c0 hb, cellStay X2.c1 hb, cellStay X2.c2 hb, hb⟩
  go_upto_region 3 with fail
  go_region_held3 (fun w' => w'.cell? ⟨pk, 0, none⟩ = some (.int .i64 E) ∧ w'.cell? ⟨pk, 1, none⟩ = some (.int .i64 F) ∧ w'.cell? ⟨pk, 2, none⟩ = some (.int .u8 (m : Int)) ∧ w'.cell? ⟨w.heap.size, 0, none⟩ = some (.bool s) ∧ w'.cell? ⟨w.heap.size, 1, none⟩ = some (.slice ao k c) ∧ w'.cell? ⟨w.heap.size, 2, none⟩ = some (.int .i64 X) ∧ Below W2.heap.size W2 w')
    ((refine kS _ ?_; (repeat (with_reducible (first | assumption | exact Below.refl _ _ | refine Below.drew ?_))); done))
    (first | (go_at_call 83; (with_reducible refine (cD _ ?_).mono ?_); (focus (go_split_ands; exact next hb2 (by assumption))); rintro en wB ⟨rfl, hbB⟩; have hWB : Below W2.heap.size W2 wB := (by go_split_ands; exact next (by assumption) hbB)))
  go_split_ands
  have V := next hb2 hWB
  have R := R2.stay hWB
  have ⟨r0, r1, r2, _, _, _⟩ := R
  go_wp2
  obtain ⟨t0, t1, t2⟩ := R.set (.int .u64 (B : Int)) (.int .u8 (G : Int)) (.int .i64 er)
  refine bodyPost_ret (v := .agg #[.int .u64 (B : Int), .int .u8 (G : Int), .int .i64 er]) (by simp [results, Tryz.results155, go_sem, t0, t1, t2]) rfl ⟨rfl, ((V.setCell (by simp) _).setCell (by simp) _).setCell (by simp) _⟩

/-- The sign of a sum that is nought, as soft reckons it. -/
def ngS (n1 n2 : Nat) (x y : Bool) (m : Nat) : Bool := if n1 = 0 ∧ n2 = 0 ∧ x = y then x else decide (m = 4)

set_option maxRecDepth 100000 in
set_option maxHeartbeats 4000000 in
theorem kitSum_any (pk : Nat) (E F : Int) (s t x y : Bool) (a1 a2 : Option Addr) (n1 n2 c1 c2 m : Nat) (X Y : Int) (xs ys : List Nat) (w : World) (hm : m < 5) (hK : Box3 w pk (.int .i64 E) (.int .i64 F) (.int .u8 (m : Int))) (h1 : Sl w a1 n1 c1 xs) (h2 : Sl w a2 n2 c2 ys) (hT : Tab w)
    (he : (addA s xs X t ys Y).e = 0) (l1 : (limbs (addA s xs X t ys Y).N).length ≤ 400) :
    Calls Tryz.prog 145 #[.pointer (some ⟨pk, 0, none⟩), .agg #[.bool s, .slice a1 n1 c1, .int .i64 X], .agg #[.bool t, .slice a2 n2 c2, .int .i64 Y], .bool x, .bool y] w fun en w' => en = .returned (.agg #[.int .u64 (dyBits E F (addA s xs X t ys Y).s (limbs (addA s xs X t ys Y).N) (addA s xs X t ys Y).x (ngS n1 n2 x y m) m : Int), .int .u8 (dyFlags E F (addA s xs X t ys Y).s (limbs (addA s xs X t ys Y).N) (addA s xs X t ys Y).x m : Int), .int .i64 (dyErr E F (addA s xs X t ys Y).s (limbs (addA s xs X t ys Y).N) (addA s xs X t ys Y).x m)]) ∧ Below w.heap.size w w' := by
  obtain ⟨W3, hW3⟩ : ∃ W3 : World, W3 = ((w.alloc (.cells #[.bool s, .slice a1 n1 c1, .int .i64 X] 81)).alloc (.cells #[.bool t, .slice a2 n2 c2, .int .i64 Y] 81)).alloc (.cells #[.int .u64 0, .int .u8 0, .int .i64 0] 90) := ⟨_, rfl⟩
  have hb3 : Below w.heap.size w W3 := hW3 ▸ more (more (more (Below.refl _ _) _) _) _
  have A3 : Box3 W3 w.heap.size (.bool s) (.slice a1 n1 c1) (.int .i64 X) := hW3 ▸ ((box3_new w _ _ _ _).alloc _).alloc _
  have B3 : Box3 W3 (w.heap.size + 1) (.bool t) (.slice a2 n2 c2) (.int .i64 Y) := by
    have := (box3_new (w.alloc (.cells #[.bool s, .slice a1 n1 c1, .int .i64 X] 81)) (.bool t) (.slice a2 n2 c2) (.int .i64 Y) 81).alloc (.cells #[.int .u64 0, .int .u8 0, .int .i64 0] 90)
    rw [World.size_alloc] at this
    exact hW3 ▸ this
  have R3 : Box3 W3 (w.heap.size + 2) (.int .u64 0) (.int .u8 0) (.int .i64 0) := by
    have := box3_new ((w.alloc (.cells #[.bool s, .slice a1 n1 c1, .int .i64 X] 81)).alloc (.cells #[.bool t, .slice a2 n2 c2, .int .i64 Y] 81)) (.int .u64 0) (.int .u8 0) (.int .i64 0) 90
    rw [World.size_alloc, World.size_alloc] at this
    exact hW3 ▸ this
  have K3 := hK.stay hb3
  have kA : ∀ W, Below w.heap.size w W → Calls Tryz.prog 225 #[.agg #[.bool s, .slice a1 n1 c1, .int .i64 X], .agg #[.bool t, .slice a2 n2 c2, .int .i64 Y]] W (Dyn (addA s xs X t ys Y) W) := fun W hW => exAdd_any s t a1 a2 n1 n2 c1 c2 X Y xs ys W (h1.below hW) (h2.below hW) (hT.below hW)
  generalize addA s xs X t ys Y = D at *
  have kD : ∀ W ao k c g, Box3 W pk (.int .i64 E) (.int .i64 F) (.int .u8 (m : Int)) → Sl W ao k c (limbs D.N) → Calls Tryz.prog 155 #[.pointer (some ⟨pk, 0, none⟩), .agg #[.bool D.s, .slice ao k c, .int .i64 D.x], .int .i64 0, .bool g] W _ := fun W ao k c g hk j => kitDyadic_any pk E F D.s g ao k c m D.x _ W hk j (by rw [← j.len]; exact l1)
  obtain ⟨ng, hng⟩ : ∃ ng, ng = ngS n1 n2 x y m := ⟨_, rfl⟩
  rw [← hng]
  have HNG := Lib.hid hng
  have hm4 : ((m : Int) == 4) = decide (m = 4) := by
    have hmm : m = 0 ∨ m = 1 ∨ m = 2 ∨ m = 3 ∨ m = 4 := by omega
    rcases hmm with rfl | rfl | rfl | rfl | rfl <;> rfl
  have HM4 := Lib.hid hm4
  have ⟨x0, x1, x2, _, _, _⟩ := A3
  have ⟨y0, y1, y2, _, _, _⟩ := B3
  have ⟨k0, k1, k2, _, _, _⟩ := K3
  clear hng hm4 h1 h2 l1 hT hK
  go_enter Tryz.func145, Tryz.ntmps145
  go_upto_region 1 with fail
  rw [← hW3]
  clear hW3
  go_upto_region 2 with fail
  obtain ⟨pb, hpb⟩ : ∃ o, o = decide (n1 = 0 ∧ n2 = 0 ∧ x = y) := ⟨_, rfl⟩
  have HPB := Lib.hid hpb
  clear hpb
  go_cut [35] from 19 to 35 (fun v35 wx => wx = W3 ∧ v35 = .bool pb)
  case first => as_aux_lemma =>
    by_cases hn1 : n1 = 0
    · by_cases hn2 : n2 = 0
      · have hpb : pb = decide (x = y) := by rw [HPB.out]; simp [hn1, hn2]
        subst hpb
        subst hn1
        subst hn2
        cases x <;> cases y <;> (go_wp2; go_meet; exact ⟨rfl, rfl⟩)
      · have hpb : pb = false := by rw [HPB.out]; exact decide_eq_false (fun h => hn2 h.2.1)
        have hn2' : ¬ ((n2 : Int) = 0) := by omega
        subst hpb
        subst hn1
        go_wp2
        go_meet
        exact ⟨rfl, rfl⟩
    · have hpb : pb = false := by rw [HPB.out]; exact decide_eq_false (fun h => hn1 h.1)
      have hn1' : ¬ ((n1 : Int) = 0) := by omega
      subst hpb
      go_wp2
      go_meet
      exact ⟨rfl, rfl⟩
  case rest => as_aux_lemma =>
    obtain ⟨rfl, rfl⟩ := hcut
    generalize wc = W3 at *
    go_upto_if 35 with fail
    go_cut [11] from 35 to 36 (fun v11 wx => wx = W3 ∧ v11 = .bool ng)
    case first => as_aux_lemma =>
      cases hp : pb
      · have hng : ng = decide (m = 4) := by
          rw [HNG.out]
          unfold ngS
          rw [if_neg (fun h => by have := HPB.out; rw [hp, decide_eq_true h] at this; cases this)]
        have HN := Lib.hid hng
        clear hng
        go_wp2
        go_meet
        exact ⟨rfl, by rw [HN.out, HM4.out]⟩
      · have hng : ng = x := by
          rw [HNG.out]
          unfold ngS
          rw [if_pos (of_decide_eq_true (HPB.out.symm.trans hp))]
        have HN := Lib.hid hng
        clear hng
        go_wp2
        go_meet
        exact ⟨rfl, by rw [HN.out]⟩
    case rest => as_aux_lemma =>
      obtain ⟨rfl, rfl⟩ := hcut
      generalize wc = W3 at *
      go_wp2_with fail
      refine (kA W3 hb3).mono ?_
      rintro en wA ⟨da, dk, dc, rfl, dF, hbA⟩
      rw [he]
      have hs := more hbA (.cells #[.bool D.s, .slice da dk dc, .int .i64 D.x] 81)
      have V4 := next hb3 hs
      have R4 := R3.stay hs
      have K4 := K3.stay hs
      have dN := box3_new wA (.bool D.s) (.slice da dk dc) (.int .i64 D.x) 81
      have dG := (dF.alloc (.cells #[.bool D.s, .slice da dk dc, .int .i64 D.x] 81)).sl
      clear x0 x1 x2 y0 y1 y2 k0 k1 k2 A3 B3 R3 K3 hb3 hs hbA dF kA
      go_upto_region 5 with fail
      obtain ⟨dZ, hZ⟩ : ∃ q, q = wA.heap.size := ⟨_, rfl⟩
      rw [← hZ] at dN ⊢
      clear hZ
      generalize wA.alloc (.cells #[.bool D.s, .slice da dk dc, .int .i64 D.x] 81) = w4 at *
      have ⟨d0, d1, d2, _, _, _⟩ := dN
      go_wp2_with fail
      refine (kD w4 _ _ _ ng K4 dG).mono ?_
      rintro en w5 ⟨rfl, hb5⟩
      have V := next V4 hb5
      have R := R4.stay hb5
      have ⟨r0, r1, r2, _, _, _⟩ := R
      go_wp2
      obtain ⟨t0, t1, t2⟩ := R.set (.int .u64 (dyBits E F D.s (limbs D.N) D.x ng m : Int)) (.int .u8 (dyFlags E F D.s (limbs D.N) D.x m : Int)) (.int .i64 (dyErr E F D.s (limbs D.N) D.x m))
      refine bodyPost_ret (v := .agg #[.int .u64 (dyBits E F D.s (limbs D.N) D.x ng m : Int), .int .u8 (dyFlags E F D.s (limbs D.N) D.x m : Int), .int .i64 (dyErr E F D.s (limbs D.N) D.x m)]) (by simp [results, Tryz.results145, go_sem, t0, t1, t2]) rfl ⟨rfl, ((V.setCell (by simp; omega) _).setCell (by simp; omega) _).setCell (by simp; omega) _⟩

end Go.Proofs.YtkifhlgmbckekaaGreatDoor

/-
  Plain: round's Dyadic of an exact sum is what the reference's sum is. No program in sight.
-/
namespace Go.Proofs.YtkifhlgmbckekaaGreatDoor

open Go.RowKit Go.Lb

theorem dchk_dy {s : Bool} {N : Nat} {x : Int} (h : Dy s N x) : dchk s (limbs N) x = 0 := by
  unfold dchk
  have hc : chk (limbs N) = 0 := chk_lm7 h.len
  rw [if_neg (fun hh => hh hc)]
  by_cases h0 : N = 0
  · obtain ⟨h1, h2⟩ := h.zero h0
    subst h0
    rw [if_pos (by rw [limbs_zero]; rfl), if_neg (by rw [h1, h2]; decide)]
  · have ho := h.odd h0
    have hl : ¬ (limbs N).length = 0 := by rw [limbs_pos h0]; simp
    rw [if_neg hl, if_neg]
    rintro (h3 | h3)
    · have := (limbs_odd N)
      rcases this with ⟨h4, _⟩ | ⟨_, h4⟩
      · exact hl h4
      · omega
    · have h5 := of_decide_eq_true h3
      have := h.lo
      have := h.hi
      omega

theorem dy_sum {E F m : Nat} {D : Ds} (hf : formE (E : Int) (F : Int) = 0) (hm : m < 5) (h : Dy D.s D.N D.x) (h1 : -1100 ≤ D.x) (h2 : D.x ≤ 1100) (ng : Bool) :
    dyErr (E : Int) (F : Int) D.s (limbs D.N) D.x m = 0 ∧ dyBits (E : Int) (F : Int) D.s (limbs D.N) D.x ng m = smB E F D ng m ∧ dyFlags (E : Int) (F : Int) D.s (limbs D.N) D.x m = smG E F D m := by
  have hE : dyErr (E : Int) (F : Int) D.s (limbs D.N) D.x m = 0 := by
    unfold dyErr twoB
    rw [if_neg (by simp [hf]), if_neg (by simp [dchk_dy h]), if_neg (by omega)]
  have hz : nearZ D.x (blN D.N) = D.x := by unfold nearZ; omega
  have hn : dyN D.N D.x = upN D.N D.x := by unfold dyN upN; rw [hz]
  have hd : dyD D.N D.x = upD D.x := by unfold dyD upD; rw [hz, Nat.one_mul]
  refine ⟨hE, ?_, ?_⟩
  · unfold dyBits
    rw [if_pos hE, Int.toNat_natCast, Int.toNat_natCast, val_limbs', hn, hd]
    unfold sgBits smB
    by_cases h0 : D.N = 0
    · rw [if_pos h0, if_pos (by rw [h0]; unfold upN; rw [Nat.zero_mul])]
      rfl
    · rw [if_neg h0, if_neg (upN_ne h0 _)]
  · unfold dyFlags
    rw [if_pos hE, Int.toNat_natCast, Int.toNat_natCast, val_limbs', hn, hd]
    unfold sgFlags smG
    by_cases h0 : D.N = 0
    · rw [if_pos h0, if_pos (by rw [h0]; unfold upN; rw [Nat.zero_mul])]
    · rw [if_neg h0, if_neg (upN_ne h0 _)]

end Go.Proofs.YtkifhlgmbckekaaGreatDoor

/-
  soft's plus: two finite floats.
-/
namespace Go.Proofs.YtkifhlgmbckekaaGreatDoor

open Go.RowKit Go.Lb

attribute [local go_sem] Go.World.cell?_alloc_some

theorem taF_yes (v : Value) (W : World) : (Instr.typeAssert (.iface 176 v) 94 176 true).run Tryz.prog W = .ok (.tuple #[v, .bool true]) W := by
  simp [Instr.typeAssert, run_underlying Tryz.underlying176]

set_option maxRecDepth 100000 in
set_option maxHeartbeats 4000000 in
theorem finPlus_fin (pk : Nat) (E F : Int) (s t x y : Bool) (a1 a2 : Option Addr) (n1 n2 c1 c2 m b1 b2 : Nat) (X Y : Int) (xs ys : List Nat) (w : World) (hm : m < 5) (hK : Box3 w pk (.int .i64 E) (.int .i64 F) (.int .u8 (m : Int))) (h1 : Sl w a1 n1 c1 xs) (h2 : Sl w a2 n2 c2 ys) (hT : Tab w)
    (he : (addA s xs X t ys Y).e = 0) (l1 : (limbs (addA s xs X t ys Y).N).length ≤ 400) :
    Calls Tryz.prog 421 #[.agg #[.bool x, .bool s, .slice a1 n1 c1, .int .i64 X, .int .u64 (b1 : Int)], .pointer (some ⟨pk, 0, none⟩), .iface 176 (.agg #[.bool y, .bool t, .slice a2 n2 c2, .int .i64 Y, .int .u64 (b2 : Int)])] w fun en w' => en = .returned (.agg #[.int .u64 (dyBits E F (addA s xs X t ys Y).s (limbs (addA s xs X t ys Y).N) (addA s xs X t ys Y).x (ngS n1 n2 x y m) m : Int), .int .u8 (dyFlags E F (addA s xs X t ys Y).s (limbs (addA s xs X t ys Y).N) (addA s xs X t ys Y).x m : Int), .int .i64 (dyErr E F (addA s xs X t ys Y).s (limbs (addA s xs X t ys Y).N) (addA s xs X t ys Y).x m)]) ∧ Below w.heap.size w w' := by
  have kS : ∀ W, Below w.heap.size w W → Calls Tryz.prog 145 #[.pointer (some ⟨pk, 0, none⟩), .agg #[.bool s, .slice a1 n1 c1, .int .i64 X], .agg #[.bool t, .slice a2 n2 c2, .int .i64 Y], .bool x, .bool y] W _ := fun W hW => kitSum_any pk E F s t x y a1 a2 n1 n2 c1 c2 m X Y xs ys W hm (hK.stay hW) (h1.below hW) (h2.below hW) (hT.below hW) he l1
  generalize dyBits E F (addA s xs X t ys Y).s (limbs (addA s xs X t ys Y).N) (addA s xs X t ys Y).x (ngS n1 n2 x y m) m = B at *
  generalize dyFlags E F (addA s xs X t ys Y).s (limbs (addA s xs X t ys Y).N) (addA s xs X t ys Y).x m = G at *
  generalize dyErr E F (addA s xs X t ys Y).s (limbs (addA s xs X t ys Y).N) (addA s xs X t ys Y).x m = er at *
  obtain ⟨W2, hW2⟩ : ∃ W2 : World, W2 = (w.alloc (.cells #[.bool x, .bool s, .slice a1 n1 c1, .int .i64 X, .int .u64 (b1 : Int)] 176)).alloc (.cells #[.int .u64 0, .int .u8 0, .int .i64 0] 90) := ⟨_, rfl⟩
  have hb2 : Below w.heap.size w W2 := hW2 ▸ more (more (Below.refl _ _) _) _
  have x0 : W2.cell? ⟨w.heap.size, 0, none⟩ = some (.bool x) := by rw [hW2]; simp [World.cell?_alloc_some]
  have x1 : W2.cell? ⟨w.heap.size, 1, none⟩ = some (.bool s) := by rw [hW2]; simp [World.cell?_alloc_some]
  have x2 : W2.cell? ⟨w.heap.size, 2, none⟩ = some (.slice a1 n1 c1) := by rw [hW2]; simp [World.cell?_alloc_some]
  have x3 : W2.cell? ⟨w.heap.size, 3, none⟩ = some (.int .i64 X) := by rw [hW2]; simp [World.cell?_alloc_some]
  have R2 : Box3 W2 (w.heap.size + 1) (.int .u64 0) (.int .u8 0) (.int .i64 0) := by
    have := box3_new (w.alloc (.cells #[.bool x, .bool s, .slice a1 n1 c1, .int .i64 X, .int .u64 (b1 : Int)] 176)) (.int .u64 0) (.int .u8 0) (.int .i64 0) 90
    rw [World.size_alloc] at this
    exact hW2 ▸ this
  have hta := fun W => taF_yes (.agg #[.bool y, .bool t, .slice a2 n2 c2, .int .i64 Y, .int .u64 (b2 : Int)]) W
  clear hK h1 h2 hT he l1
  go_enter Tryz.func421, Tryz.ntmps421
  go_upto_region 1 with fail
  rw [← hW2]
  clear hW2
  go_upto_region 4 with fail
  obtain ⟨W3, hW3⟩ : ∃ W3 : World, W3 = W2.alloc (.cells #[.bool y, .bool t, .slice a2 n2 c2, .int .i64 Y, .int .u64 (b2 : Int)] 176) := ⟨_, rfl⟩
  have hb3 : Below W2.heap.size W2 W3 := hW3 ▸ more (Below.refl _ _) _
  have y0 : W3.cell? ⟨W2.heap.size, 0, none⟩ = some (.bool y) := by rw [hW3]; simp
  have y1 : W3.cell? ⟨W2.heap.size, 1, none⟩ = some (.bool t) := by rw [hW3]; simp
  have y2 : W3.cell? ⟨W2.heap.size, 2, none⟩ = some (.slice a2 n2 c2) := by rw [hW3]; simp
  have y3 : W3.cell? ⟨W2.heap.size, 3, none⟩ = some (.int .i64 Y) := by rw [hW3]; simp
  rw [← hW3]
  clear hW3
  have V3 := next hb2 hb3
  replace x0 := cellStay x0 hb3
  replace x1 := cellStay x1 hb3
  replace x2 := cellStay x2 hb3
  replace x3 := cellStay x3 hb3
  have R3 := R2.stay hb3
  clear R2 hb2 hb3 hta
  generalize W2.heap.size = Q at *
  go_wp2_with fail
  refine (kS W3 V3).mono ?_
  rintro en w4 ⟨rfl, hb4⟩
  have V := next V3 hb4
  have R := R3.stay hb4
  have ⟨r0, r1, r2, _, _, _⟩ := R
  go_wp2
  obtain ⟨t0, t1, t2⟩ := R.set (.int .u64 (B : Int)) (.int .u8 (G : Int)) (.int .i64 er)
  refine bodyPost_ret (v := .agg #[.int .u64 (B : Int), .int .u8 (G : Int), .int .i64 er]) (by simp [results, Tryz.results421, go_sem, t0, t1, t2]) rfl ⟨rfl, ((V.setCell (by simp) _).setCell (by simp) _).setCell (by simp) _⟩

end Go.Proofs.YtkifhlgmbckekaaGreatDoor

