/-
  The reference's Reach of a finite float (numeralref06). (Printed by wip/gen/nearrf.py.)
-/
import Derived.Test.YtfjgmpfpadfknaaGreatDoorQNbBase
import Derived.Test.YtfjgmpfpadfknaaGreatDoorQCNearY
import Derived.Test.YtfjgmpfpadfknaaGreatDoorQCNearW
namespace Go.Proofs.YtfjgmpfpadfknaaGreatDoor

open Go.RowKit Go.Lb

attribute [local go_sem] Go.World.cell?_alloc_some

theorem set3_box2 {w : World} {b p : Nat} {u v : Value} (h : Box2 w b u v) (hne : b ≠ p) (r0 r1 r2 : Value) : Box2 (((w.setCell ⟨p, 0, none⟩ r0).setCell ⟨p, 1, none⟩ r1).setCell ⟨p, 2, none⟩ r2) b u v :=
  ⟨(cell_set3 hne r0 r1 r2).trans h.c0, (cell_set3 hne r0 r1 r2).trans h.c1⟩

/-- Where the answer is told: both dyadics in their boxes, the two results' boxes. -/
structure R41 (w' : World) (base D E s6 s7 : Nat) (d e : Option Addr) (dn dc en ec : Nat) (ds es : Bool) (dN eN : Nat) (dx ex : Int) : Prop where
  bd : Box3 w' D (.bool ds) (.slice d dn dc) (.int .i64 dx)
  be : Box3 w' E (.bool es) (.slice e en ec) (.int .i64 ex)
  df : Fr 75 w' base d dn dc (limbs dN)
  ef : Fr 75 w' base e en ec (limbs eN)
  r6 : Res3 w' s6
  r7 : Res3 w' s7

theorem R41.stay {w w' : World} {base D E s6 s7 : Nat} {d e : Option Addr} {dn dc en ec : Nat} {ds es : Bool} {dN eN : Nat} {dx ex : Int} (h : R41 w base D E s6 s7 d e dn dc en ec ds es dN eN dx ex) (hb : Below w.heap.size w w') : R41 w' base D E s6 s7 d e dn dc en ec ds es dN eN dx ex :=
  ⟨h.bd.stay hb, h.be.stay hb, h.df.below hb, h.ef.below hb, (h.r6.box.stay hb).res, (h.r7.box.stay hb).res⟩

theorem R41.put {w : World} {base D E s6 s7 p : Nat} {d e : Option Addr} {dn dc en ec : Nat} {ds es : Bool} {dN eN : Nat} {dx ex : Int} (h : R41 w base D E s6 s7 d e dn dc en ec ds es dN eN dx ex) (hD : base ≤ D) (hE : base ≤ E) (h6 : s6 < base) (h7 : s7 < base) (hne : s6 ≠ s7) (hp : p = s6 ∨ p = s7) (u v y : Value) :
    R41 (((w.setCell ⟨p, 0, none⟩ u).setCell ⟨p, 1, none⟩ v).setCell ⟨p, 2, none⟩ y) base D E s6 s7 d e dn dc en ec ds es dN eN dx ex := by
  have hpb : p < base := by rcases hp with rfl | rfl <;> assumption
  refine ⟨set3_other h.bd (by omega) _ _ _, set3_other h.be (by omega) _ _ _, set3_fr h.df (fun hg => by have := (fr_in h.df hg).1; omega) _ _ _, set3_fr h.ef (fun hg => by have := (fr_in h.ef hg).1; omega) _ _ _, ?_, ?_⟩
  · rcases hp with rfl | rfl
    · exact (box3_put h.r6.box _ _ _).res
    · exact (set3_other h.r6.box hne _ _ _).res
  · rcases hp with rfl | rfl
    · exact (set3_other h.r7.box hne.symm _ _ _).res
    · exact (box3_put h.r7.box _ _ _).res

set_option maxRecDepth 100000 in
set_option maxHeartbeats 8000000 in
theorem rreach6_ok (e f b m : Nat) (w : World) (h : fitsE (e : Int) (f : Int) b = 0) (hx : exN e f b ≠ maskN e) (hm : m < 5) :
    Calls Tryz.prog 12 #[.agg #[.int .i64 (e : Int), .int .i64 (f : Int)], .int .u64 (b : Int), .int .u8 (m : Int)] w (RchG (sgB e f b) (rcI e f (mgN e f b) (seM m (sgB e f b))) (rcO e f (mgN e f b) (seM m (sgB e f b))) (rci (mgN e f b) (seM m (sgB e f b))) (rco (mgN e f b) (seM m (sgB e f b))) w) := by
  obtain ⟨hf, hp1⟩ := fitsE_parts h
  replace hp1 : b < pw (1 + e + f) := hp1
  obtain ⟨hk, hP⟩ := top63 hf
  have hPp := pw_pos (e + f)
  have h2p : b < 2 * pw (e + f) := by rw [pw_one_more] at hp1; exact hp1
  have hb : b < 18446744073709551616 := by omega
  have hml := mg_lt e f b
  obtain ⟨hv, hs0, hx'⟩ := val_turned hf hp1 hx
  obtain ⟨rr1, rr2, rr3, rr4, rr5⟩ := ref_reach hf hp1 hx
  obtain ⟨rs1, rs2, dv, dbf, dfa, rm1, rm2⟩ := rc_s hf hml hx' (seM m (sgB e f b))
  obtain ⟨dI, gI, dO, gO⟩ := mean_bds hf hml hx' (seM m (sgB e f b))
  obtain ⟨b1, b2, b3, b4⟩ := base_small hf
  rw [rs1] at dI
  rw [rs2] at dO
  have hrI := fun W => rat6 (ng_dy (g := sgB e f b) dI) (b := baseI e f - 1) (K := 4000) gI (by omega) (by omega) (by omega) W
  have hrO := fun W => rat6 (ng_dy (g := sgB e f b) dO) (b := baseI e f - 1) (K := 4000) gO (by omega) (by omega) (by omega) W
  have cF := fun W => refFits3_any (e : Int) (f : Int) b W hb
  rw [h] at cF
  have cX := fun W => refFinite3_any e f b W hf hb hp1
  rw [decide_eq_true hx] at cX
  have cH := fun W => half6_any e f W hf
  have cW := fun W => worth6_any (e : Int) (f : Int) b W hb
  have hvS : valS (e : Int) (f : Int) b = (ngD (sgB e f b) (valD (e : Int) (f : Int) (mgN e f b))).s ∧ valN (e : Int) (f : Int) b = (ngD (sgB e f b) (valD (e : Int) (f : Int) (mgN e f b))).N ∧ valX (e : Int) (f : Int) b = (ngD (sgB e f b) (valD (e : Int) (f : Int) (mgN e f b))).x := ⟨congrArg Ds.s hv, congrArg Ds.N hv, congrArg Ds.x hv⟩
  rw [hvS.1, hvS.2.1, hvS.2.2] at cW
  have cB := fun W => beyond6_any e f b (ngD (sgB e f b) (faD e f (mgN e f b))) W hf hb hp1 rr1.symm
  have cW1 : mgN e f b ≠ 0 → ∀ W, Calls Tryz.prog 57 #[.agg #[.int .i64 (e : Int), .int .i64 (f : Int)], .int .u64 ((b - 1 : Nat) : Int)] W (Dy1 (ngD (sgB e f b) (bfD e f (mgN e f b))).s (ngD (sgB e f b) (bfD e f (mgN e f b))).N (ngD (sgB e f b) (bfD e f (mgN e f b))).x W) := fun h0 W => by
    rw [if_pos h0] at rr5
    have := worth6_any (e : Int) (f : Int) (b - 1) W (by omega)
    rw [← rr5]
    exact this
  have hW0 : mgN e f b = 0 → (ngD (sgB e f b) (bfD e f (mgN e f b))) = (ngD (sgB e f b) (valD (e : Int) (f : Int) (mgN e f b))) := fun h0 => by
    rw [if_neg (by simp [h0])] at rr5
    rw [← rr5, hv]
  have cMi := fun a1 a2 n1 n2 c1 c2 W (j1 : Sl W a1 n1 c1 (limbs (ngD (sgB e f b) (bfD e f (mgN e f b))).N)) (j2 : Sl W a2 n2 c2 (limbs (ngD (sgB e f b) (valD (e : Int) (f : Int) (mgN e f b))).N)) => mean6_any (ngD (sgB e f b) (bfD e f (mgN e f b))) (ngD (sgB e f b) (valD (e : Int) (f : Int) (mgN e f b))) _ (ngD (sgB e f b) (meA (bfD e f (mgN e f b)) (valD (e : Int) (f : Int) (mgN e f b)))) a1 a2 n1 n2 c1 c2 W j1 j2 rfl (rm1 _).symm
  have cMo := fun a1 a2 n1 n2 c1 c2 W (j1 : Sl W a1 n1 c1 (limbs (ngD (sgB e f b) (valD (e : Int) (f : Int) (mgN e f b))).N)) (j2 : Sl W a2 n2 c2 (limbs (ngD (sgB e f b) (faD e f (mgN e f b))).N)) => mean6_any (ngD (sgB e f b) (valD (e : Int) (f : Int) (mgN e f b))) (ngD (sgB e f b) (faD e f (mgN e f b))) _ (ngD (sgB e f b) (meA (valD (e : Int) (f : Int) (mgN e f b)) (faD e f (mgN e f b)))) a1 a2 n1 n2 c1 c2 W j1 j2 rfl (rm2 _).symm
  have hM2 : seM m (sgB e f b) = 2 → ngD (sgB e f b) (rcI e f (mgN e f b) (seM m (sgB e f b))) = ngD (sgB e f b) (valD (e : Int) (f : Int) (mgN e f b)) ∧ ngD (sgB e f b) (rcO e f (mgN e f b) (seM m (sgB e f b))) = ngD (sgB e f b) (faD e f (mgN e f b)) ∧ rci (mgN e f b) (seM m (sgB e f b)) = true ∧ rco (mgN e f b) (seM m (sgB e f b)) = false := fun h => by rw [h]; exact ⟨rfl, rfl, rfl, rfl⟩
  have hM3 : seM m (sgB e f b) = 3 → ngD (sgB e f b) (rcI e f (mgN e f b) (seM m (sgB e f b))) = ngD (sgB e f b) (bfD e f (mgN e f b)) ∧ ngD (sgB e f b) (rcO e f (mgN e f b) (seM m (sgB e f b))) = ngD (sgB e f b) (valD (e : Int) (f : Int) (mgN e f b)) ∧ rci (mgN e f b) (seM m (sgB e f b)) = decide (mgN e f b = 0) ∧ rco (mgN e f b) (seM m (sgB e f b)) = true := fun h => by rw [h]; exact ⟨rfl, rfl, rfl, rfl⟩
  have hM1 : seM m (sgB e f b) = 1 → ngD (sgB e f b) (rcI e f (mgN e f b) (seM m (sgB e f b))) = ngD (sgB e f b) (meA (bfD e f (mgN e f b)) (valD (e : Int) (f : Int) (mgN e f b))) ∧ ngD (sgB e f b) (rcO e f (mgN e f b) (seM m (sgB e f b))) = ngD (sgB e f b) (meA (valD (e : Int) (f : Int) (mgN e f b)) (faD e f (mgN e f b))) ∧ rci (mgN e f b) (seM m (sgB e f b)) = true ∧ rco (mgN e f b) (seM m (sgB e f b)) = false := fun h => by rw [h]; exact ⟨rfl, rfl, rfl, rfl⟩
  have hM0 : seM m (sgB e f b) = 0 → ngD (sgB e f b) (rcI e f (mgN e f b) (seM m (sgB e f b))) = ngD (sgB e f b) (meA (bfD e f (mgN e f b)) (valD (e : Int) (f : Int) (mgN e f b))) ∧ ngD (sgB e f b) (rcO e f (mgN e f b) (seM m (sgB e f b))) = ngD (sgB e f b) (meA (valD (e : Int) (f : Int) (mgN e f b)) (faD e f (mgN e f b))) ∧ rci (mgN e f b) (seM m (sgB e f b)) = decide (mgN e f b % 2 = 0) ∧ rco (mgN e f b) (seM m (sgB e f b)) = decide (mgN e f b % 2 = 0) := fun h => by rw [h]; exact ⟨rfl, rfl, rfl, rfl⟩
  have hMl := seM_lt hm (sgB e f b)
  have hpost : ∀ en w', (if sgB e f b = true then Rch (ngD (sgB e f b) (rcO e f (mgN e f b) (seM m (sgB e f b)))).s (ngD (sgB e f b) (rcI e f (mgN e f b) (seM m (sgB e f b)))).s (ngD (sgB e f b) (rcO e f (mgN e f b) (seM m (sgB e f b)))) (ngD (sgB e f b) (rcI e f (mgN e f b) (seM m (sgB e f b)))) (rco (mgN e f b) (seM m (sgB e f b))) (rci (mgN e f b) (seM m (sgB e f b))) w en w' else Rch (ngD (sgB e f b) (rcI e f (mgN e f b) (seM m (sgB e f b)))).s (ngD (sgB e f b) (rcO e f (mgN e f b) (seM m (sgB e f b)))).s (ngD (sgB e f b) (rcI e f (mgN e f b) (seM m (sgB e f b)))) (ngD (sgB e f b) (rcO e f (mgN e f b) (seM m (sgB e f b)))) (rci (mgN e f b) (seM m (sgB e f b))) (rco (mgN e f b) (seM m (sgB e f b))) w en w') → RchG (sgB e f b) (rcI e f (mgN e f b) (seM m (sgB e f b))) (rcO e f (mgN e f b) (seM m (sgB e f b))) (rci (mgN e f b) (seM m (sgB e f b))) (rco (mgN e f b) (seM m (sgB e f b))) w en w' := fun en w' hh => by
    generalize sgB e f b = g at hh ⊢
    cases g
    · exact hh
    · have h1 : ∀ D : Ds, (ngD true D).s = decide (D.N ≠ 0) := fun D => Bool.true_and _
      rw [if_pos rfl, h1, h1] at hh
      exact hh
  refine Calls.mono ?_ hpost
  clear hpost
  have hsg : decide (pw (e + f) ≤ b) = sgB e f b := (sg_iff hp1).symm
  have htm : (b : Int).tmod (pw (e + f) : Int) = (mgN e f b : Int) := by
    rw [Int.tmod_eq_emod_of_nonneg (by omega)]
    exact (Int.natCast_emod b (pw (e + f))).symm
  have htw : IntKind.u64.wrap (mgN e f b : Int) = (mgN e f b : Int) := by rw [IntKind.wrap_u64]; omega
  have hz : ¬ ((pw (e + f) : Int) = 0) := by omega
  have ht2 : (b : Int).tmod 2 = ((mgN e f b % 2 : Nat) : Int) := by
    have h1 := mg_eq hp1
    have h3 : pw (e + f) % 2 = 0 := by
      obtain ⟨q1, _, _, _⟩ := formE_ok hf
      unfold pw
      obtain ⟨k, hk⟩ : ∃ k, e + f = k + 1 := ⟨e + f - 1, by omega⟩
      rw [hk, Nat.pow_succ]
      omega
    have h4 : b % 2 = mgN e f b % 2 := by
      cases hs : sgB e f b <;> rw [hs] at h1 <;> simp at h1 <;> omega
    rw [Int.tmod_eq_emod_of_nonneg (by omega)]
    omega
  have ht2w : IntKind.u64.wrap ((mgN e f b % 2 : Nat) : Int) = ((mgN e f b % 2 : Nat) : Int) := by rw [IntKind.wrap_u64]; omega
  have hw1 : 0 < mgN e f b → IntKind.u64.wrap ((b : Int) - 1) = ((b - 1 : Nat) : Int) := fun h0 => by
    have : mgN e f b ≤ b := Nat.mod_le _ _
    rw [IntKind.wrap_u64]; omega
  have hsm : seM m (sgB e f b) = if m = 3 ∧ sgB e f b = true ∨ m = 4 ∧ sgB e f b = false then 2 else if m = 4 then 3 else m := rfl
  have kI := fun ao n c W (j : Sl W ao n c (limbs (ngD (sgB e f b) (rcI e f (mgN e f b) (seM m (sgB e f b)))).N)) => ratio6_any _ ao n c (ngD (sgB e f b) (rcI e f (mgN e f b) (seM m (sgB e f b)))).x _ _ _ W j hrI
  have kO := fun ao n c W (j : Sl W ao n c (limbs (ngD (sgB e f b) (rcO e f (mgN e f b) (seM m (sgB e f b)))).N)) => ratio6_any _ ao n c (ngD (sgB e f b) (rcO e f (mgN e f b) (seM m (sgB e f b)))).x _ _ _ W j hrO
  have HM0 := Lib.hid hM0
  have HM1 := Lib.hid hM1
  have HM2 := Lib.hid hM2
  have HM3 := Lib.hid hM3
  have HW0 := Lib.hid hW0
  have HSM := Lib.hid hsm
  have HW1 := Lib.hid hw1
  unfold Dy1 at cW cB cMi cMo cW1
  unfold Ra1 at kI kO
  unfold Rch
  clear hM0 hM1 hM2 hM3 hW0 hsm hw1 hrI hrO dI gI dO gO rs1 rs2 dv dbf dfa rm1 rm2 rr1 rr2 rr3 rr4 rr5 hv hs0 hx' hx hvS b1 b2 b3 b4 hp1 h2p hml hk hP hPp hf h
  generalize ngD (sgB e f b) (rcI e f (mgN e f b) (seM m (sgB e f b))) = IF at *
  generalize ngD (sgB e f b) (rcO e f (mgN e f b) (seM m (sgB e f b))) = OF at *
  generalize ngD (sgB e f b) (meA (bfD e f (mgN e f b)) (valD (e : Int) (f : Int) (mgN e f b))) = MI at *
  generalize ngD (sgB e f b) (meA (valD (e : Int) (f : Int) (mgN e f b)) (faD e f (mgN e f b))) = MO at *
  generalize ngD (sgB e f b) (bfD e f (mgN e f b)) = NR at *
  generalize ngD (sgB e f b) (valD (e : Int) (f : Int) (mgN e f b)) = AT at *
  generalize ngD (sgB e f b) (faD e f (mgN e f b)) = FA at *
  generalize rci (mgN e f b) (seM m (sgB e f b)) = ri at *
  generalize rco (mgN e f b) (seM m (sgB e f b)) = ro at *
  generalize seM m (sgB e f b) = M at *
  generalize sgB e f b = G at *
  generalize mgN e f b = B at *
  generalize pw (e + f) = T at *
  obtain ⟨W2, hW2⟩ : ∃ W2 : World, W2 = ((w.alloc (.cells #[.int .i64 (e : Int), .int .i64 (f : Int)] 23)).alloc (.cells #[.bool false, .slice none 0 0, .slice none 0 0] 30)).alloc (.cells #[.bool false, .slice none 0 0, .slice none 0 0] 30) := ⟨_, rfl⟩
  have hb2 : Below w.heap.size w W2 := hW2 ▸ more (more (more (Below.refl _ _) _) _) _
  have F2 : Box2 W2 w.heap.size (.int .i64 (e : Int)) (.int .i64 (f : Int)) := by
    rw [hW2]; exact ((box2_new w _ _ _).alloc _).alloc _
  have R2 : Box3 W2 (w.heap.size + 1) (.bool false) (.slice none 0 0) (.slice none 0 0) := by
    have := (box3_new (w.alloc (.cells #[.int .i64 (e : Int), .int .i64 (f : Int)] 23)) (.bool false) (.slice none 0 0) (.slice none 0 0) 30).alloc (.cells #[.bool false, .slice none 0 0, .slice none 0 0] 30)
    rw [World.size_alloc] at this
    exact hW2 ▸ this
  have S2 : Box3 W2 (w.heap.size + 1 + 1) (.bool false) (.slice none 0 0) (.slice none 0 0) := by
    have := box3_new ((w.alloc (.cells #[.int .i64 (e : Int), .int .i64 (f : Int)] 23)).alloc (.cells #[.bool false, .slice none 0 0, .slice none 0 0] 30)) (.bool false) (.slice none 0 0) (.slice none 0 0) 30
    rw [World.size_alloc, World.size_alloc] at this
    exact hW2 ▸ this
  have hmI : ¬ (4 : Int) < (m : Int) := by omega
  have lS := S2.lt
  have ⟨f0, f1⟩ := F2
  go_enter Tryz.func12, Tryz.ntmps12
  go_upto_region 1 with fail
  rw [← hW2]
  clear hW2
  go_wp2_with fail
  refine (cF W2).mono ?_
  rintro en w3 ⟨rfl, hb3⟩
  have F3 := F2.stay hb3
  clear f0 f1 cF
  have ⟨f0, f1⟩ := F3
  go_wp2_with fail
  refine (cX w3).mono ?_
  rintro en w4 ⟨rfl, hb4⟩
  have F4 := F3.stay hb4
  clear f0 f1 cX
  have ⟨f0, f1⟩ := F4
  go_wp2_with fail
  refine (cH w4).mono ?_
  rintro en w5 ⟨rfl, hb5⟩
  have F5 := F4.stay hb5
  have h25 := next (next hb3 hb4) hb5
  clear f0 f1 F3 F4 hb3 hb4 hb5
  have ⟨f0, f1⟩ := F5
  go_wp2_with fail
  refine (cW w5).mono ?_
  rintro en w6 ⟨aa, an, ac, rfl, aF, hb6⟩
  have s6 := more hb6 (.cells #[.bool AT.s, .slice aa an ac, .int .i64 AT.x] 41)
  have A6 := box3_new w6 (.bool AT.s) (.slice aa an ac) (.int .i64 AT.x) 41
  have aG := aF.alloc (.cells #[.bool AT.s, .slice aa an ac, .int .i64 AT.x] 41)
  have F6 := F5.stay s6
  go_upto_region 10 with fail
  obtain ⟨b13, h13⟩ : ∃ q, q = w6.heap.size := ⟨_, rfl⟩
  rw [← h13] at A6 ⊢
  have l13 : W2.heap.size ≤ b13 := by have := h25.size; have := hb6.size; omega
  have h26 := next h25 s6
  clear h13 cW aF hb6 s6 F5 f0 f1 F2
  generalize w6.alloc (.cells #[.bool AT.s, .slice aa an ac, .int .i64 AT.x] 41) = w7 at *
  have ⟨f0, f1⟩ := F6
  go_wp2_with fail
  refine (cB w7).mono ?_
  rintro en w8 ⟨ba, bn, bc, rfl, bF, hb8⟩
  have s8 := more (more hb8 (.cells #[.bool FA.s, .slice ba bn bc, .int .i64 FA.x] 41)) (.cells #[.bool AT.s, .slice aa an ac, .int .i64 AT.x] 41)
  have B8 := (box3_new w8 (.bool FA.s) (.slice ba bn bc) (.int .i64 FA.x) 41).alloc (.cells #[.bool AT.s, .slice aa an ac, .int .i64 AT.x] 41)
  have C8 : Box3 ((w8.alloc (.cells #[.bool FA.s, .slice ba bn bc, .int .i64 FA.x] 41)).alloc (.cells #[.bool AT.s, .slice aa an ac, .int .i64 AT.x] 41)) (w8.heap.size + 1) (.bool AT.s) (.slice aa an ac) (.int .i64 AT.x) := by
    have := box3_new (w8.alloc (.cells #[.bool FA.s, .slice ba bn bc, .int .i64 FA.x] 41)) (.bool AT.s) (.slice aa an ac) (.int .i64 AT.x) 41
    rw [World.size_alloc] at this
    exact this
  have bG := (bF.alloc (.cells #[.bool FA.s, .slice ba bn bc, .int .i64 FA.x] 41)).alloc (.cells #[.bool AT.s, .slice aa an ac, .int .i64 AT.x] 41)
  have F8 := F6.stay s8
  have A8 := A6.stay s8
  have aK := aG.below s8
  have ⟨x0, x1, x2, _, _, _⟩ := A6.stay hb8
  go_upto_region 12 with fail
  obtain ⟨b14, h14⟩ : ∃ q, q = w8.heap.size := ⟨_, rfl⟩
  have l14 : b13 < b14 := by have := A6.lt; have := hb8.size; omega
  have l2 : W2.heap.size ≤ w7.heap.size := h26.size
  have l25 : W2.heap.size ≤ w5.heap.size := h25.size
  have iA : ∀ g, blkOf aa = some g → g < b14 := fun g hg => by have := (fr_in aG hg).2; have := hb8.size; omega
  have iB : ∀ g, blkOf ba = some g → g < b14 := fun g hg => by have := (fr_in bF hg).2; omega
  have V8 := next h26 s8
  have R8 := R2.stay V8
  have S8 := S2.stay V8
  have aN := aK.mono l25
  have bN := bG.mono l2
  have lS8 := S8.lt
  rw [← h14] at B8 C8 ⊢
  clear h14 hb8 s8 aG bG aK bF A6 F6 cB h26 f0 f1 x0 x1 x2 R2 S2 h25 l25 l2
  generalize (w8.alloc (.cells #[.bool FA.s, .slice ba bn bc, .int .i64 FA.x] 41)).alloc (.cells #[.bool AT.s, .slice aa an ac, .int .i64 AT.x] 41) = wA at *
  have ⟨f0, f1⟩ := F8
  go_wp2_with fail
  refine (cH wA).mono ?_
  rintro en wB ⟨rfl, hbB⟩
  have F9 := F8.stay hbB
  have R9 := R8.stay hbB
  have S9 := S8.stay hbB
  have A9 := A8.stay hbB
  have B9 := B8.stay hbB
  have C9 := C8.stay hbB
  have aO := aN.below hbB
  have bO := bN.below hbB
  have V9 := next V8 hbB
  have l9 : b14 + 1 < wB.heap.size := C9.lt
  clear F8 R8 S8 A8 B8 C8 aN bN V8 f0 f1 hbB lS8
  have ⟨f0, f1⟩ := F9
  have ⟨y0, y1, y2, yz0, yz1, yz2⟩ := C9
  go_upto_if 57 with fail
  go_cut [10] from 53 to 61 (fun v10 wx => ∃ na nn nc, v10 = .int .i64 0 ∧ Below W2.heap.size W2 wx ∧ Box2 wx w.heap.size (.int .i64 (e : Int)) (.int .i64 (f : Int)) ∧ Box3 wx (w.heap.size + 1) (.bool false) (.slice none 0 0) (.slice none 0 0) ∧ Box3 wx (w.heap.size + 1 + 1) (.bool false) (.slice none 0 0) (.slice none 0 0) ∧ Box3 wx b13 (.bool AT.s) (.slice aa an ac) (.int .i64 AT.x) ∧ Box3 wx b14 (.bool FA.s) (.slice ba bn bc) (.int .i64 FA.x) ∧ Box3 wx (b14 + 1) (.bool NR.s) (.slice na nn nc) (.int .i64 NR.x) ∧ Fr 75 wx W2.heap.size aa an ac (limbs AT.N) ∧ Fr 75 wx W2.heap.size ba bn bc (limbs FA.N) ∧ Fr 75 wx W2.heap.size na nn nc (limbs NR.N) ∧ b14 + 1 < wx.heap.size)
  case first =>
    by_cases h0 : B = 0
    · have e0 := HW0.out h0
      have hn : ¬ (0 : Int) < (B : Int) := by omega
      go_wp2
      go_meet
      subst e0
      exact ⟨aa, an, ac, rfl, V9, F9, R9, S9, A9, B9, C9, aO, bO, aO, l9⟩
    · have hgt : (0 : Int) < (B : Int) := by omega
      have w1 := HW1.out (by omega)
      go_wp2_with fail
      refine (cW1 h0 wB).mono ?_
      rintro en wC ⟨na, nn, nc, rfl, nF, hbC⟩
      have C10 := C9.stay hbC
      have nM := nF.mono V9.size
      have inN : ∀ g, blkOf na = some g → wB.heap.size ≤ g := fun g hg => (fr_in nF hg).1
      clear y0 y1 y2 yz0 yz1 yz2
      have ⟨y0, y1, y2, yz0, yz1, yz2⟩ := C10
      go_wp2
      go_meet
      have lC := hbC.size
      have l2 := V9.size
      refine ⟨na, nn, nc, rfl, ?_, set3_box2 (F9.stay hbC) (show w.heap.size ≠ b14 + 1 by omega) _ _ _, set3_other (R9.stay hbC) (by omega) _ _ _, set3_other (S9.stay hbC) (by omega) _ _ _, set3_other (A9.stay hbC) (by omega) _ _ _, set3_other (B9.stay hbC) (by omega) _ _ _, box3_put C10 _ _ _, set3_fr (aO.below hbC) (fun hg => by have := iA _ hg; omega) _ _ _, set3_fr (bO.below hbC) (fun hg => by have := iB _ hg; omega) _ _ _, set3_fr nM (fun hg => by have := inN _ hg; omega) _ _ _, ?_⟩
      · exact (((next V9 hbC).setCell (by simp; omega) _).setCell (by simp; omega) _).setCell (by simp; omega) _
      · simp; omega
  case rest =>
    clear V9 F9 R9 S9 A9 B9 C9 aO bO f0 f1 y0 y1 y2 yz0 yz1 yz2 l9
    obtain ⟨na, nn, nc, rfl, V9, F9, R9, S9, A9, B9, C9, aF, bF, nF, l9⟩ := hcut
    go_step
    go_step
    go_cut [2, 10] from 62 to 73 (fun v2 v10 wx => v2 = .int .u8 (M : Int) ∧ v10 = .int .i64 0 ∧ wx = wc)
    case first =>
      cases G
      · by_cases h4 : m = 4
        · have hM : M = 2 := by rw [HSM.out]; simp [h4]
          have e3 : ((m : Int) = 3) = False := eq_false (by omega)
          have e4 : ((m : Int) = 4) = True := eq_true (by omega)
          have d3 : ((m : Int) == 3) = false := by simp; omega
          have d4 : ((m : Int) == 4) = true := by simp; omega
          clear h4
          go_wp2
          go_meet
          exact ⟨by rw [hM]; rfl, rfl, rfl⟩
        · have hM : M = m := by rw [HSM.out]; simp [h4]
          have e4 : ((m : Int) = 4) = False := eq_false (by omega)
          have d4 : ((m : Int) == 4) = false := by simp; omega
          go_wp2
          go_meet
          exact ⟨by rw [hM], rfl, rfl⟩
      · by_cases h3 : m = 3
        · have hM : M = 2 := by rw [HSM.out]; simp [h3]
          have e3 : ((m : Int) = 3) = True := eq_true (by omega)
          have d3 : ((m : Int) == 3) = true := by simp; omega
          clear h3
          go_wp2
          go_meet
          exact ⟨by rw [hM]; rfl, rfl, rfl⟩
        · have e3 : ((m : Int) = 3) = False := eq_false (by omega)
          have d3 : ((m : Int) == 3) = false := by simp; omega
          by_cases h4 : m = 4
          · have hM : M = 3 := by rw [HSM.out]; simp [h4]
            have e4 : ((m : Int) = 4) = True := eq_true (by omega)
            have d4 : ((m : Int) == 4) = true := by simp; omega
            clear h4
            go_wp2
            go_meet
            exact ⟨by rw [hM]; rfl, rfl, rfl⟩
          · have hM : M = m := by rw [HSM.out]; simp [h3, h4]
            have e4 : ((m : Int) = 4) = False := eq_false (by omega)
            have d4 : ((m : Int) == 4) = false := by simp; omega
            go_wp2
            go_meet
            exact ⟨by rw [hM], rfl, rfl⟩
    case rest =>
      obtain ⟨rfl, rfl, hw⟩ := hcut
      subst hw
      have ⟨x0, x1, x2, _, _, _⟩ := A9
      have ⟨y0, y1, y2, _, _, _⟩ := C9
      go_wp2_with fail
      refine (cMi _ _ _ _ _ _ _ nF.sl aF.sl).mono ?_
      rintro en wD ⟨ia, ik, ic, rfl, iF, hbD⟩
      have iG := (iF.mono V9.size).alloc (.cells #[.bool MI.s, .slice ia ik ic, .int .i64 MI.x] 41)
      have sD := more hbD (.cells #[.bool MI.s, .slice ia ik ic, .int .i64 MI.x] 41)
      have D10 := box3_new wD (.bool MI.s) (.slice ia ik ic) (.int .i64 MI.x) 41
      have F10 := F9.stay sD
      have R10 := R9.stay sD
      have S10 := S9.stay sD
      have A10 := A9.stay sD
      have B10 := B9.stay sD
      have C10 := C9.stay sD
      have aG := aF.below sD
      have bG := bF.below sD
      have nG := nF.below sD
      have V10 := next V9 sD
      have lD : b14 + 1 < wD.heap.size := by have := hbD.size; omega
      have iN : ∀ g, blkOf na = some g → g < wD.heap.size := fun g hg => by have := (fr_in nF hg).2; have := hbD.size; omega
      clear F9 R9 S9 A9 B9 C9 aF bF nF V9 iF sD hbD x0 x1 x2 y0 y1 y2 l9 cMi
      go_upto_region 21 with fail
      obtain ⟨b16, h16⟩ : ∃ q, q = wD.heap.size := ⟨_, rfl⟩
      rw [← h16] at D10 lD iN ⊢
      clear h16
      generalize wD.alloc (.cells #[.bool MI.s, .slice ia ik ic, .int .i64 MI.x] 41) = wE at *
      have ⟨x0, x1, x2, _, _, _⟩ := A10
      have ⟨y0, y1, y2, _, _, _⟩ := B10
      go_wp2_with fail
      refine (cMo _ _ _ _ _ _ _ aG.sl bG.sl).mono ?_
      rintro en wF ⟨oa, ok, oc, rfl, oF, hbF⟩
      have oG := (oF.mono V10.size).alloc (.cells #[.bool MO.s, .slice oa ok oc, .int .i64 MO.x] 41)
      have sF := more hbF (.cells #[.bool MO.s, .slice oa ok oc, .int .i64 MO.x] 41)
      have E11 := box3_new wF (.bool MO.s) (.slice oa ok oc) (.int .i64 MO.x) 41
      have F11 := F10.stay sF
      have R11 := R10.stay sF
      have S11 := S10.stay sF
      have A11 := A10.stay sF
      have B11 := B10.stay sF
      have C11 := C10.stay sF
      have D11 := D10.stay sF
      have aH := aG.below sF
      have bH := bG.below sF
      have nH := nG.below sF
      have iH := iG.below sF
      have V11 := next V10 sF
      have lF : b16 < wF.heap.size := by have := hbF.size; have := D10.lt; omega
      clear F10 R10 S10 A10 B10 C10 D10 aG bG nG iG V10 oF sF hbF x0 x1 x2 y0 y1 y2 cMo
      go_upto_region 22 with fail
      obtain ⟨b17, h17⟩ : ∃ q, q = wF.heap.size := ⟨_, rfl⟩
      rw [← h17] at E11 lF ⊢
      clear h17
      generalize wF.alloc (.cells #[.bool MO.s, .slice oa ok oc, .int .i64 MO.x] 41) = wG at *
      go_upto_block 0 with fail
      have lG := E11.lt
      have lS := S11.lt
      have lV := V11.size
      have mA : ∀ g, blkOf aa = some g → g < b14 := iA
      go_cut [10, 18, 19] from 87 to 96 (fun v10 v18 v19 wx => ∃ da dn dc ea en ec q, v10 = .int .i64 0 ∧ v18 = .bool q ∧ v19 = .bool ro ∧ (B ≠ 0 → q = ri) ∧ (B = 0 → ri = true) ∧ Below W2.heap.size W2 wx ∧ Box2 wx w.heap.size (.int .i64 (e : Int)) (.int .i64 (f : Int)) ∧ Box3 wx (w.heap.size + 1) (.bool false) (.slice none 0 0) (.slice none 0 0) ∧ Box3 wx (w.heap.size + 1 + 1) (.bool false) (.slice none 0 0) (.slice none 0 0) ∧ Box3 wx b16 (.bool IF.s) (.slice da dn dc) (.int .i64 IF.x) ∧ Box3 wx b17 (.bool OF.s) (.slice ea en ec) (.int .i64 OF.x) ∧ Fr 75 wx W2.heap.size da dn dc (limbs IF.N) ∧ Fr 75 wx W2.heap.size ea en ec (limbs OF.N))
      case first =>
        rcases (show M = 0 ∨ M = 1 ∨ M = 2 ∨ M = 3 by omega) with hM | hM | hM | hM
        · obtain ⟨e1, e2, e3, e4⟩ := HM0.out hM
          have k1 : ((M : Int) = 1) = False := eq_false (by omega)
          have q1 : ((M : Int) == 1) = false := by simp; omega
          have k2 : ((M : Int) = 2) = False := eq_false (by omega)
          have q2 : ((M : Int) == 2) = false := by simp; omega
          have k3 : ((M : Int) = 3) = False := eq_false (by omega)
          have q3 : ((M : Int) == 3) = false := by simp; omega
          clear hM
          go_wp2
          go_meet
          subst e1 e2
          have hp : ((B : Int) % 2 == 0) = decide (B % 2 = 0) := by rw [Bool.eq_iff_iff]; simp only [beq_iff_eq, decide_eq_true_eq]; omega
          exact ⟨ia, ik, ic, oa, ok, oc, _, rfl, rfl, by rw [e4, hp], fun _ => by rw [e3, hp], fun h => by rw [e3]; simp [h], V11, F11, R11, S11, D11, E11, iH, oG⟩
        · obtain ⟨e1, e2, e3, e4⟩ := HM1.out hM
          have k1 : ((M : Int) = 1) = True := eq_true (by omega)
          have q1 : ((M : Int) == 1) = true := by simp; omega
          have k2 : ((M : Int) = 2) = False := eq_false (by omega)
          have q2 : ((M : Int) == 2) = false := by simp; omega
          have k3 : ((M : Int) = 3) = False := eq_false (by omega)
          have q3 : ((M : Int) == 3) = false := by simp; omega
          clear hM
          go_wp2
          go_meet
          subst e1 e2
          exact ⟨ia, ik, ic, oa, ok, oc, _, rfl, rfl, by rw [e4], fun _ => by rw [e3], fun h => by rw [e3], V11, F11, R11, S11, D11, E11, iH, oG⟩
        · obtain ⟨e1, e2, e3, e4⟩ := HM2.out hM
          have k1 : ((M : Int) = 1) = False := eq_false (by omega)
          have q1 : ((M : Int) == 1) = false := by simp; omega
          have k2 : ((M : Int) = 2) = True := eq_true (by omega)
          have q2 : ((M : Int) == 2) = true := by simp; omega
          have k3 : ((M : Int) = 3) = False := eq_false (by omega)
          have q3 : ((M : Int) == 3) = false := by simp; omega
          clear hM
          have ⟨x0, x1, x2, _, _, _⟩ := A11
          have ⟨y0, y1, y2, yz0, yz1, yz2⟩ := D11
          go_upto_region 30 with fail
          have A12 := set3_other B11 (show b14 ≠ b16 by omega) (.bool AT.s) (.slice aa an ac) (.int .i64 AT.x)
          have D12 := box3_put D11 (.bool AT.s) (.slice aa an ac) (.int .i64 AT.x)
          have E12 := set3_other E11 (show b17 ≠ b16 by omega) (.bool AT.s) (.slice aa an ac) (.int .i64 AT.x)
          have F12 := set3_box2 F11 (show w.heap.size ≠ b16 by omega) (.bool AT.s) (.slice aa an ac) (.int .i64 AT.x)
          have R12 := set3_other R11 (show w.heap.size + 1 ≠ b16 by omega) (.bool AT.s) (.slice aa an ac) (.int .i64 AT.x)
          have S12 := set3_other S11 (show w.heap.size + 1 + 1 ≠ b16 by omega) (.bool AT.s) (.slice aa an ac) (.int .i64 AT.x)
          have p12 := set3_fr (b := b16) aH (fun hg => by have := iA _ hg; omega) (.bool AT.s) (.slice aa an ac) (.int .i64 AT.x)
          have q12 := set3_fr (b := b16) bH (fun hg => by have := iB _ hg; omega) (.bool AT.s) (.slice aa an ac) (.int .i64 AT.x)
          have V12 : Below W2.heap.size W2 ((((wG).setCell ⟨b16, 0, none⟩ (.bool AT.s)).setCell ⟨b16, 1, none⟩ (.slice aa an ac)).setCell ⟨b16, 2, none⟩ (.int .i64 AT.x)) := ((V11.setCell (by simp; omega) _).setCell (by simp; omega) _).setCell (by simp; omega) _
          clear x0 x1 x2 y0 y1 y2 yz0 yz1 yz2 D11 E11 F11 R11 S11 V11 A11 B11 C11
          generalize (((wG).setCell ⟨b16, 0, none⟩ (.bool AT.s)).setCell ⟨b16, 1, none⟩ (.slice aa an ac)).setCell ⟨b16, 2, none⟩ (.int .i64 AT.x) = wH at *
          have ⟨x0, x1, x2, _, _, _⟩ := A12
          have ⟨y0, y1, y2, yz0, yz1, yz2⟩ := E12
          go_wp2
          go_meet
          have e1 := e1.symm
          have e2 := e2.symm
          subst e1 e2
          refine ⟨aa, an, ac, ba, bn, bc, true, rfl, rfl, by rw [e4], fun _ => by rw [e3], fun h => by rw [e3], ?_, set3_box2 F12 (show w.heap.size ≠ b17 by omega) (.bool FA.s) (.slice ba bn bc) (.int .i64 FA.x), set3_other R12 (by omega) (.bool FA.s) (.slice ba bn bc) (.int .i64 FA.x), set3_other S12 (by omega) (.bool FA.s) (.slice ba bn bc) (.int .i64 FA.x), set3_other D12 (by omega) (.bool FA.s) (.slice ba bn bc) (.int .i64 FA.x), box3_put E12 (.bool FA.s) (.slice ba bn bc) (.int .i64 FA.x), set3_fr p12 (fun hg => by have := iA _ hg; omega) (.bool FA.s) (.slice ba bn bc) (.int .i64 FA.x), set3_fr q12 (fun hg => by have := iB _ hg; omega) (.bool FA.s) (.slice ba bn bc) (.int .i64 FA.x)⟩
          exact ((V12.setCell (by simp; omega) _).setCell (by simp; omega) _).setCell (by simp; omega) _
        · obtain ⟨e1, e2, e3, e4⟩ := HM3.out hM
          have k1 : ((M : Int) = 1) = False := eq_false (by omega)
          have q1 : ((M : Int) == 1) = false := by simp; omega
          have k2 : ((M : Int) = 2) = False := eq_false (by omega)
          have q2 : ((M : Int) == 2) = false := by simp; omega
          have k3 : ((M : Int) = 3) = True := eq_true (by omega)
          have q3 : ((M : Int) == 3) = true := by simp; omega
          clear hM
          have ⟨x0, x1, x2, _, _, _⟩ := C11
          have ⟨y0, y1, y2, yz0, yz1, yz2⟩ := D11
          go_upto_region 35 with fail
          have A12 := set3_other A11 (show b13 ≠ b16 by omega) (.bool NR.s) (.slice na nn nc) (.int .i64 NR.x)
          have D12 := box3_put D11 (.bool NR.s) (.slice na nn nc) (.int .i64 NR.x)
          have E12 := set3_other E11 (show b17 ≠ b16 by omega) (.bool NR.s) (.slice na nn nc) (.int .i64 NR.x)
          have F12 := set3_box2 F11 (show w.heap.size ≠ b16 by omega) (.bool NR.s) (.slice na nn nc) (.int .i64 NR.x)
          have R12 := set3_other R11 (show w.heap.size + 1 ≠ b16 by omega) (.bool NR.s) (.slice na nn nc) (.int .i64 NR.x)
          have S12 := set3_other S11 (show w.heap.size + 1 + 1 ≠ b16 by omega) (.bool NR.s) (.slice na nn nc) (.int .i64 NR.x)
          have p12 := set3_fr (b := b16) nH (fun hg => by have := iN _ hg; omega) (.bool NR.s) (.slice na nn nc) (.int .i64 NR.x)
          have q12 := set3_fr (b := b16) aH (fun hg => by have := iA _ hg; omega) (.bool NR.s) (.slice na nn nc) (.int .i64 NR.x)
          have V12 : Below W2.heap.size W2 ((((wG).setCell ⟨b16, 0, none⟩ (.bool NR.s)).setCell ⟨b16, 1, none⟩ (.slice na nn nc)).setCell ⟨b16, 2, none⟩ (.int .i64 NR.x)) := ((V11.setCell (by simp; omega) _).setCell (by simp; omega) _).setCell (by simp; omega) _
          clear x0 x1 x2 y0 y1 y2 yz0 yz1 yz2 D11 E11 F11 R11 S11 V11 A11 B11 C11
          generalize (((wG).setCell ⟨b16, 0, none⟩ (.bool NR.s)).setCell ⟨b16, 1, none⟩ (.slice na nn nc)).setCell ⟨b16, 2, none⟩ (.int .i64 NR.x) = wH at *
          have ⟨x0, x1, x2, _, _, _⟩ := A12
          have ⟨y0, y1, y2, yz0, yz1, yz2⟩ := E12
          go_wp2
          go_meet
          have e1 := e1.symm
          have e2 := e2.symm
          subst e1 e2
          refine ⟨na, nn, nc, aa, an, ac, false, rfl, rfl, by rw [e4], fun h => by rw [e3]; simp [h], fun h => by rw [e3]; simp [h], ?_, set3_box2 F12 (show w.heap.size ≠ b17 by omega) (.bool AT.s) (.slice aa an ac) (.int .i64 AT.x), set3_other R12 (by omega) (.bool AT.s) (.slice aa an ac) (.int .i64 AT.x), set3_other S12 (by omega) (.bool AT.s) (.slice aa an ac) (.int .i64 AT.x), set3_other D12 (by omega) (.bool AT.s) (.slice aa an ac) (.int .i64 AT.x), box3_put E12 (.bool AT.s) (.slice aa an ac) (.int .i64 AT.x), set3_fr p12 (fun hg => by have := iN _ hg; omega) (.bool AT.s) (.slice aa an ac) (.int .i64 AT.x), set3_fr q12 (fun hg => by have := iA _ hg; omega) (.bool AT.s) (.slice aa an ac) (.int .i64 AT.x)⟩
          exact ((V12.setCell (by simp; omega) _).setCell (by simp; omega) _).setCell (by simp; omega) _
      case rest =>
        clear D11 E11 F11 R11 S11 V11 A11 B11 C11 aH bH nH iH oG
        obtain ⟨da, dn, dc, ea, en, ec, q, rfl, rfl, rfl, hq1, hq0, V12, F12, R12, S12, D12, E12, dF, eF⟩ := hcut
        have ⟨f0, f1⟩ := F12
        go_wp2_with fail
        refine (cH _).mono ?_
        rintro en wH ⟨rfl, hbH⟩
        have Xb16 := D12.stay hbH
        have Xb17 := E12.stay hbH
        have Fb16 := dF.below hbH
        have Fb17 := eF.below hbH
        have RB := R12.stay hbH
        have SB := S12.stay hbH
        have VB := next V12 hbH
        clear D12 E12 dF eF R12 S12 V12 F12 f0 f1 hbH
        go_upto_if 101 with fail
        go_cut [10, 18] from 97 to 101 (fun v10 v18 wx => v10 = .int .i64 0 ∧ v18 = .bool ri ∧ wx = wH)
        case first =>
          by_cases h0 : B = 0
          · have n0 : ((B : Int) = 0) = True := eq_true (by omega)
            have n1 : ((B : Int) == 0) = true := by simp; omega
            have hq := hq0 h0
            clear hq0 hq1 h0
            go_wp2
            go_meet
            exact ⟨rfl, by rw [hq], rfl⟩
          · have n0 : ((B : Int) = 0) = False := eq_false (by omega)
            have n1 : ((B : Int) == 0) = false := by simp; omega
            have hq := hq1 h0
            clear hq0 hq1 h0
            go_wp2
            go_meet
            exact ⟨rfl, by rw [hq], rfl⟩
        case rest =>
          obtain ⟨rfl, rfl, hw⟩ := hcut
          rw [hw]
          clear hw hq0 hq1
          have kb16 := kI
          have kb17 := kO
          clear kI kO
          generalize wH = wB at *
          cases G
          · have m0 : R41 wB W2.heap.size b16 b17 (w.heap.size + 1) (w.heap.size + 1 + 1) da ea dn dc en ec IF.s OF.s IF.N OF.N IF.x OF.x := ⟨Xb16, Xb17, Fb16, Fb17, RB.res, SB.res⟩
            have mD : ∀ W, R41 W W2.heap.size b16 b17 (w.heap.size + 1) (w.heap.size + 1 + 1) da ea dn dc en ec IF.s OF.s IF.N OF.N IF.x OF.x → R41 W.drew W2.heap.size b16 b17 (w.heap.size + 1) (w.heap.size + 1 + 1) da ea dn dc en ec IF.s OF.s IF.N OF.N IF.x OF.x := fun W h => h.stay (Below.refl _ _).drew
            have m6 : ∀ W u v y, R41 W W2.heap.size b16 b17 (w.heap.size + 1) (w.heap.size + 1 + 1) da ea dn dc en ec IF.s OF.s IF.N OF.N IF.x OF.x → R41 (((W.setCell ⟨w.heap.size + 1, 0, none⟩ u).setCell ⟨w.heap.size + 1, 1, none⟩ v).setCell ⟨w.heap.size + 1, 2, none⟩ y) W2.heap.size b16 b17 (w.heap.size + 1) (w.heap.size + 1 + 1) da ea dn dc en ec IF.s OF.s IF.N OF.N IF.x OF.x := fun W u v y h => h.put (by omega) (by omega) (by omega) (by omega) (by omega) (.inl rfl) u v y
            have m7 : ∀ W u v y, R41 W W2.heap.size b16 b17 (w.heap.size + 1) (w.heap.size + 1 + 1) da ea dn dc en ec IF.s OF.s IF.N OF.N IF.x OF.x → R41 (((W.setCell ⟨w.heap.size + 1 + 1, 0, none⟩ u).setCell ⟨w.heap.size + 1 + 1, 1, none⟩ v).setCell ⟨w.heap.size + 1 + 1, 2, none⟩ y) W2.heap.size b16 b17 (w.heap.size + 1) (w.heap.size + 1 + 1) da ea dn dc en ec IF.s OF.s IF.N OF.N IF.x OF.x := fun W u v y h => h.put (by omega) (by omega) (by omega) (by omega) (by omega) (.inr rfl) u v y
            have kS : ∀ w', R41 w' W2.heap.size b16 b17 (w.heap.size + 1) (w.heap.size + 1 + 1) da ea dn dc en ec IF.s OF.s IF.N OF.N IF.x OF.x → (w'.cell? ⟨b16, 0, none⟩ = some (.bool IF.s) ∧ w'.cell? ⟨b16, 1, none⟩ = some (.slice da dn dc) ∧ w'.cell? ⟨b16, 2, none⟩ = some (.int .i64 IF.x) ∧ w'.cell? ⟨b17, 0, none⟩ = some (.bool OF.s) ∧ w'.cell? ⟨b17, 1, none⟩ = some (.slice ea en ec) ∧ w'.cell? ⟨b17, 2, none⟩ = some (.int .i64 OF.x) ∧ w'.cell? ⟨w.heap.size + 1, 0, none⟩ = some (cellOf w' (w.heap.size + 1) 0) ∧ w'.cell? ⟨w.heap.size + 1, 1, none⟩ = some (cellOf w' (w.heap.size + 1) 1) ∧ w'.cell? ⟨w.heap.size + 1, 2, none⟩ = some (cellOf w' (w.heap.size + 1) 2) ∧ w'.cell? ⟨w.heap.size + 1 + 1, 0, none⟩ = some (cellOf w' (w.heap.size + 1 + 1) 0) ∧ w'.cell? ⟨w.heap.size + 1 + 1, 1, none⟩ = some (cellOf w' (w.heap.size + 1 + 1) 1) ∧ w'.cell? ⟨w.heap.size + 1 + 1, 2, none⟩ = some (cellOf w' (w.heap.size + 1 + 1) 2) ∧ w'.frozen? ⟨w.heap.size + 1, 0, none⟩ = false ∧ w'.frozen? ⟨w.heap.size + 1, 1, none⟩ = false ∧ w'.frozen? ⟨w.heap.size + 1, 2, none⟩ = false ∧ w'.frozen? ⟨w.heap.size + 1 + 1, 0, none⟩ = false ∧ w'.frozen? ⟨w.heap.size + 1 + 1, 1, none⟩ = false ∧ w'.frozen? ⟨w.heap.size + 1 + 1, 2, none⟩ = false) := fun w' h => ⟨h.bd.c0, h.bd.c1, h.bd.c2, h.be.c0, h.be.c1, h.be.c2, h.r6.c0, h.r6.c1, h.r6.c2, h.r7.c0, h.r7.c1, h.r7.c2, h.r6.z0, h.r6.z1, h.r6.z2, h.r7.z0, h.r7.z1, h.r7.z2⟩
            have c1 : ∀ W, R41 W W2.heap.size b16 b17 (w.heap.size + 1) (w.heap.size + 1 + 1) da ea dn dc en ec IF.s OF.s IF.N OF.N IF.x OF.x → Calls Tryz.prog 60 #[.agg #[.bool IF.s, .slice da dn dc, .int .i64 IF.x]] W _ := fun W h => kb16 _ _ _ W h.df.sl
            have c2 : ∀ W, R41 W W2.heap.size b16 b17 (w.heap.size + 1) (w.heap.size + 1 + 1) da ea dn dc en ec IF.s OF.s IF.N OF.N IF.x OF.x → Calls Tryz.prog 60 #[.agg #[.bool OF.s, .slice ea en ec, .int .i64 OF.x]] W _ := fun W h => kb17 _ _ _ W h.ef.sl
            have ⟨r0, r1, r2, r3, r4, r5⟩ := RB
            have ⟨s0, s1, s2, s3, s4, s5⟩ := SB
            go_upto_region 42 with fail
            go_region_held3 (fun w' => w'.cell? ⟨b16, 0, none⟩ = some (.bool IF.s) ∧ w'.cell? ⟨b16, 1, none⟩ = some (.slice da dn dc) ∧ w'.cell? ⟨b16, 2, none⟩ = some (.int .i64 IF.x) ∧ w'.cell? ⟨b17, 0, none⟩ = some (.bool OF.s) ∧ w'.cell? ⟨b17, 1, none⟩ = some (.slice ea en ec) ∧ w'.cell? ⟨b17, 2, none⟩ = some (.int .i64 OF.x) ∧ w'.cell? ⟨w.heap.size + 1, 0, none⟩ = some (cellOf w' (w.heap.size + 1) 0) ∧ w'.cell? ⟨w.heap.size + 1, 1, none⟩ = some (cellOf w' (w.heap.size + 1) 1) ∧ w'.cell? ⟨w.heap.size + 1, 2, none⟩ = some (cellOf w' (w.heap.size + 1) 2) ∧ w'.cell? ⟨w.heap.size + 1 + 1, 0, none⟩ = some (cellOf w' (w.heap.size + 1 + 1) 0) ∧ w'.cell? ⟨w.heap.size + 1 + 1, 1, none⟩ = some (cellOf w' (w.heap.size + 1 + 1) 1) ∧ w'.cell? ⟨w.heap.size + 1 + 1, 2, none⟩ = some (cellOf w' (w.heap.size + 1 + 1) 2) ∧ w'.frozen? ⟨w.heap.size + 1, 0, none⟩ = false ∧ w'.frozen? ⟨w.heap.size + 1, 1, none⟩ = false ∧ w'.frozen? ⟨w.heap.size + 1, 2, none⟩ = false ∧ w'.frozen? ⟨w.heap.size + 1 + 1, 0, none⟩ = false ∧ w'.frozen? ⟨w.heap.size + 1 + 1, 1, none⟩ = false ∧ w'.frozen? ⟨w.heap.size + 1 + 1, 2, none⟩ = false)
              (((with_reducible refine kS _ ?_); (with_reducible (first | exact mD _ m0 | exact hX | exact hY | exact m6 _ _ _ _ hY | exact m7 _ _ _ _ (m6 _ _ _ _ hY)))))
              (first
                | (go_at_call 60; (with_reducible refine (c1 _ (mD _ m0)).mono ?_); rintro en wX ⟨p1, pn1, pc1, p2, pn2, pc2, rfl, P1, P2, hP, hbX⟩; have hX := (mD _ m0).stay hbX)
                | (go_at_call 60; (with_reducible refine (c2 _ hX).mono ?_); rintro en wY ⟨q1, qn1, qc1, q2, qn2, qc2, rfl, Q1, Q2, hQ, hbY⟩; have hY := hX.stay hbY))
            rename_i hh
            clear hh kb16 kb17 c1 c2 m6 m7 mD kS m0 r0 r1 r2 r3 r4 r5 s0 s1 s2 s3 s4 s5
            have sX : wB.heap.size ≤ wX.heap.size := hbX.size
            have sY : wX.heap.size ≤ wY.heap.size := hbY.size
            have lB : W2.heap.size ≤ wB.heap.size := VB.size
            have VY := next hb2 (next (next VB (undrew hbX)) hbY)
            have y6 : Box3 (((((((wY.setCell ⟨w.heap.size + 1, 0, none⟩ (.bool IF.s)).setCell ⟨w.heap.size + 1, 1, none⟩ (.slice p1 pn1 pc1)).setCell ⟨w.heap.size + 1, 2, none⟩ (.slice p2 pn2 pc2)).setCell ⟨w.heap.size + 1 + 1, 0, none⟩ (.bool OF.s)).setCell ⟨w.heap.size + 1 + 1, 1, none⟩ (.slice q1 qn1 qc1)).setCell ⟨w.heap.size + 1 + 1, 2, none⟩ (.slice q2 qn2 qc2))) (w.heap.size + 1) (.bool IF.s) (.slice p1 pn1 pc1) (.slice p2 pn2 pc2) := set3_other (box3_put hY.r6.box (.bool IF.s) (.slice p1 pn1 pc1) (.slice p2 pn2 pc2)) (show w.heap.size + 1 ≠ w.heap.size + 1 + 1 by omega) (.bool OF.s) (.slice q1 qn1 qc1) (.slice q2 qn2 qc2)
            have y7 : Box3 (((((((wY.setCell ⟨w.heap.size + 1, 0, none⟩ (.bool IF.s)).setCell ⟨w.heap.size + 1, 1, none⟩ (.slice p1 pn1 pc1)).setCell ⟨w.heap.size + 1, 2, none⟩ (.slice p2 pn2 pc2)).setCell ⟨w.heap.size + 1 + 1, 0, none⟩ (.bool OF.s)).setCell ⟨w.heap.size + 1 + 1, 1, none⟩ (.slice q1 qn1 qc1)).setCell ⟨w.heap.size + 1 + 1, 2, none⟩ (.slice q2 qn2 qc2))) (w.heap.size + 1 + 1) (.bool OF.s) (.slice q1 qn1 qc1) (.slice q2 qn2 qc2) := box3_put (set3_other hY.r7.box (show w.heap.size + 1 + 1 ≠ w.heap.size + 1 by omega) (.bool IF.s) (.slice p1 pn1 pc1) (.slice p2 pn2 pc2)) (.bool OF.s) (.slice q1 qn1 qc1) (.slice q2 qn2 qc2)
            have jP : ∀ ao, (∀ g, blkOf ao = some g → wB.heap.size ≤ g) → blkOf ao ≠ some (w.heap.size + 1) ∧ blkOf ao ≠ some (w.heap.size + 1 + 1) := fun ao h => ⟨fun k => by have := h _ k; omega, fun k => by have := h _ k; omega⟩
            have P1l : ∀ g, blkOf p1 = some g → wB.heap.size ≤ g ∧ g < wX.heap.size := fun g hg => fr_in P1 hg
            have P2l : ∀ g, blkOf p2 = some g → wB.heap.size ≤ g ∧ g < wX.heap.size := fun g hg => fr_in P2 hg
            have Q1l : ∀ g, blkOf q1 = some g → wX.heap.size ≤ g := fun g hg => (fr_in Q1 hg).1
            have Q2l : ∀ g, blkOf q2 = some g → wX.heap.size ≤ g := fun g hg => (fr_in Q2 hg).1
            have j1 := jP p1 fun g hg => (P1l g hg).1
            have j2 := jP p2 fun g hg => (P2l g hg).1
            have j3 := jP q1 fun g hg => Nat.le_trans sX (Q1l g hg)
            have j4 := jP q2 fun g hg => Nat.le_trans sX (Q2l g hg)
            have a1 : ∀ g, blkOf p1 = some g → blkOf q1 ≠ some g ∧ blkOf q2 ≠ some g := fun g hg => ⟨fun k => by have := (P1l g hg).2; have := Q1l g k; omega, fun k => by have := (P1l g hg).2; have := Q2l g k; omega⟩
            have a2 : ∀ g, blkOf p2 = some g → blkOf q1 ≠ some g ∧ blkOf q2 ≠ some g := fun g hg => ⟨fun k => by have := (P2l g hg).2; have := Q1l g k; omega, fun k => by have := (P2l g hg).2; have := Q2l g k; omega⟩
            have hap : Apt4 p1 p2 q1 q2 := ⟨fun g hg => ⟨hP g hg, a1 g hg⟩, a2, hQ⟩
            have lw : w.heap.size ≤ wB.heap.size := Nat.le_trans hb2.size lB
            have b1 : Fr 75 wY w.heap.size p1 pn1 pc1 (limbs (upN IF.N IF.x)) := (P1.below hbY).mono lw
            have b2 : Fr 75 wY w.heap.size p2 pn2 pc2 (limbs (upD IF.x)) := (P2.below hbY).mono lw
            have b3 : Fr 75 wY w.heap.size q1 qn1 qc1 (limbs (upN OF.N OF.x)) := Q1.mono (Nat.le_trans lw sX)
            have b4 : Fr 75 wY w.heap.size q2 qn2 qc2 (limbs (upD OF.x)) := Q2.mono (Nat.le_trans lw sX)
            have g1 : Fr 75 (((((((wY.setCell ⟨w.heap.size + 1, 0, none⟩ (.bool IF.s)).setCell ⟨w.heap.size + 1, 1, none⟩ (.slice p1 pn1 pc1)).setCell ⟨w.heap.size + 1, 2, none⟩ (.slice p2 pn2 pc2)).setCell ⟨w.heap.size + 1 + 1, 0, none⟩ (.bool OF.s)).setCell ⟨w.heap.size + 1 + 1, 1, none⟩ (.slice q1 qn1 qc1)).setCell ⟨w.heap.size + 1 + 1, 2, none⟩ (.slice q2 qn2 qc2))) w.heap.size p1 pn1 pc1 (limbs (upN IF.N IF.x)) := set3_fr (b := w.heap.size + 1 + 1) (set3_fr (b := w.heap.size + 1) b1 j1.1 (.bool IF.s) (.slice p1 pn1 pc1) (.slice p2 pn2 pc2)) j1.2 (.bool OF.s) (.slice q1 qn1 qc1) (.slice q2 qn2 qc2)
            have g2 : Fr 75 (((((((wY.setCell ⟨w.heap.size + 1, 0, none⟩ (.bool IF.s)).setCell ⟨w.heap.size + 1, 1, none⟩ (.slice p1 pn1 pc1)).setCell ⟨w.heap.size + 1, 2, none⟩ (.slice p2 pn2 pc2)).setCell ⟨w.heap.size + 1 + 1, 0, none⟩ (.bool OF.s)).setCell ⟨w.heap.size + 1 + 1, 1, none⟩ (.slice q1 qn1 qc1)).setCell ⟨w.heap.size + 1 + 1, 2, none⟩ (.slice q2 qn2 qc2))) w.heap.size p2 pn2 pc2 (limbs (upD IF.x)) := set3_fr (b := w.heap.size + 1 + 1) (set3_fr (b := w.heap.size + 1) b2 j2.1 (.bool IF.s) (.slice p1 pn1 pc1) (.slice p2 pn2 pc2)) j2.2 (.bool OF.s) (.slice q1 qn1 qc1) (.slice q2 qn2 qc2)
            have g3 : Fr 75 (((((((wY.setCell ⟨w.heap.size + 1, 0, none⟩ (.bool IF.s)).setCell ⟨w.heap.size + 1, 1, none⟩ (.slice p1 pn1 pc1)).setCell ⟨w.heap.size + 1, 2, none⟩ (.slice p2 pn2 pc2)).setCell ⟨w.heap.size + 1 + 1, 0, none⟩ (.bool OF.s)).setCell ⟨w.heap.size + 1 + 1, 1, none⟩ (.slice q1 qn1 qc1)).setCell ⟨w.heap.size + 1 + 1, 2, none⟩ (.slice q2 qn2 qc2))) w.heap.size q1 qn1 qc1 (limbs (upN OF.N OF.x)) := set3_fr (b := w.heap.size + 1 + 1) (set3_fr (b := w.heap.size + 1) b3 j3.1 (.bool IF.s) (.slice p1 pn1 pc1) (.slice p2 pn2 pc2)) j3.2 (.bool OF.s) (.slice q1 qn1 qc1) (.slice q2 qn2 qc2)
            have g4 : Fr 75 (((((((wY.setCell ⟨w.heap.size + 1, 0, none⟩ (.bool IF.s)).setCell ⟨w.heap.size + 1, 1, none⟩ (.slice p1 pn1 pc1)).setCell ⟨w.heap.size + 1, 2, none⟩ (.slice p2 pn2 pc2)).setCell ⟨w.heap.size + 1 + 1, 0, none⟩ (.bool OF.s)).setCell ⟨w.heap.size + 1 + 1, 1, none⟩ (.slice q1 qn1 qc1)).setCell ⟨w.heap.size + 1 + 1, 2, none⟩ (.slice q2 qn2 qc2))) w.heap.size q2 qn2 qc2 (limbs (upD OF.x)) := set3_fr (b := w.heap.size + 1 + 1) (set3_fr (b := w.heap.size + 1) b4 j4.1 (.bool IF.s) (.slice p1 pn1 pc1) (.slice p2 pn2 pc2)) j4.2 (.bool OF.s) (.slice q1 qn1 qc1) (.slice q2 qn2 qc2)
            have VZ : Below w.heap.size w (((((((wY.setCell ⟨w.heap.size + 1, 0, none⟩ (.bool IF.s)).setCell ⟨w.heap.size + 1, 1, none⟩ (.slice p1 pn1 pc1)).setCell ⟨w.heap.size + 1, 2, none⟩ (.slice p2 pn2 pc2)).setCell ⟨w.heap.size + 1 + 1, 0, none⟩ (.bool OF.s)).setCell ⟨w.heap.size + 1 + 1, 1, none⟩ (.slice q1 qn1 qc1)).setCell ⟨w.heap.size + 1 + 1, 2, none⟩ (.slice q2 qn2 qc2))) := (((((VY.setCell (Nat.le_succ _) _).setCell (Nat.le_succ _) _).setCell (Nat.le_succ _) _).setCell (Nat.le_add_right _ 2) _).setCell (Nat.le_add_right _ 2) _).setCell (Nat.le_add_right _ 2) _
            clear b1 b2 b3 b4 j1 j2 j3 j4 P1l P2l Q1l Q2l a1 a2 hP hQ hbX hbY hX hY VY P1 P2 Q1 Q2 jP Xb16 Xb17 Fb16 Fb17 RB SB VB
            generalize ((((((wY.setCell ⟨w.heap.size + 1, 0, none⟩ (.bool IF.s)).setCell ⟨w.heap.size + 1, 1, none⟩ (.slice p1 pn1 pc1)).setCell ⟨w.heap.size + 1, 2, none⟩ (.slice p2 pn2 pc2)).setCell ⟨w.heap.size + 1 + 1, 0, none⟩ (.bool OF.s)).setCell ⟨w.heap.size + 1 + 1, 1, none⟩ (.slice q1 qn1 qc1)).setCell ⟨w.heap.size + 1 + 1, 2, none⟩ (.slice q2 qn2 qc2)) = WZ at y6 y7 g1 g2 g3 g4 VZ ⊢
            obtain ⟨t0, t1, t2, z0, z1, z2⟩ := y6
            obtain ⟨t3, t4, t5, z3, z4, z5⟩ := y7
            clear z0 z1 z2 z3 z4 z5
            go_step
            rename_i Q0 K0 hK0
            refine hK0 _ _ ?_
            clear hK0 K0
            go_step
            refine bodyPost_ret (v := .tuple #[.agg #[.bool IF.s, .slice p1 pn1 pc1, .slice p2 pn2 pc2], .agg #[.bool OF.s, .slice q1 qn1 qc1, .slice q2 qn2 qc2], .bool ri, .bool ro, .int .i64 0]) (by simp [results, Tryz.results12, go_sem, t0, t1, t2, t3, t4, t5]) rfl ?_
            simp only [Bool.false_eq_true, ↓reduceIte]
            exact ⟨p1, pn1, pc1, p2, pn2, pc2, q1, qn1, qc1, q2, qn2, qc2, rfl, g1, g2, g3, g4, hap, VZ⟩
          · have m0 : R41 wB W2.heap.size b17 b16 (w.heap.size + 1) (w.heap.size + 1 + 1) ea da en ec dn dc OF.s IF.s OF.N IF.N OF.x IF.x := ⟨Xb17, Xb16, Fb17, Fb16, RB.res, SB.res⟩
            have mD : ∀ W, R41 W W2.heap.size b17 b16 (w.heap.size + 1) (w.heap.size + 1 + 1) ea da en ec dn dc OF.s IF.s OF.N IF.N OF.x IF.x → R41 W.drew W2.heap.size b17 b16 (w.heap.size + 1) (w.heap.size + 1 + 1) ea da en ec dn dc OF.s IF.s OF.N IF.N OF.x IF.x := fun W h => h.stay (Below.refl _ _).drew
            have m6 : ∀ W u v y, R41 W W2.heap.size b17 b16 (w.heap.size + 1) (w.heap.size + 1 + 1) ea da en ec dn dc OF.s IF.s OF.N IF.N OF.x IF.x → R41 (((W.setCell ⟨w.heap.size + 1, 0, none⟩ u).setCell ⟨w.heap.size + 1, 1, none⟩ v).setCell ⟨w.heap.size + 1, 2, none⟩ y) W2.heap.size b17 b16 (w.heap.size + 1) (w.heap.size + 1 + 1) ea da en ec dn dc OF.s IF.s OF.N IF.N OF.x IF.x := fun W u v y h => h.put (by omega) (by omega) (by omega) (by omega) (by omega) (.inl rfl) u v y
            have m7 : ∀ W u v y, R41 W W2.heap.size b17 b16 (w.heap.size + 1) (w.heap.size + 1 + 1) ea da en ec dn dc OF.s IF.s OF.N IF.N OF.x IF.x → R41 (((W.setCell ⟨w.heap.size + 1 + 1, 0, none⟩ u).setCell ⟨w.heap.size + 1 + 1, 1, none⟩ v).setCell ⟨w.heap.size + 1 + 1, 2, none⟩ y) W2.heap.size b17 b16 (w.heap.size + 1) (w.heap.size + 1 + 1) ea da en ec dn dc OF.s IF.s OF.N IF.N OF.x IF.x := fun W u v y h => h.put (by omega) (by omega) (by omega) (by omega) (by omega) (.inr rfl) u v y
            have kS : ∀ w', R41 w' W2.heap.size b17 b16 (w.heap.size + 1) (w.heap.size + 1 + 1) ea da en ec dn dc OF.s IF.s OF.N IF.N OF.x IF.x → (w'.cell? ⟨b17, 0, none⟩ = some (.bool OF.s) ∧ w'.cell? ⟨b17, 1, none⟩ = some (.slice ea en ec) ∧ w'.cell? ⟨b17, 2, none⟩ = some (.int .i64 OF.x) ∧ w'.cell? ⟨b16, 0, none⟩ = some (.bool IF.s) ∧ w'.cell? ⟨b16, 1, none⟩ = some (.slice da dn dc) ∧ w'.cell? ⟨b16, 2, none⟩ = some (.int .i64 IF.x) ∧ w'.cell? ⟨w.heap.size + 1, 0, none⟩ = some (cellOf w' (w.heap.size + 1) 0) ∧ w'.cell? ⟨w.heap.size + 1, 1, none⟩ = some (cellOf w' (w.heap.size + 1) 1) ∧ w'.cell? ⟨w.heap.size + 1, 2, none⟩ = some (cellOf w' (w.heap.size + 1) 2) ∧ w'.cell? ⟨w.heap.size + 1 + 1, 0, none⟩ = some (cellOf w' (w.heap.size + 1 + 1) 0) ∧ w'.cell? ⟨w.heap.size + 1 + 1, 1, none⟩ = some (cellOf w' (w.heap.size + 1 + 1) 1) ∧ w'.cell? ⟨w.heap.size + 1 + 1, 2, none⟩ = some (cellOf w' (w.heap.size + 1 + 1) 2) ∧ w'.frozen? ⟨w.heap.size + 1, 0, none⟩ = false ∧ w'.frozen? ⟨w.heap.size + 1, 1, none⟩ = false ∧ w'.frozen? ⟨w.heap.size + 1, 2, none⟩ = false ∧ w'.frozen? ⟨w.heap.size + 1 + 1, 0, none⟩ = false ∧ w'.frozen? ⟨w.heap.size + 1 + 1, 1, none⟩ = false ∧ w'.frozen? ⟨w.heap.size + 1 + 1, 2, none⟩ = false) := fun w' h => ⟨h.bd.c0, h.bd.c1, h.bd.c2, h.be.c0, h.be.c1, h.be.c2, h.r6.c0, h.r6.c1, h.r6.c2, h.r7.c0, h.r7.c1, h.r7.c2, h.r6.z0, h.r6.z1, h.r6.z2, h.r7.z0, h.r7.z1, h.r7.z2⟩
            have c1 : ∀ W, R41 W W2.heap.size b17 b16 (w.heap.size + 1) (w.heap.size + 1 + 1) ea da en ec dn dc OF.s IF.s OF.N IF.N OF.x IF.x → Calls Tryz.prog 60 #[.agg #[.bool OF.s, .slice ea en ec, .int .i64 OF.x]] W _ := fun W h => kb17 _ _ _ W h.df.sl
            have c2 : ∀ W, R41 W W2.heap.size b17 b16 (w.heap.size + 1) (w.heap.size + 1 + 1) ea da en ec dn dc OF.s IF.s OF.N IF.N OF.x IF.x → Calls Tryz.prog 60 #[.agg #[.bool IF.s, .slice da dn dc, .int .i64 IF.x]] W _ := fun W h => kb16 _ _ _ W h.ef.sl
            have ⟨r0, r1, r2, r3, r4, r5⟩ := RB
            have ⟨s0, s1, s2, s3, s4, s5⟩ := SB
            go_upto_region 41 with fail
            go_region_held3 (fun w' => w'.cell? ⟨b17, 0, none⟩ = some (.bool OF.s) ∧ w'.cell? ⟨b17, 1, none⟩ = some (.slice ea en ec) ∧ w'.cell? ⟨b17, 2, none⟩ = some (.int .i64 OF.x) ∧ w'.cell? ⟨b16, 0, none⟩ = some (.bool IF.s) ∧ w'.cell? ⟨b16, 1, none⟩ = some (.slice da dn dc) ∧ w'.cell? ⟨b16, 2, none⟩ = some (.int .i64 IF.x) ∧ w'.cell? ⟨w.heap.size + 1, 0, none⟩ = some (cellOf w' (w.heap.size + 1) 0) ∧ w'.cell? ⟨w.heap.size + 1, 1, none⟩ = some (cellOf w' (w.heap.size + 1) 1) ∧ w'.cell? ⟨w.heap.size + 1, 2, none⟩ = some (cellOf w' (w.heap.size + 1) 2) ∧ w'.cell? ⟨w.heap.size + 1 + 1, 0, none⟩ = some (cellOf w' (w.heap.size + 1 + 1) 0) ∧ w'.cell? ⟨w.heap.size + 1 + 1, 1, none⟩ = some (cellOf w' (w.heap.size + 1 + 1) 1) ∧ w'.cell? ⟨w.heap.size + 1 + 1, 2, none⟩ = some (cellOf w' (w.heap.size + 1 + 1) 2) ∧ w'.frozen? ⟨w.heap.size + 1, 0, none⟩ = false ∧ w'.frozen? ⟨w.heap.size + 1, 1, none⟩ = false ∧ w'.frozen? ⟨w.heap.size + 1, 2, none⟩ = false ∧ w'.frozen? ⟨w.heap.size + 1 + 1, 0, none⟩ = false ∧ w'.frozen? ⟨w.heap.size + 1 + 1, 1, none⟩ = false ∧ w'.frozen? ⟨w.heap.size + 1 + 1, 2, none⟩ = false)
              (((with_reducible refine kS _ ?_); (with_reducible (first | exact mD _ m0 | exact hX | exact hY | exact m6 _ _ _ _ hY | exact m7 _ _ _ _ (m6 _ _ _ _ hY)))))
              (first
                | (go_at_call 60; (with_reducible refine (c1 _ (mD _ m0)).mono ?_); rintro en wX ⟨p1, pn1, pc1, p2, pn2, pc2, rfl, P1, P2, hP, hbX⟩; have hX := (mD _ m0).stay hbX)
                | (go_at_call 60; (with_reducible refine (c2 _ hX).mono ?_); rintro en wY ⟨q1, qn1, qc1, q2, qn2, qc2, rfl, Q1, Q2, hQ, hbY⟩; have hY := hX.stay hbY))
            rename_i hh
            clear hh kb16 kb17 c1 c2 m6 m7 mD kS m0 r0 r1 r2 r3 r4 r5 s0 s1 s2 s3 s4 s5
            have sX : wB.heap.size ≤ wX.heap.size := hbX.size
            have sY : wX.heap.size ≤ wY.heap.size := hbY.size
            have lB : W2.heap.size ≤ wB.heap.size := VB.size
            have VY := next hb2 (next (next VB (undrew hbX)) hbY)
            have y6 : Box3 (((((((wY.setCell ⟨w.heap.size + 1, 0, none⟩ (.bool OF.s)).setCell ⟨w.heap.size + 1, 1, none⟩ (.slice p1 pn1 pc1)).setCell ⟨w.heap.size + 1, 2, none⟩ (.slice p2 pn2 pc2)).setCell ⟨w.heap.size + 1 + 1, 0, none⟩ (.bool IF.s)).setCell ⟨w.heap.size + 1 + 1, 1, none⟩ (.slice q1 qn1 qc1)).setCell ⟨w.heap.size + 1 + 1, 2, none⟩ (.slice q2 qn2 qc2))) (w.heap.size + 1) (.bool OF.s) (.slice p1 pn1 pc1) (.slice p2 pn2 pc2) := set3_other (box3_put hY.r6.box (.bool OF.s) (.slice p1 pn1 pc1) (.slice p2 pn2 pc2)) (show w.heap.size + 1 ≠ w.heap.size + 1 + 1 by omega) (.bool IF.s) (.slice q1 qn1 qc1) (.slice q2 qn2 qc2)
            have y7 : Box3 (((((((wY.setCell ⟨w.heap.size + 1, 0, none⟩ (.bool OF.s)).setCell ⟨w.heap.size + 1, 1, none⟩ (.slice p1 pn1 pc1)).setCell ⟨w.heap.size + 1, 2, none⟩ (.slice p2 pn2 pc2)).setCell ⟨w.heap.size + 1 + 1, 0, none⟩ (.bool IF.s)).setCell ⟨w.heap.size + 1 + 1, 1, none⟩ (.slice q1 qn1 qc1)).setCell ⟨w.heap.size + 1 + 1, 2, none⟩ (.slice q2 qn2 qc2))) (w.heap.size + 1 + 1) (.bool IF.s) (.slice q1 qn1 qc1) (.slice q2 qn2 qc2) := box3_put (set3_other hY.r7.box (show w.heap.size + 1 + 1 ≠ w.heap.size + 1 by omega) (.bool OF.s) (.slice p1 pn1 pc1) (.slice p2 pn2 pc2)) (.bool IF.s) (.slice q1 qn1 qc1) (.slice q2 qn2 qc2)
            have jP : ∀ ao, (∀ g, blkOf ao = some g → wB.heap.size ≤ g) → blkOf ao ≠ some (w.heap.size + 1) ∧ blkOf ao ≠ some (w.heap.size + 1 + 1) := fun ao h => ⟨fun k => by have := h _ k; omega, fun k => by have := h _ k; omega⟩
            have P1l : ∀ g, blkOf p1 = some g → wB.heap.size ≤ g ∧ g < wX.heap.size := fun g hg => fr_in P1 hg
            have P2l : ∀ g, blkOf p2 = some g → wB.heap.size ≤ g ∧ g < wX.heap.size := fun g hg => fr_in P2 hg
            have Q1l : ∀ g, blkOf q1 = some g → wX.heap.size ≤ g := fun g hg => (fr_in Q1 hg).1
            have Q2l : ∀ g, blkOf q2 = some g → wX.heap.size ≤ g := fun g hg => (fr_in Q2 hg).1
            have j1 := jP p1 fun g hg => (P1l g hg).1
            have j2 := jP p2 fun g hg => (P2l g hg).1
            have j3 := jP q1 fun g hg => Nat.le_trans sX (Q1l g hg)
            have j4 := jP q2 fun g hg => Nat.le_trans sX (Q2l g hg)
            have a1 : ∀ g, blkOf p1 = some g → blkOf q1 ≠ some g ∧ blkOf q2 ≠ some g := fun g hg => ⟨fun k => by have := (P1l g hg).2; have := Q1l g k; omega, fun k => by have := (P1l g hg).2; have := Q2l g k; omega⟩
            have a2 : ∀ g, blkOf p2 = some g → blkOf q1 ≠ some g ∧ blkOf q2 ≠ some g := fun g hg => ⟨fun k => by have := (P2l g hg).2; have := Q1l g k; omega, fun k => by have := (P2l g hg).2; have := Q2l g k; omega⟩
            have hap : Apt4 p1 p2 q1 q2 := ⟨fun g hg => ⟨hP g hg, a1 g hg⟩, a2, hQ⟩
            have lw : w.heap.size ≤ wB.heap.size := Nat.le_trans hb2.size lB
            have b1 : Fr 75 wY w.heap.size p1 pn1 pc1 (limbs (upN OF.N OF.x)) := (P1.below hbY).mono lw
            have b2 : Fr 75 wY w.heap.size p2 pn2 pc2 (limbs (upD OF.x)) := (P2.below hbY).mono lw
            have b3 : Fr 75 wY w.heap.size q1 qn1 qc1 (limbs (upN IF.N IF.x)) := Q1.mono (Nat.le_trans lw sX)
            have b4 : Fr 75 wY w.heap.size q2 qn2 qc2 (limbs (upD IF.x)) := Q2.mono (Nat.le_trans lw sX)
            have g1 : Fr 75 (((((((wY.setCell ⟨w.heap.size + 1, 0, none⟩ (.bool OF.s)).setCell ⟨w.heap.size + 1, 1, none⟩ (.slice p1 pn1 pc1)).setCell ⟨w.heap.size + 1, 2, none⟩ (.slice p2 pn2 pc2)).setCell ⟨w.heap.size + 1 + 1, 0, none⟩ (.bool IF.s)).setCell ⟨w.heap.size + 1 + 1, 1, none⟩ (.slice q1 qn1 qc1)).setCell ⟨w.heap.size + 1 + 1, 2, none⟩ (.slice q2 qn2 qc2))) w.heap.size p1 pn1 pc1 (limbs (upN OF.N OF.x)) := set3_fr (b := w.heap.size + 1 + 1) (set3_fr (b := w.heap.size + 1) b1 j1.1 (.bool OF.s) (.slice p1 pn1 pc1) (.slice p2 pn2 pc2)) j1.2 (.bool IF.s) (.slice q1 qn1 qc1) (.slice q2 qn2 qc2)
            have g2 : Fr 75 (((((((wY.setCell ⟨w.heap.size + 1, 0, none⟩ (.bool OF.s)).setCell ⟨w.heap.size + 1, 1, none⟩ (.slice p1 pn1 pc1)).setCell ⟨w.heap.size + 1, 2, none⟩ (.slice p2 pn2 pc2)).setCell ⟨w.heap.size + 1 + 1, 0, none⟩ (.bool IF.s)).setCell ⟨w.heap.size + 1 + 1, 1, none⟩ (.slice q1 qn1 qc1)).setCell ⟨w.heap.size + 1 + 1, 2, none⟩ (.slice q2 qn2 qc2))) w.heap.size p2 pn2 pc2 (limbs (upD OF.x)) := set3_fr (b := w.heap.size + 1 + 1) (set3_fr (b := w.heap.size + 1) b2 j2.1 (.bool OF.s) (.slice p1 pn1 pc1) (.slice p2 pn2 pc2)) j2.2 (.bool IF.s) (.slice q1 qn1 qc1) (.slice q2 qn2 qc2)
            have g3 : Fr 75 (((((((wY.setCell ⟨w.heap.size + 1, 0, none⟩ (.bool OF.s)).setCell ⟨w.heap.size + 1, 1, none⟩ (.slice p1 pn1 pc1)).setCell ⟨w.heap.size + 1, 2, none⟩ (.slice p2 pn2 pc2)).setCell ⟨w.heap.size + 1 + 1, 0, none⟩ (.bool IF.s)).setCell ⟨w.heap.size + 1 + 1, 1, none⟩ (.slice q1 qn1 qc1)).setCell ⟨w.heap.size + 1 + 1, 2, none⟩ (.slice q2 qn2 qc2))) w.heap.size q1 qn1 qc1 (limbs (upN IF.N IF.x)) := set3_fr (b := w.heap.size + 1 + 1) (set3_fr (b := w.heap.size + 1) b3 j3.1 (.bool OF.s) (.slice p1 pn1 pc1) (.slice p2 pn2 pc2)) j3.2 (.bool IF.s) (.slice q1 qn1 qc1) (.slice q2 qn2 qc2)
            have g4 : Fr 75 (((((((wY.setCell ⟨w.heap.size + 1, 0, none⟩ (.bool OF.s)).setCell ⟨w.heap.size + 1, 1, none⟩ (.slice p1 pn1 pc1)).setCell ⟨w.heap.size + 1, 2, none⟩ (.slice p2 pn2 pc2)).setCell ⟨w.heap.size + 1 + 1, 0, none⟩ (.bool IF.s)).setCell ⟨w.heap.size + 1 + 1, 1, none⟩ (.slice q1 qn1 qc1)).setCell ⟨w.heap.size + 1 + 1, 2, none⟩ (.slice q2 qn2 qc2))) w.heap.size q2 qn2 qc2 (limbs (upD IF.x)) := set3_fr (b := w.heap.size + 1 + 1) (set3_fr (b := w.heap.size + 1) b4 j4.1 (.bool OF.s) (.slice p1 pn1 pc1) (.slice p2 pn2 pc2)) j4.2 (.bool IF.s) (.slice q1 qn1 qc1) (.slice q2 qn2 qc2)
            have VZ : Below w.heap.size w (((((((wY.setCell ⟨w.heap.size + 1, 0, none⟩ (.bool OF.s)).setCell ⟨w.heap.size + 1, 1, none⟩ (.slice p1 pn1 pc1)).setCell ⟨w.heap.size + 1, 2, none⟩ (.slice p2 pn2 pc2)).setCell ⟨w.heap.size + 1 + 1, 0, none⟩ (.bool IF.s)).setCell ⟨w.heap.size + 1 + 1, 1, none⟩ (.slice q1 qn1 qc1)).setCell ⟨w.heap.size + 1 + 1, 2, none⟩ (.slice q2 qn2 qc2))) := (((((VY.setCell (Nat.le_succ _) _).setCell (Nat.le_succ _) _).setCell (Nat.le_succ _) _).setCell (Nat.le_add_right _ 2) _).setCell (Nat.le_add_right _ 2) _).setCell (Nat.le_add_right _ 2) _
            clear b1 b2 b3 b4 j1 j2 j3 j4 P1l P2l Q1l Q2l a1 a2 hP hQ hbX hbY hX hY VY P1 P2 Q1 Q2 jP Xb16 Xb17 Fb16 Fb17 RB SB VB
            generalize ((((((wY.setCell ⟨w.heap.size + 1, 0, none⟩ (.bool OF.s)).setCell ⟨w.heap.size + 1, 1, none⟩ (.slice p1 pn1 pc1)).setCell ⟨w.heap.size + 1, 2, none⟩ (.slice p2 pn2 pc2)).setCell ⟨w.heap.size + 1 + 1, 0, none⟩ (.bool IF.s)).setCell ⟨w.heap.size + 1 + 1, 1, none⟩ (.slice q1 qn1 qc1)).setCell ⟨w.heap.size + 1 + 1, 2, none⟩ (.slice q2 qn2 qc2)) = WZ at y6 y7 g1 g2 g3 g4 VZ ⊢
            obtain ⟨t0, t1, t2, z0, z1, z2⟩ := y6
            obtain ⟨t3, t4, t5, z3, z4, z5⟩ := y7
            clear z0 z1 z2 z3 z4 z5
            go_step
            rename_i Q0 K0 hK0
            refine hK0 _ _ ?_
            clear hK0 K0
            go_step
            go_step
            refine bodyPost_ret (v := .tuple #[.agg #[.bool OF.s, .slice p1 pn1 pc1, .slice p2 pn2 pc2], .agg #[.bool IF.s, .slice q1 qn1 qc1, .slice q2 qn2 qc2], .bool ro, .bool ri, .int .i64 0]) (by simp [results, Tryz.results12, go_sem, t0, t1, t2, t3, t4, t5]) rfl ?_
            simp only [↓reduceIte]
            exact ⟨p1, pn1, pc1, p2, pn2, pc2, q1, qn1, qc1, q2, qn2, qc2, rfl, g1, g2, g3, g4, hap, VZ⟩

end Go.Proofs.YtfjgmpfpadfknaaGreatDoor

