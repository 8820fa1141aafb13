/-
  near.Reach of a finite float: the walk.
-/
import Derived.Test.YtpmncmglmobjoaaGreatDoorQbTNearH
import Derived.Test.YtpmncmglmobjoaaGreatDoorQbTMT36
set_option maxHeartbeats 2000000
set_option maxRecDepth 100000
namespace Go.Proofs.YtpmncmglmobjoaaGreatDoor
open Go.RowKit Go.Lb
attribute [local go_sem] Go.World.cell?_alloc_some
theorem seM_lt {m : Nat} (hm : m < 5) (g : Bool) : seM m g < 4 := by
 have hmm : m = 0 ∨ m = 1 ∨ m = 2 ∨ m = 3 ∨ m = 4 := by omega
 rcases hmm with rfl | rfl | rfl | rfl | rfl <;> cases g <;> decide
def stEd (P : Program) (o : Oper) (a : Act) (K : Act → World → Prop) (Q : Exit → Act → World → Prop) (p v : Value) (w : World) : Prop :=
 Oper.wp P { o with op := .store 49 (.const p) (.const v) } a w K Q
theorem wp_stEd (P : Program) (dst : Option Nat) (x y : Operand) (ty : TypeId) (pos : String) (aft : Array Edge) (g : Option (Nat × Bool)) (a : Act) (w : World) (K : Act → World → Prop) (Q : Exit → Act → World → Prop) :
 Oper.wp P { dst := dst, op := .store 49 x y, type := ty, pos := pos, after := aft, guard := g } a w K Q = stEd P { dst := dst, op := .store 49 x y, type := ty, pos := pos, after := aft, guard := g } a K Q (a.eval x) (a.eval y) w := rfl
theorem stEd_go (o : Oper) (a : Act) (K : Act → World → Prop) (Q : Exit → Act → World → Prop) (b : Nat) (w : World) (s1 : Bool) (a1 : Option Addr) (n1 c1 : Nat) (x1 : Int) (s2 : Bool) (a2 : Option Addr) (n2 c2 : Nat) (x2 : Int) (i o' : Bool) (ht : w.there b 0 8) :
 stEd Tryz.prog o a K Q (.pointer (some ⟨b, 0, none⟩)) (.agg #[.bool s1, .slice a1 n1 c1, .int .i64 x1, .bool s2, .slice a2 n2 c2, .int .i64 x2, .bool i, .bool o']) w = K (a.put o.dst undef) (set8 w b (.bool s1) (.slice a1 n1 c1) (.int .i64 x1) (.bool s2) (.slice a2 n2 c2) (.int .i64 x2) (.bool i) (.bool o')) := by
 have hr := run_storeVar_mid (P := Tryz.prog) w b 0 49 #[.bool s1, .slice a1 n1 c1, .int .i64 x1, .bool s2, .slice a2 n2 c2, .int .i64 x2, .bool i, .bool o'] ht (by kernel_rfl) (by simp [Value.oneCell'])
 unfold stEd Oper.wp execOp
 simp only [Act.eval, Instr.storeAt, Instr.sureAddr, Sem.run_bind, Sem.run_pure, Result.andThen_ok, hr]
 rfl
attribute [local go_sem ↓] wp_stEd
attribute [local go_sem] stEd_go
theorem fr_set8_ne {e : TypeId} {w : World} {base b : Nat} {ao : Option Addr} {n c : Nat} {xs : List Nat} (h : Fr e w base ao n c xs) (hb : blkOf ao ≠ some b) (u0 u1 u2 u3 u4 u5 u6 u7 : Value) : Fr e (set8 w b u0 u1 u2 u3 u4 u5 u6 u7) base ao n c xs :=
 fr_at h (by unfold set8; simp) fun g hg _ => by
  have hne : g ≠ b := fun h2 => hb (h2 ▸ hg)
  unfold set8
  rw [Below.heap_setCell _ _ _ _ hne, Below.heap_setCell _ _ _ _ hne, Below.heap_setCell _ _ _ _ hne, Below.heap_setCell _ _ _ _ hne, Below.heap_setCell _ _ _ _ hne, Below.heap_setCell _ _ _ _ hne, Below.heap_setCell _ _ _ _ hne, Below.heap_setCell _ _ _ _ hne]
theorem fr_in {e : TypeId} {w : World} {base : Nat} {ao : Option Addr} {n c : Nat} {xs : List Nat} (h : Fr e w base ao n c xs) {g : Nat} (hg : blkOf ao = some g) : base ≤ g ∧ g < w.heap.size := by
 rcases h.blk with ⟨h1, _⟩ | ⟨g', cur, h1, h2, h3, _⟩
 · rw [h1] at hg; cases hg
 · rw [h1] at hg
   have e1 : g' = g := by cases hg; rfl
   have := (Array.getElem?_eq_some_iff.1 h3).1
   omega
theorem box8_put {w : World} {b : Nat} {v0 v1 v2 v3 v4 v5 v6 v7 : Value} (h : Box8 w b v0 v1 v2 v3 v4 v5 v6 v7) (u0 u1 u2 u3 u4 u5 u6 u7 : Value) : Box8 (set8 w b u0 u1 u2 u3 u4 u5 u6 u7) b u0 u1 u2 u3 u4 u5 u6 u7 := by
 obtain ⟨t0, t1, t2, t3, t4, t5, t6, t7⟩ := h.set u0 u1 u2 u3 u4 u5 u6 u7
 obtain ⟨⟨_, _, _, z0, z1, z2⟩, _, _, _, _, _, z3, z4, z5, z6, z7⟩ := h
 unfold set8 at t0 t1 t2 t3 t4 t5 t6 t7 ⊢
 exact ⟨⟨t0, t1, t2, by simp [z0], by simp [z1], by simp [z2]⟩, t3, t4, t5, t6, t7, by simp [z3], by simp [z4], by simp [z5], by simp [z6], by simp [z7]⟩
def Apt4 (a b c d : Option Addr) : Prop := (∀ g, blkOf a = some g → blkOf b ≠ some g ∧ blkOf c ≠ some g ∧ blkOf d ≠ some g) ∧ (∀ g, blkOf b = some g → blkOf c ≠ some g ∧ blkOf d ≠ some g) ∧ (∀ g, blkOf c = some g → blkOf d ≠ some g)
def Rch (s1 s2 : Bool) (L H : Ds) (i o : Bool) (w : World) (en : Ending) (w' : World) : Prop :=
 ∃ a1 n1 c1 a2 n2 c2 a3 n3 c3 a4 n4 c4, en = .returned (.tuple #[.agg #[.bool s1, .slice a1 n1 c1, .slice a2 n2 c2], .agg #[.bool s2, .slice a3 n3 c3, .slice a4 n4 c4], .bool i, .bool o, .int .i64 0]) ∧
  Fr 40 w' w.heap.size a1 n1 c1 (limbs (upN L.N L.x)) ∧ Fr 40 w' w.heap.size a2 n2 c2 (limbs (upD L.x)) ∧ Fr 40 w' w.heap.size a3 n3 c3 (limbs (upN H.N H.x)) ∧ Fr 40 w' w.heap.size a4 n4 c4 (limbs (upD H.x)) ∧ Apt4 a1 a2 a3 a4 ∧ Below w.heap.size w w'
def RchG (g : Bool) (I O : Ds) (i o : Bool) (w : World) (en : Ending) (w' : World) : Prop :=
 match g with
 | false => Rch false false I O i o w en w'
 | true => Rch (decide (O.N ≠ 0)) (decide (I.N ≠ 0)) O I o i w en w'
theorem fr_drew {e : TypeId} {w : World} {base : Nat} {ao : Option Addr} {n c : Nat} {xs : List Nat} (h : Fr e w base ao n c xs) : Fr e w.drew base ao n c xs := fr_at h (Nat.le_refl _) fun _ _ _ => rfl
structure R18 (w' : World) (D s6 s7 P : Nat) (d0 d1 d2 u0 u1 u2 : Value) (i o : Bool) : Prop where
 d : Box3 w' D d0 d1 d2
 r : Res3 w' s6
 u : Box3 w' s7 u0 u1 u2
 i : w'.cell? ⟨P, 2 + 4, none⟩ = some (.bool i)
 o : w'.cell? ⟨P, 3 + 4, none⟩ = some (.bool o)
theorem R18.drew {w' : World} {D s6 s7 P : Nat} {d0 d1 d2 u0 u1 u2 : Value} {i o : Bool} (h : R18 w' D s6 s7 P d0 d1 d2 u0 u1 u2 i o) : R18 w'.drew D s6 s7 P d0 d1 d2 u0 u1 u2 i o :=
 ⟨h.d.stay (Below.refl _ _).drew, (h.r.box.stay (Below.refl _ _).drew).res, h.u.stay (Below.refl _ _).drew, h.i, h.o⟩
theorem R18.six {w' : World} {D s6 s7 P : Nat} {d0 d1 d2 u0 u1 u2 : Value} {i o : Bool} (h : R18 w' D s6 s7 P d0 d1 d2 u0 u1 u2 i o) (h1 : D ≠ s6) (h2 : s7 ≠ s6) (h3 : P ≠ s6) (x y z : Value) :
 R18 (((w'.setCell ⟨s6, 0, none⟩ x).setCell ⟨s6, 1, none⟩ y).setCell ⟨s6, 2, none⟩ z) D s6 s7 P d0 d1 d2 u0 u1 u2 i o :=
 ⟨set3_other h.d h1 _ _ _, (box3_put h.r.box x y z).res, set3_other h.u h2 _ _ _, (cell_set3 h3 _ _ _).trans h.i, (cell_set3 h3 _ _ _).trans h.o⟩
theorem R18.seven {w' : World} {D s6 s7 P : Nat} {d0 d1 d2 u0 u1 u2 : Value} {i o : Bool} (h : R18 w' D s6 s7 P d0 d1 d2 u0 u1 u2 i o) (h1 : D ≠ s7) (h2 : s6 ≠ s7) (h3 : P ≠ s7) :
 R18 (((w'.setCell ⟨s7, 0, none⟩ u0).setCell ⟨s7, 1, none⟩ u1).setCell ⟨s7, 2, none⟩ u2) D s6 s7 P d0 d1 d2 u0 u1 u2 i o :=
 ⟨set3_other h.d h1 _ _ _, (set3_other h.r.box h2 _ _ _).res, box3_put h.u _ _ _, (cell_set3 h3 _ _ _).trans h.i, (cell_set3 h3 _ _ _).trans h.o⟩
structure R21 (w' : World) (s6 s7 P : Nat) (d0 d1 d2 u0 u1 u2 : Value) (i o : Bool) : Prop where
 r : Box3 w' s6 d0 d1 d2
 u : Box3 w' s7 u0 u1 u2
 i : w'.cell? ⟨P, 2 + 4, none⟩ = some (.bool i)
 o : w'.cell? ⟨P, 3 + 4, none⟩ = some (.bool o)
theorem R21.drew {w' : World} {s6 s7 P : Nat} {d0 d1 d2 u0 u1 u2 : Value} {i o : Bool} (h : R21 w' s6 s7 P d0 d1 d2 u0 u1 u2 i o) : R21 w'.drew s6 s7 P d0 d1 d2 u0 u1 u2 i o :=
 ⟨h.r.stay (Below.refl _ _).drew, h.u.stay (Below.refl _ _).drew, h.i, h.o⟩
theorem R21.six {w' : World} {s6 s7 P : Nat} {d0 d1 d2 u0 u1 u2 : Value} {i o : Bool} (h : R21 w' s6 s7 P d0 d1 d2 u0 u1 u2 i o) (h2 : s7 ≠ s6) (h3 : P ≠ s6) :
 R21 (((w'.setCell ⟨s6, 0, none⟩ d0).setCell ⟨s6, 1, none⟩ d1).setCell ⟨s6, 2, none⟩ d2) s6 s7 P d0 d1 d2 u0 u1 u2 i o :=
 ⟨box3_put h.r _ _ _, set3_other h.u h2 _ _ _, (cell_set3 h3 _ _ _).trans h.i, (cell_set3 h3 _ _ _).trans h.o⟩
theorem R21.seven {w' : World} {s6 s7 P : Nat} {d0 d1 d2 u0 u1 u2 : Value} {i o : Bool} (h : R21 w' s6 s7 P d0 d1 d2 u0 u1 u2 i o) (h2 : s6 ≠ s7) (h3 : P ≠ s7) :
 R21 (((w'.setCell ⟨s7, 0, none⟩ u0).setCell ⟨s7, 1, none⟩ u1).setCell ⟨s7, 2, none⟩ u2) s6 s7 P d0 d1 d2 u0 u1 u2 i o :=
 ⟨set3_other h.r h2 _ _ _, box3_put h.u _ _ _, (cell_set3 h3 _ _ _).trans h.i, (cell_set3 h3 _ _ _).trans h.o⟩
theorem nearReach_ok (e f b m : Nat) (w : World) (h : fitsE (e : Int) (f : Int) b = 0) (hx : exN e f b ≠ maskN e) (hm : m < 5) (hT : Tab w) :
 Calls Tryz.prog 7 #[.agg #[.int .i64 (e : Int), .int .i64 (f : Int)], .int .u64 (b : Int), .int .u8 (m : Int)] w (RchG (sgB e f b) (rcI e f (mgN e f b) (seM m (sgB e f b))) (rcO e f (mgN e f b) (seM m (sgB e f b))) (rci (mgN e f b) (seM m (sgB e f b))) (rco (mgN e f b) (seM m (sgB e f b))) w) := by
 obtain ⟨hf, hp1⟩ := fitsE_parts h
 replace hp1 : b < pw (1 + e + f) := hp1
 obtain ⟨hk, hP⟩ := top63 hf
 have hPp := pw_pos (e + f)
 have h2p : b < 2 * pw (e + f) := by rw [pw_one_more] at hp1; exact hp1
 have hb : b < 18446744073709551616 := by omega
 have hml := mg_lt e f b
 obtain ⟨W2, hW2⟩ : ∃ W2 : World, W2 = ((w.alloc (.cells #[.int .i64 (e : Int), .int .i64 (f : Int)] 23)).alloc (.cells #[.bool false, .slice none 0 0, .slice none 0 0] 29)).alloc (.cells #[.bool false, .slice none 0 0, .slice none 0 0] 29) := ⟨_, rfl⟩
 have hb2 : Below w.heap.size w W2 := hW2 ▸ more (more (more (Below.refl _ _) _) _) _
 have F2 : Box2 W2 w.heap.size (.int .i64 (e : Int)) (.int .i64 (f : Int)) := by
  rw [hW2]; exact ((box2_new w _ _ _).alloc _).alloc _
 have R2 : Box3 W2 (w.heap.size + 1) (.bool false) (.slice none 0 0) (.slice none 0 0) := by
  have := (box3_new (w.alloc (.cells #[.int .i64 (e : Int), .int .i64 (f : Int)] 23)) (.bool false) (.slice none 0 0) (.slice none 0 0) 29).alloc (.cells #[.bool false, .slice none 0 0, .slice none 0 0] 29)
  rw [World.size_alloc] at this
  exact hW2 ▸ this
 have S2 : Box3 W2 (w.heap.size + 1 + 1) (.bool false) (.slice none 0 0) (.slice none 0 0) := by
  have := box3_new ((w.alloc (.cells #[.int .i64 (e : Int), .int .i64 (f : Int)] 23)).alloc (.cells #[.bool false, .slice none 0 0, .slice none 0 0] 29)) (.bool false) (.slice none 0 0) (.slice none 0 0) 29
  rw [World.size_alloc, World.size_alloc] at this
  exact hW2 ▸ this
 have hT2 := hT.below hb2
 have hTl := hT.lt
 obtain ⟨W3, hW3⟩ : ∃ W3 : World, W3 = W2.alloc (.cells #[.int .u64 (b : Int)] 24) := ⟨_, rfl⟩
 have hb3 : Below W2.heap.size W2 W3 := hW3 ▸ more (Below.refl _ _) _
 have v0 : W3.cell? ⟨W2.heap.size, 0, none⟩ = some (.int .u64 (b : Int)) := by rw [hW3]; simp
 have hnn : nanB e f b = false := decide_eq_false fun hh => hx hh.1
 have hfn : fnE (e : Int) (f : Int) [b] = 0 := by unfold fnE; rw [askL_one, anI_one, if_neg (by simp [h])]; simp [hx]
 have cN := nearNumber_any W2.heap.size (e : Int) (f : Int) [b] W3 (by simp) (by simp) (one_cells hb v0)
 rw [askL_one, anN_one, h, show nanB (e : Int).toNat (f : Int).toNat b = false from hnn] at cN
 have cF := fun P W (v : W.cell? ⟨P, 0, none⟩ = some (.int .u64 (b : Int))) => nearFinite_any P (e : Int) (f : Int) [b] W (by simp) (by simp) (one_cells hb v)
 rw [hfn] at cF
 have hmI : ¬ (4 : Int) < (m : Int) := by omega
 obtain ⟨X, hand, hX⟩ : ∃ X : Int, bits BinOp.and IntKind.u64 (b : Int) (pw (e + f) : Int) = X ∧ (X != 0) = sgB e f b := by
  have hat := and_top (b := b) (k := e + f) h2p hk
  refine ⟨_, hat, ?_⟩
  rw [sg_iff hp1]
  by_cases hh : b < pw (e + f)
  · rw [if_pos hh, decide_eq_false (by omega)]; rfl
  · rw [if_neg hh, decide_eq_true (by omega)]
    simp
    omega
 have hano : bits BinOp.andNot IntKind.u64 (b : Int) (pw (e + f) : Int) = (mgN e f b : Int) := u64_andNot_top hk h2p
 obtain ⟨hv, hs0, hx'⟩ := val_turned hf hp1 hx
 obtain ⟨rs1, rs2, _⟩ := rc_s hf hml hx' (seM m (sgB e f b))
 have cS := fun W => nearSign_any e f W hf
 have cE := fun W => nearSeen_any m (sgB e f b) W hm
 have cR := fun W hT => nearReach0_any e f (mgN e f b) (seM m (sgB e f b)) W hf hml hx' (seM_lt hm _) hT
 obtain ⟨dI, gI, dO, gO⟩ := mean_bds hf hml hx' (seM m (sgB e f b))
 obtain ⟨b1, b2, b3, b4⟩ := base_small hf
 have cI := fun ao n c W (j : Sl W ao n c (limbs (rcI e f (mgN e f b) (seM m (sgB e f b))).N)) => exRatio_any (rcI e f (mgN e f b) (seM m (sgB e f b))).s ao n c (rcI e f (mgN e f b) (seM m (sgB e f b))).x _ W j
 have cO := fun ao n c W (j : Sl W ao n c (limbs (rcO e f (mgN e f b) (seM m (sgB e f b))).N)) => exRatio_any (rcO e f (mgN e f b) (seM m (sgB e f b))).s ao n c (rcO e f (mgN e f b) (seM m (sgB e f b))).x _ W j
 have hI := fun W => rat6 dI gI (by omega) (by omega) (by omega) W
 have hO := fun W => rat6 dO gO (by omega) (by omega) (by omega) W
 simp only [hI, hO] at cI cO
 rw [rs1] at dI
 rw [rs2] at dO
 obtain ⟨i1, i2, i3, i4, i5, i6⟩ := low6 dI gI (by omega) (by omega) (by omega)
 obtain ⟨o1, o2, o3, o4, o5, o6⟩ := low6 dO gO (by omega) (by omega) (by omega)
 have nI := fun a1 a2 n1 n2 c1 c2 W (j1 : Sl W a1 n1 c1 (limbs (upN (rcI e f (mgN e f b) (seM m (sgB e f b))).N (rcI e f (mgN e f b) (seM m (sgB e f b))).x))) (j2 : Sl W a2 n2 c2 (limbs (upD (rcI e f (mgN e f b) (seM m (sgB e f b))).x))) hT => rtNeg_ok false a1 a2 n1 n2 c1 c2 _ _ W j1 j2 hT i1 (by rw [← j1.len]; exact i2) (by rw [← j2.len]; exact i3)
 have nO := fun a1 a2 n1 n2 c1 c2 W (j1 : Sl W a1 n1 c1 (limbs (upN (rcO e f (mgN e f b) (seM m (sgB e f b))).N (rcO e f (mgN e f b) (seM m (sgB e f b))).x))) (j2 : Sl W a2 n2 c2 (limbs (upD (rcO e f (mgN e f b) (seM m (sgB e f b))).x))) hT => rtNeg_ok false a1 a2 n1 n2 c1 c2 _ _ W j1 j2 hT o1 (by rw [← j1.len]; exact o2) (by rw [← j2.len]; exact o3)
 unfold RtnQ at nI nO
 simp only [val_limbs'] at nI nO
 rw [i4, i5, i6] at nI
 rw [o4, o5, o6] at nO
 rw [rs1] at cI
 rw [rs2] at cO
 unfold Edg at cR
 rw [rs1, rs2] at cR
 unfold Rtn at cI cO nI nO
 clear h2p hI hO dI gI dO gO b1 b2 b3 b4 hfn hnn hp1 hx hx' h hT hP hk hv hs0 rs1 rs2 i1 i2 i3 i4 i5 i6 o1 o2 o3 o4 o5 o6 hml hPp hf
 unfold RchG Rch
 generalize decide ((rcI e f (mgN e f b) (seM m (sgB e f b))).N ≠ 0) = zI at *
 generalize decide ((rcO e f (mgN e f b) (seM m (sgB e f b))).N ≠ 0) = zO at *
 generalize upN (rcI e f (mgN e f b) (seM m (sgB e f b))).N (rcI e f (mgN e f b) (seM m (sgB e f b))).x = IP at *
 generalize upD (rcI e f (mgN e f b) (seM m (sgB e f b))).x = IQ at *
 generalize (rcI e f (mgN e f b) (seM m (sgB e f b))).N = IN at *
 generalize (rcI e f (mgN e f b) (seM m (sgB e f b))).x = Ix at *
 generalize upN (rcO e f (mgN e f b) (seM m (sgB e f b))).N (rcO e f (mgN e f b) (seM m (sgB e f b))).x = OP at *
 generalize upD (rcO e f (mgN e f b) (seM m (sgB e f b))).x = OQ at *
 generalize (rcO e f (mgN e f b) (seM m (sgB e f b))).N = ON at *
 generalize (rcO e f (mgN e f b) (seM m (sgB e f b))).x = Ox at *
 generalize rci (mgN e f b) (seM m (sgB e f b)) = ri at *
 generalize rco (mgN e f b) (seM m (sgB e f b)) = ro at *
 generalize seM m (sgB e f b) = M at *
 generalize mgN e f b = B at *
 generalize pw (e + f) = P at *
 generalize sgB e f b = G at *
 go_enter Tryz.func7, Tryz.ntmps7
 go_upto_region 1 with fail
 rw [← hW2]
 clear hW2
 have ⟨f0, f1⟩ := F2
 go_wp2_with fail
 rw [← hW3]
 refine cN.mono ?_
 rintro en w4 ⟨rfl, hb4⟩
 have hs4 := next hb3 hb4
 have F4 := F2.stay hs4
 have R4 := R2.stay hs4
 have S4 := S2.stay hs4
 have V4 := next hb2 hs4
 have hT4 := hT2.below hs4
 clear F2 R2 S2 hb2 hb3 hb4 hs4 cN f0 f1 hT2 v0 hW3
 have ⟨f0, f1⟩ := F4
 obtain ⟨W5, hW5⟩ : ∃ W5 : World, W5 = w4.alloc (.cells #[.int .u64 (b : Int)] 24) := ⟨_, rfl⟩
 have hb5 : Below w4.heap.size w4 W5 := hW5 ▸ more (Below.refl _ _) _
 have v5 : W5.cell? ⟨w4.heap.size, 0, none⟩ = some (.int .u64 (b : Int)) := by rw [hW5]; simp
 go_wp2_with fail
 rw [← hW5]
 refine (cF w4.heap.size W5 v5).mono ?_
 rintro en w6 ⟨rfl, hb6⟩
 have hs6 := next hb5 hb6
 have F6 := F4.stay hs6
 have R6 := R4.stay hs6
 have S6 := S4.stay hs6
 have V6 := next V4 hs6
 have hT6 := hT4.below hs6
 clear F4 R4 S4 V4 hb5 hb6 hs6 cF f0 f1 hT4 v5 hW5
 have ⟨f0, f1⟩ := F6
 go_wp2_with fail
 refine (cS w6).mono ?_
 rintro en w7 ⟨rfl, hb7⟩
 have F7 := F6.stay hb7
 have R7 := R6.stay hb7
 have S7 := S6.stay hb7
 have V7 := next V6 hb7
 have hT7 := hT6.below hb7
 clear F6 R6 S6 V6 hb7 f0 f1 hT6
 have ⟨f0, f1⟩ := F7
 have hX2 : decide (X = 0) = !G := by rw [← hX]; by_cases h0 : X = 0 <;> simp [h0]
 go_upto_region 9 with fail
 go_cut [12, 10] from 43 to 54 (fun v12 v10 wx => ∃ P a1 n1 c1 a2 n2 c2, v12 = .pointer (some ⟨P, 0, none⟩) ∧ v10 = .int .i64 0 ∧ Below w7.heap.size w7 wx ∧ w7.heap.size ≤ P ∧ Box8 wx P (.bool false) (.slice a1 n1 c1) (.int .i64 Ix) (.bool false) (.slice a2 n2 c2) (.int .i64 Ox) (.bool ri) (.bool ro) ∧ Sl wx a1 n1 c1 (limbs IN) ∧ Sl wx a2 n2 c2 (limbs ON))
 case first => as_aux_lemma =>
  clear cI cO nI nO
  have kS : ∀ w' : World, Below w7.heap.size w7 w' → (w'.cell? ⟨w.heap.size, 0, none⟩ = some (.int .i64 (e : Int)) ∧ w'.cell? ⟨w.heap.size, 1, none⟩ = some (.int .i64 (f : Int)) ∧ Below w7.heap.size w7 w') := fun w' hb => ⟨cellStay f0 hb, cellStay f1 hb, hb⟩
  go_region_held3 (fun w' => w'.cell? ⟨w.heap.size, 0, none⟩ = some (.int .i64 (e : Int)) ∧ w'.cell? ⟨w.heap.size, 1, none⟩ = some (.int .i64 (f : Int)) ∧ Below w7.heap.size w7 w')
   ((refine kS _ ?_; (repeat (with_reducible (first | exact hAZ | exact hAX | exact Below.refl _ _ | refine Below.drew ?_ | refine more ?_ _ | refine set8_below ?_ ?_ _ _ _ _ _ _ _ _ | refine Below.setCell ?_ ?_ _ | exact Nat.le_refl _ | exact szX | exact szZ))); done))
   (first
     | (go_at_call 16; (with_reducible refine (cS _).mono ?_); rintro en wX ⟨rfl, hbX⟩; have hAX : Below w7.heap.size w7 wX := (by first | exact hbX | exact undrew hbX | exact next (more (Below.refl _ _) _) hbX | exact next (more (Below.refl _ _) _).drew hbX); have hTX := hT7.below hAX; have szX := hAX.size; (try have Z := (box8_new w7 (.bool false) (.slice none 0 0) (.int .i64 0) (.bool false) (.slice none 0 0) (.int .i64 0) (.bool false) (.bool false) 49).stay (by first | exact hbX | exact undrew hbX)))
     | (go_at_call 18; (with_reducible refine (cE _).mono ?_); rintro en wY ⟨rfl, rfl⟩)
     | (go_at_call 17; (with_reducible refine (cR _ (by first | exact hTX | exact hTX.alloc _ | exact (hTX.alloc _).drew)).mono ?_); rintro en wZ ⟨ra, rk, rc, sa, sk, sc, rfl, rF, sF, hbX⟩; have hXZ : Below wX.heap.size wX wZ := (by first | exact hbX | exact undrew hbX | exact next (more (Below.refl _ _) _) hbX | exact next (more (Below.refl _ _) _).drew hbX); have hAZ := next hAX hXZ; have szZ := hAZ.size; have Z4 := box8_new wZ (.bool false) (.slice none 0 0) (.int .i64 0) (.bool false) (.slice none 0 0) (.int .i64 0) (.bool false) (.bool false) 49; have T4 := box8_there Z4; (first | (have Z3 := Z.stay hXZ; have T3 := box8_there Z3) | (have Z3 := (box8_new wX (.bool false) (.slice none 0 0) (.int .i64 0) (.bool false) (.slice none 0 0) (.int .i64 0) (.bool false) (.bool false) 49).stay (by first | exact hbX | exact undrew hbX); have T3 := box8_there Z3) | skip)))
  all_goals go_split_ands
  all_goals go_wp2
  all_goals go_meet
  all_goals
   refine ⟨_, ra, rk, rc, sa, sk, sc, rfl, rfl, ?_, ?_, ?_, ?_, ?_⟩
   · with_reducible refine set8_below ?_ ?_ _ _ _ _ _ _ _ _
     · with_reducible (first | exact hAZ | exact more hAZ _)
     · with_reducible (first | exact Nat.le_refl _ | exact szX | exact szZ)
   · with_reducible (first | exact Nat.le_refl _ | exact szX | exact szZ)
   · with_reducible (first | exact box8_put Z3 _ _ _ _ _ _ _ _ | exact box8_put Z4 _ _ _ _ _ _ _ _)
   · with_reducible (first | refine (fr_set8_ne rF ?_ _ _ _ _ _ _ _ _).sl | refine (fr_set8_ne (rF.alloc _) ?_ _ _ _ _ _ _ _ _).sl)
     intro hg
     have q1 := fr_in rF hg
     (try have q2 := Z3.a.lt)
     (try have q3 := Z.a.lt)
     (try simp only [World.size_alloc] at q1)
     omega
   · with_reducible (first | refine (fr_set8_ne sF ?_ _ _ _ _ _ _ _ _).sl | refine (fr_set8_ne (sF.alloc _) ?_ _ _ _ _ _ _ _ _).sl)
     intro hg
     have q1 := fr_in sF hg
     (try have q2 := Z3.a.lt)
     (try have q3 := Z.a.lt)
     (try simp only [World.size_alloc] at q1)
     omega
 case rest =>
  obtain ⟨Pb, a1, n1, c1, a2, n2, c2, rfl, rfl, hbc, hPc, ZB, s1, s2⟩ := hcut
  clear cR cS cE hand hano hX hX2 hmI f0 f1
  have lS7 := S7.lt
  have R8 := R7.stay hbc
  have S8 := S7.stay hbc
  have V8 := next V7 hbc
  have hT8 := hT7.below hbc
  clear R7 S7 V7 hT7 F7 hbc
  have ⟨⟨e0, e1, e2, _, _, _⟩, e3, e4, e5, e6, e7, _, _, _, _, _⟩ := ZB
  go_wp2_with fail
  refine (cI a1 n1 c1 wc s1).mono ?_
  rintro en w8 ⟨p1, pn1, pc1, p2, pn2, pc2, rfl, I1, I2, hI12, hb8⟩
  have hs8 := more hb8 (.cells #[.bool false, .slice p1 pn1 pc1, .slice p2 pn2 pc2] 29)
  have D8 := box3_new w8 (.bool false) (.slice p1 pn1 pc1) (.slice p2 pn2 pc2) 29
  have J1 := I1.alloc (.cells #[.bool false, .slice p1 pn1 pc1, .slice p2 pn2 pc2] 29)
  have J2 := I2.alloc (.cells #[.bool false, .slice p1 pn1 pc1, .slice p2 pn2 pc2] 29)
  have R9 := R8.stay hs8
  have S9 := S8.stay hs8
  have Z9 := ZB.stay hs8
  have s9 := s2.below hs8
  have V9 := next V8 hs8
  have hT9 := hT8.below hs8
  have lS := S8.lt
  have lP := ZB.a.lt
  have z8 := hs8.size
  have z7 := hb8.size
  clear cI s1 s2 I1 I2 hb8 hs8 R8 S8 ZB V8 hT8 e0 e1 e2 e3 e4 e5 e6 e7
  go_upto_region 13 with fail
  obtain ⟨Db, hDb⟩ : ∃ q, q = w8.heap.size := ⟨_, rfl⟩
  rw [← hDb] at D8 ⊢
  have hDl : wc.heap.size ≤ Db := by omega
  clear hDb
  generalize w8.alloc (.cells #[.bool false, .slice p1 pn1 pc1, .slice p2 pn2 pc2] 29) = w9 at *
  have ⟨⟨e0, e1, e2, _, _, _⟩, e3, e4, e5, e6, e7, _, _, _, _, _⟩ := Z9
  go_wp2_with fail
  refine (cO a2 n2 c2 w9 s9).mono ?_
  rintro en wA ⟨q1, qn1, qc1, q2, qn2, qc2, rfl, O1, O2, hO12, hbA⟩
  have RA := R9.stay hbA
  have SA := S9.stay hbA
  have ZA := Z9.stay hbA
  have DA := D8.stay hbA
  have JA1 := J1.below hbA
  have JA2 := J2.below hbA
  have VA := next V9 hbA
  have hTA := hT9.below hbA
  have hap : ∀ a, (∀ g, blkOf a = some g → g < w9.heap.size) → ∀ g, blkOf a = some g → blkOf q1 ≠ some g ∧ blkOf q2 ≠ some g := fun a ha g hg => by
   have h1 := ha g hg
   exact ⟨fun h => by have := (fr_in O1 h).1; omega, fun h => by have := (fr_in O2 h).1; omega⟩
  have hap1 := hap p1 (fun g hg => (fr_in J1 hg).2)
  have hap2 := hap p2 (fun g hg => (fr_in J2 hg).2)
  have hDlt := D8.lt
  have lA := hbA.size
  clear cO s9 R9 S9 Z9 D8 J1 J2 V9 hT9 hbA hap e0 e1 e2 e3 e4 e5 e6 e7
  have ⟨_, _, _, u0, u1, u2⟩ := SA
  have hSne : blkOf q1 ≠ some (w.heap.size + 1 + 1) ∧ blkOf q2 ≠ some (w.heap.size + 1 + 1) ∧ blkOf p1 ≠ some (w.heap.size + 1 + 1) ∧ blkOf p2 ≠ some (w.heap.size + 1 + 1) :=
   ⟨fun h => by have := (fr_in O1 h).1; omega, fun h => by have := (fr_in O2 h).1; omega, fun h => by have := (fr_in JA1 h).1; omega, fun h => by have := (fr_in JA2 h).1; omega⟩
  go_upto_region 15 with fail
  have SB := box3_put SA (.bool false) (.slice q1 qn1 qc1) (.slice q2 qn2 qc2)
  have RB := set3_other RA (show w.heap.size + 1 ≠ w.heap.size + 1 + 1 by omega) (.bool false) (.slice q1 qn1 qc1) (.slice q2 qn2 qc2)
  have DB := set3_other DA (show Db ≠ w.heap.size + 1 + 1 by omega) (.bool false) (.slice q1 qn1 qc1) (.slice q2 qn2 qc2)
  have ZB := set3_box8 ZA (show Pb ≠ w.heap.size + 1 + 1 by omega) (.bool false) (.slice q1 qn1 qc1) (.slice q2 qn2 qc2)
  have P1 := set3_fr JA1 hSne.2.2.1 (.bool false) (.slice q1 qn1 qc1) (.slice q2 qn2 qc2)
  have P2 := set3_fr JA2 hSne.2.2.2 (.bool false) (.slice q1 qn1 qc1) (.slice q2 qn2 qc2)
  have Q1 := set3_fr O1 hSne.1 (.bool false) (.slice q1 qn1 qc1) (.slice q2 qn2 qc2)
  have Q2 := set3_fr O2 hSne.2.1 (.bool false) (.slice q1 qn1 qc1) (.slice q2 qn2 qc2)
  have VB : Below w.heap.size w (((wA.setCell ⟨w.heap.size + 1 + 1, 0, none⟩ (.bool false)).setCell ⟨w.heap.size + 1 + 1, 1, none⟩ (.slice q1 qn1 qc1)).setCell ⟨w.heap.size + 1 + 1, 2, none⟩ (.slice q2 qn2 qc2)) := ((VA.setCell (by simp; omega) _).setCell (by simp; omega) _).setCell (by simp; omega) _
  have hTB := tab_set3 hTA (show w.heap.size + 1 + 1 ≠ 0 by omega) (.bool false) (.slice q1 qn1 qc1) (.slice q2 qn2 qc2)
  clear SA RA DA ZA JA1 JA2 O1 O2 VA hTA u0 u1 u2
  generalize ((wA.setCell ⟨w.heap.size + 1 + 1, 0, none⟩ (.bool false)).setCell ⟨w.heap.size + 1 + 1, 1, none⟩ (.slice q1 qn1 qc1)).setCell ⟨w.heap.size + 1 + 1, 2, none⟩ (.slice q2 qn2 qc2) = wB at *
  have hDP : Pb < Db := by omega
  have hD1 : Db ≠ w.heap.size + 1 := by omega
  have hP1 : Pb ≠ w.heap.size + 1 := by omega
  have hne : ∀ {ao : Option Addr} {n c : Nat} {xs : List Nat}, Fr 40 wB w9.heap.size ao n c xs → blkOf ao ≠ some (w.heap.size + 1) ∧ blkOf ao ≠ some (w.heap.size + 1 + 1) := fun F => ⟨fun h => by have := (fr_in F h).1; omega, fun h => by have := (fr_in F h).1; omega⟩
  have hne' : ∀ {ao : Option Addr} {n c : Nat} {xs : List Nat}, Fr 40 wB wc.heap.size ao n c xs → blkOf ao ≠ some (w.heap.size + 1) ∧ blkOf ao ≠ some (w.heap.size + 1 + 1) := fun F => ⟨fun h => by have := (fr_in F h).1; omega, fun h => by have := (fr_in F h).1; omega⟩
  have hwc : w.heap.size ≤ wc.heap.size := by omega
  have hw9 : w.heap.size ≤ w9.heap.size := by omega
  cases G
  · clear nI nO hTB
    have m0 : R18 wB Db (w.heap.size + 1) (w.heap.size + 1 + 1) Pb (.bool false) (.slice p1 pn1 pc1) (.slice p2 pn2 pc2) (.bool false) (.slice q1 qn1 qc1) (.slice q2 qn2 qc2) ri ro := ⟨DB, RB.res, SB, ZB.c6, ZB.c7⟩
    have m6 : ∀ W, R18 W Db (w.heap.size + 1) (w.heap.size + 1 + 1) Pb (.bool false) (.slice p1 pn1 pc1) (.slice p2 pn2 pc2) (.bool false) (.slice q1 qn1 qc1) (.slice q2 qn2 qc2) ri ro → R18 (((W.setCell ⟨w.heap.size + 1, 0, none⟩ (.bool false)).setCell ⟨w.heap.size + 1, 1, none⟩ (.slice p1 pn1 pc1)).setCell ⟨w.heap.size + 1, 2, none⟩ (.slice p2 pn2 pc2)) Db (w.heap.size + 1) (w.heap.size + 1 + 1) Pb (.bool false) (.slice p1 pn1 pc1) (.slice p2 pn2 pc2) (.bool false) (.slice q1 qn1 qc1) (.slice q2 qn2 qc2) ri ro := fun W h => h.six hD1 (by omega) hP1 _ _ _
    have m7 : ∀ W, R18 W Db (w.heap.size + 1) (w.heap.size + 1 + 1) Pb (.bool false) (.slice p1 pn1 pc1) (.slice p2 pn2 pc2) (.bool false) (.slice q1 qn1 qc1) (.slice q2 qn2 qc2) ri ro → R18 (((W.setCell ⟨w.heap.size + 1 + 1, 0, none⟩ (.bool false)).setCell ⟨w.heap.size + 1 + 1, 1, none⟩ (.slice q1 qn1 qc1)).setCell ⟨w.heap.size + 1 + 1, 2, none⟩ (.slice q2 qn2 qc2)) Db (w.heap.size + 1) (w.heap.size + 1 + 1) Pb (.bool false) (.slice p1 pn1 pc1) (.slice p2 pn2 pc2) (.bool false) (.slice q1 qn1 qc1) (.slice q2 qn2 qc2) ri ro := fun W h => h.seven (by omega) (by omega) (by omega)
    have kS : ∀ w', R18 w' Db (w.heap.size + 1) (w.heap.size + 1 + 1) Pb (.bool false) (.slice p1 pn1 pc1) (.slice p2 pn2 pc2) (.bool false) (.slice q1 qn1 qc1) (.slice q2 qn2 qc2) ri ro → (w'.cell? ⟨Db, 0, none⟩ = some (.bool false) ∧ w'.cell? ⟨Db, 1, none⟩ = some (.slice p1 pn1 pc1) ∧ w'.cell? ⟨Db, 2, none⟩ = some (.slice p2 pn2 pc2) ∧ w'.cell? ⟨w.heap.size + 1 + 1, 0, none⟩ = some (.bool false) ∧ w'.cell? ⟨w.heap.size + 1 + 1, 1, none⟩ = some (.slice q1 qn1 qc1) ∧ w'.cell? ⟨w.heap.size + 1 + 1, 2, none⟩ = some (.slice q2 qn2 qc2) ∧ w'.cell? ⟨Pb, 6, none⟩ = some (.bool ri) ∧ w'.cell? ⟨Pb, 7, none⟩ = some (.bool ro) ∧ w'.cell? ⟨w.heap.size + 1, 0, none⟩ = some (cellOf w' (w.heap.size + 1) 0) ∧ w'.cell? ⟨w.heap.size + 1, 1, none⟩ = some (cellOf w' (w.heap.size + 1) 1) ∧ w'.cell? ⟨w.heap.size + 1, 2, none⟩ = some (cellOf w' (w.heap.size + 1) 2) ∧ w'.frozen? ⟨w.heap.size + 1, 0, none⟩ = false ∧ w'.frozen? ⟨w.heap.size + 1, 1, none⟩ = false ∧ w'.frozen? ⟨w.heap.size + 1, 2, none⟩ = false ∧ w'.frozen? ⟨w.heap.size + 1 + 1, 0, none⟩ = false ∧ w'.frozen? ⟨w.heap.size + 1 + 1, 1, none⟩ = false ∧ w'.frozen? ⟨w.heap.size + 1 + 1, 2, none⟩ = false) := fun w' h => ⟨h.d.c0, h.d.c1, h.d.c2, h.u.c0, h.u.c1, h.u.c2, h.i, h.o, h.r.c0, h.r.c1, h.r.c2, h.r.z0, h.r.z1, h.r.z2, h.u.z0, h.u.z1, h.u.z2⟩
    go_upto_region 18 with fail
    have ⟨r0, r1, r2, r3, r4, r5⟩ := RB
    have ⟨s0, s1, s2, s3, s4, s5⟩ := SB
    go_region_held3 (fun w' => w'.cell? ⟨Db, 0, none⟩ = some (.bool false) ∧ w'.cell? ⟨Db, 1, none⟩ = some (.slice p1 pn1 pc1) ∧ w'.cell? ⟨Db, 2, none⟩ = some (.slice p2 pn2 pc2) ∧ w'.cell? ⟨w.heap.size + 1 + 1, 0, none⟩ = some (.bool false) ∧ w'.cell? ⟨w.heap.size + 1 + 1, 1, none⟩ = some (.slice q1 qn1 qc1) ∧ w'.cell? ⟨w.heap.size + 1 + 1, 2, none⟩ = some (.slice q2 qn2 qc2) ∧ w'.cell? ⟨Pb, 6, none⟩ = some (.bool ri) ∧ w'.cell? ⟨Pb, 7, none⟩ = some (.bool ro) ∧ w'.cell? ⟨w.heap.size + 1, 0, none⟩ = some (cellOf w' (w.heap.size + 1) 0) ∧ w'.cell? ⟨w.heap.size + 1, 1, none⟩ = some (cellOf w' (w.heap.size + 1) 1) ∧ w'.cell? ⟨w.heap.size + 1, 2, none⟩ = some (cellOf w' (w.heap.size + 1) 2) ∧ w'.frozen? ⟨w.heap.size + 1, 0, none⟩ = false ∧ w'.frozen? ⟨w.heap.size + 1, 1, none⟩ = false ∧ w'.frozen? ⟨w.heap.size + 1, 2, none⟩ = false ∧ w'.frozen? ⟨w.heap.size + 1 + 1, 0, none⟩ = false ∧ w'.frozen? ⟨w.heap.size + 1 + 1, 1, none⟩ = false ∧ w'.frozen? ⟨w.heap.size + 1 + 1, 2, none⟩ = false)
     ((refine kS _ ?_; (repeat (with_reducible (first | exact m0 | refine m6 _ ?_ | refine m7 _ ?_ | refine R18.drew ?_))); done))
     (fail)
    have SE := SB
    have RE := RB
    have y6 := set3_other (box3_put RE (.bool false) (.slice p1 pn1 pc1) (.slice p2 pn2 pc2)) (show w.heap.size + 1 ≠ w.heap.size + 1 + 1 by omega) (.bool false) (.slice q1 qn1 qc1) (.slice q2 qn2 qc2)
    have y7 := box3_put (set3_other SE (show w.heap.size + 1 + 1 ≠ w.heap.size + 1 by omega) (.bool false) (.slice p1 pn1 pc1) (.slice p2 pn2 pc2)) (.bool false) (.slice q1 qn1 qc1) (.slice q2 qn2 qc2)
    have ⟨t0, t1, t2, _, _, _⟩ := y6
    have ⟨t3, t4, t5, _, _, _⟩ := y7
    go_split_ands
    go_wp2
    refine bodyPost_ret (v := .tuple #[.agg #[.bool false, .slice p1 pn1 pc1, .slice p2 pn2 pc2], .agg #[.bool false, .slice q1 qn1 qc1, .slice q2 qn2 qc2], .bool ri, .bool ro, .int .i64 0]) (by simp [results, Tryz.results7, go_sem, t0, t1, t2, t3, t4, t5]) rfl ?_
    have g1 := set3_fr (set3_fr P1 (hne' P1).1 (.bool false) (.slice p1 pn1 pc1) (.slice p2 pn2 pc2)) (hne' P1).2 (.bool false) (.slice q1 qn1 qc1) (.slice q2 qn2 qc2)
    have g2 := set3_fr (set3_fr P2 (hne' P2).1 (.bool false) (.slice p1 pn1 pc1) (.slice p2 pn2 pc2)) (hne' P2).2 (.bool false) (.slice q1 qn1 qc1) (.slice q2 qn2 qc2)
    have g3 := set3_fr (set3_fr Q1 (hne Q1).1 (.bool false) (.slice p1 pn1 pc1) (.slice p2 pn2 pc2)) (hne Q1).2 (.bool false) (.slice q1 qn1 qc1) (.slice q2 qn2 qc2)
    have g4 := set3_fr (set3_fr Q2 (hne Q2).1 (.bool false) (.slice p1 pn1 pc1) (.slice p2 pn2 pc2)) (hne Q2).2 (.bool false) (.slice q1 qn1 qc1) (.slice q2 qn2 qc2)
    refine ⟨p1, pn1, pc1, p2, pn2, pc2, q1, qn1, qc1, q2, qn2, qc2, rfl, fr_drew (g1.mono hwc), fr_drew (g2.mono hwc), fr_drew (g3.mono hw9), fr_drew (g4.mono hw9), ⟨fun g hg => ⟨hI12 g hg, hap1 g hg⟩, hap2, hO12⟩, ?_⟩
    exact ((((((VB.setCell (by simp) _).setCell (by simp) _).setCell (by simp) _).setCell (by simp; omega) _).setCell (by simp; omega) _).setCell (by simp; omega) _).drew
  · have ⟨s0, s1, s2, _, _, _⟩ := SB
    go_wp2_with fail
    refine (nO q1 q2 qn1 qn2 qc1 qc2 wB Q1.sl Q2.sl hTB).mono ?_
    rintro en wC ⟨m1, mn1, mc1, m2, mn2, mc2, rfl, M1, M2, hM12, hbC⟩
    have RC := RB.stay hbC
    have SC := SB.stay hbC
    have DC := DB.stay hbC
    have ZC := ZB.stay hbC
    have PC1 := P1.below hbC
    have PC2 := P2.below hbC
    have VC := next VB hbC
    have hTC := hTB.below hbC
    have lB := SB.lt
    have lD := DB.lt
    have ⟨r0, r1, r2, r3, r4, r5⟩ := RC
    have hC6 : blkOf m1 ≠ some (w.heap.size + 1) ∧ blkOf m2 ≠ some (w.heap.size + 1) ∧ blkOf m1 ≠ some (w.heap.size + 1 + 1) ∧ blkOf m2 ≠ some (w.heap.size + 1 + 1) := ⟨fun h => by have := (fr_in M1 h).1; omega, fun h => by have := (fr_in M2 h).1; omega, fun h => by have := (fr_in M1 h).1; omega, fun h => by have := (fr_in M2 h).1; omega⟩
    have hpC : blkOf p1 ≠ some (w.heap.size + 1) ∧ blkOf p2 ≠ some (w.heap.size + 1) := ⟨(hne' P1).1, (hne' P2).1⟩
    have hwB : w.heap.size ≤ wB.heap.size := VB.size
    have lC := hbC.size
    clear nO RB SB DB ZB P1 P2 Q1 Q2 VB hTB hbC s0 s1 s2 hne hne'
    go_upto_region 20 with fail
    have RD := box3_put RC (.bool zO) (.slice m1 mn1 mc1) (.slice m2 mn2 mc2)
    have SD := set3_other SC (show w.heap.size + 1 + 1 ≠ w.heap.size + 1 by omega) (.bool zO) (.slice m1 mn1 mc1) (.slice m2 mn2 mc2)
    have DD := set3_other DC hD1 (.bool zO) (.slice m1 mn1 mc1) (.slice m2 mn2 mc2)
    have ZD := set3_box8 ZC hP1 (.bool zO) (.slice m1 mn1 mc1) (.slice m2 mn2 mc2)
    have PD1 := set3_fr PC1 hpC.1 (.bool zO) (.slice m1 mn1 mc1) (.slice m2 mn2 mc2)
    have PD2 := set3_fr PC2 hpC.2 (.bool zO) (.slice m1 mn1 mc1) (.slice m2 mn2 mc2)
    have MD1 := set3_fr M1 hC6.1 (.bool zO) (.slice m1 mn1 mc1) (.slice m2 mn2 mc2)
    have MD2 := set3_fr M2 hC6.2.1 (.bool zO) (.slice m1 mn1 mc1) (.slice m2 mn2 mc2)
    have VD : Below w.heap.size w (((wC.setCell ⟨w.heap.size + 1, 0, none⟩ (.bool zO)).setCell ⟨w.heap.size + 1, 1, none⟩ (.slice m1 mn1 mc1)).setCell ⟨w.heap.size + 1, 2, none⟩ (.slice m2 mn2 mc2)) := ((VC.setCell (by simp) _).setCell (by simp) _).setCell (by simp) _
    have hTD := tab_set3 hTC (show w.heap.size + 1 ≠ 0 by omega) (.bool zO) (.slice m1 mn1 mc1) (.slice m2 mn2 mc2)
    have lDD : wC.heap.size ≤ (((wC.setCell ⟨w.heap.size + 1, 0, none⟩ (.bool zO)).setCell ⟨w.heap.size + 1, 1, none⟩ (.slice m1 mn1 mc1)).setCell ⟨w.heap.size + 1, 2, none⟩ (.slice m2 mn2 mc2)).heap.size := by simp
    clear RC SC DC ZC PC1 PC2 M1 M2 VC hTC r0 r1 r2 r3 r4 r5
    generalize (((wC.setCell ⟨w.heap.size + 1, 0, none⟩ (.bool zO)).setCell ⟨w.heap.size + 1, 1, none⟩ (.slice m1 mn1 mc1)).setCell ⟨w.heap.size + 1, 2, none⟩ (.slice m2 mn2 mc2)) = wD at *
    have ⟨d0, d1, d2, _, _, _⟩ := DD
    go_wp2_with fail
    refine (nI p1 p2 pn1 pn2 pc1 pc2 wD PD1.sl PD2.sl hTD).mono ?_
    rintro en wE ⟨k1, kn1, kc1, k2, kn2, kc2, rfl, K1, K2, hK12, hbE⟩
    have RE := RD.stay hbE
    have SE0 := SD.stay hbE
    have ZE := ZD.stay hbE
    have ME1 := MD1.below hbE
    have ME2 := MD2.below hbE
    have VE := next VD hbE
    have hE7 : blkOf k1 ≠ some (w.heap.size + 1) ∧ blkOf k2 ≠ some (w.heap.size + 1) ∧ blkOf k1 ≠ some (w.heap.size + 1 + 1) ∧ blkOf k2 ≠ some (w.heap.size + 1 + 1) := ⟨fun h => by have := (fr_in K1 h).1; omega, fun h => by have := (fr_in K2 h).1; omega, fun h => by have := (fr_in K1 h).1; omega, fun h => by have := (fr_in K2 h).1; omega⟩
    have hapM1 : ∀ g, blkOf m1 = some g → blkOf k1 ≠ some g ∧ blkOf k2 ≠ some g := fun g hg => by
     have h1 := (fr_in MD1 hg).2
     exact ⟨fun h => by have := (fr_in K1 h).1; omega, fun h => by have := (fr_in K2 h).1; omega⟩
    have hapM2 : ∀ g, blkOf m2 = some g → blkOf k1 ≠ some g ∧ blkOf k2 ≠ some g := fun g hg => by
     have h1 := (fr_in MD2 hg).2
     exact ⟨fun h => by have := (fr_in K1 h).1; omega, fun h => by have := (fr_in K2 h).1; omega⟩
    have hwD : w.heap.size ≤ wD.heap.size := VD.size
    have ⟨r0, r1, r2, r3, r4, r5⟩ := SE0
    clear nI RD SD DD ZD PD1 PD2 MD1 MD2 VD hTD hbE d0 d1 d2
    go_upto_region 21 with fail
    have SE := box3_put SE0 (.bool zI) (.slice k1 kn1 kc1) (.slice k2 kn2 kc2)
    have RF := set3_other RE (show w.heap.size + 1 ≠ w.heap.size + 1 + 1 by omega) (.bool zI) (.slice k1 kn1 kc1) (.slice k2 kn2 kc2)
    have ZF := set3_box8 ZE (show Pb ≠ w.heap.size + 1 + 1 by omega) (.bool zI) (.slice k1 kn1 kc1) (.slice k2 kn2 kc2)
    have MF1 := set3_fr ME1 hC6.2.2.1 (.bool zI) (.slice k1 kn1 kc1) (.slice k2 kn2 kc2)
    have MF2 := set3_fr ME2 hC6.2.2.2 (.bool zI) (.slice k1 kn1 kc1) (.slice k2 kn2 kc2)
    have KF1 := set3_fr K1 hE7.2.2.1 (.bool zI) (.slice k1 kn1 kc1) (.slice k2 kn2 kc2)
    have KF2 := set3_fr K2 hE7.2.2.2 (.bool zI) (.slice k1 kn1 kc1) (.slice k2 kn2 kc2)
    have VF : Below w.heap.size w (((wE.setCell ⟨w.heap.size + 1 + 1, 0, none⟩ (.bool zI)).setCell ⟨w.heap.size + 1 + 1, 1, none⟩ (.slice k1 kn1 kc1)).setCell ⟨w.heap.size + 1 + 1, 2, none⟩ (.slice k2 kn2 kc2)) := ((VE.setCell (by simp; omega) _).setCell (by simp; omega) _).setCell (by simp; omega) _
    clear RE SE0 ZE ME1 ME2 K1 K2 VE r0 r1 r2 r3 r4 r5
    generalize (((wE.setCell ⟨w.heap.size + 1 + 1, 0, none⟩ (.bool zI)).setCell ⟨w.heap.size + 1 + 1, 1, none⟩ (.slice k1 kn1 kc1)).setCell ⟨w.heap.size + 1 + 1, 2, none⟩ (.slice k2 kn2 kc2)) = wF at *
    have ⟨r0, r1, r2, r3, r4, r5⟩ := RF
    have ⟨s0, s1, s2, s3, s4, s5⟩ := SE
    have m0 : R21 wF (w.heap.size + 1) (w.heap.size + 1 + 1) Pb (.bool zO) (.slice m1 mn1 mc1) (.slice m2 mn2 mc2) (.bool zI) (.slice k1 kn1 kc1) (.slice k2 kn2 kc2) ri ro := ⟨RF, SE, ZF.c6, ZF.c7⟩
    have m6 : ∀ W, R21 W (w.heap.size + 1) (w.heap.size + 1 + 1) Pb (.bool zO) (.slice m1 mn1 mc1) (.slice m2 mn2 mc2) (.bool zI) (.slice k1 kn1 kc1) (.slice k2 kn2 kc2) ri ro → R21 (((W.setCell ⟨w.heap.size + 1, 0, none⟩ (.bool zO)).setCell ⟨w.heap.size + 1, 1, none⟩ (.slice m1 mn1 mc1)).setCell ⟨w.heap.size + 1, 2, none⟩ (.slice m2 mn2 mc2)) (w.heap.size + 1) (w.heap.size + 1 + 1) Pb (.bool zO) (.slice m1 mn1 mc1) (.slice m2 mn2 mc2) (.bool zI) (.slice k1 kn1 kc1) (.slice k2 kn2 kc2) ri ro := fun W h => h.six (by omega) hP1
    have m7 : ∀ W, R21 W (w.heap.size + 1) (w.heap.size + 1 + 1) Pb (.bool zO) (.slice m1 mn1 mc1) (.slice m2 mn2 mc2) (.bool zI) (.slice k1 kn1 kc1) (.slice k2 kn2 kc2) ri ro → R21 (((W.setCell ⟨w.heap.size + 1 + 1, 0, none⟩ (.bool zI)).setCell ⟨w.heap.size + 1 + 1, 1, none⟩ (.slice k1 kn1 kc1)).setCell ⟨w.heap.size + 1 + 1, 2, none⟩ (.slice k2 kn2 kc2)) (w.heap.size + 1) (w.heap.size + 1 + 1) Pb (.bool zO) (.slice m1 mn1 mc1) (.slice m2 mn2 mc2) (.bool zI) (.slice k1 kn1 kc1) (.slice k2 kn2 kc2) ri ro := fun W h => h.seven (by omega) (by omega)
    have kS : ∀ w', R21 w' (w.heap.size + 1) (w.heap.size + 1 + 1) Pb (.bool zO) (.slice m1 mn1 mc1) (.slice m2 mn2 mc2) (.bool zI) (.slice k1 kn1 kc1) (.slice k2 kn2 kc2) ri ro → (w'.cell? ⟨w.heap.size + 1, 0, none⟩ = some (.bool zO) ∧ w'.cell? ⟨w.heap.size + 1, 1, none⟩ = some (.slice m1 mn1 mc1) ∧ w'.cell? ⟨w.heap.size + 1, 2, none⟩ = some (.slice m2 mn2 mc2) ∧ w'.cell? ⟨w.heap.size + 1 + 1, 0, none⟩ = some (.bool zI) ∧ w'.cell? ⟨w.heap.size + 1 + 1, 1, none⟩ = some (.slice k1 kn1 kc1) ∧ w'.cell? ⟨w.heap.size + 1 + 1, 2, none⟩ = some (.slice k2 kn2 kc2) ∧ w'.cell? ⟨Pb, 6, none⟩ = some (.bool ri) ∧ w'.cell? ⟨Pb, 7, none⟩ = some (.bool ro) ∧ w'.frozen? ⟨w.heap.size + 1, 0, none⟩ = false ∧ w'.frozen? ⟨w.heap.size + 1, 1, none⟩ = false ∧ w'.frozen? ⟨w.heap.size + 1, 2, none⟩ = false ∧ w'.frozen? ⟨w.heap.size + 1 + 1, 0, none⟩ = false ∧ w'.frozen? ⟨w.heap.size + 1 + 1, 1, none⟩ = false ∧ w'.frozen? ⟨w.heap.size + 1 + 1, 2, none⟩ = false) := fun w' h => ⟨h.r.c0, h.r.c1, h.r.c2, h.u.c0, h.u.c1, h.u.c2, h.i, h.o, h.r.z0, h.r.z1, h.r.z2, h.u.z0, h.u.z1, h.u.z2⟩
    go_region_held3 (fun w' => w'.cell? ⟨w.heap.size + 1, 0, none⟩ = some (.bool zO) ∧ w'.cell? ⟨w.heap.size + 1, 1, none⟩ = some (.slice m1 mn1 mc1) ∧ w'.cell? ⟨w.heap.size + 1, 2, none⟩ = some (.slice m2 mn2 mc2) ∧ w'.cell? ⟨w.heap.size + 1 + 1, 0, none⟩ = some (.bool zI) ∧ w'.cell? ⟨w.heap.size + 1 + 1, 1, none⟩ = some (.slice k1 kn1 kc1) ∧ w'.cell? ⟨w.heap.size + 1 + 1, 2, none⟩ = some (.slice k2 kn2 kc2) ∧ w'.cell? ⟨Pb, 6, none⟩ = some (.bool ri) ∧ w'.cell? ⟨Pb, 7, none⟩ = some (.bool ro) ∧ w'.frozen? ⟨w.heap.size + 1, 0, none⟩ = false ∧ w'.frozen? ⟨w.heap.size + 1, 1, none⟩ = false ∧ w'.frozen? ⟨w.heap.size + 1, 2, none⟩ = false ∧ w'.frozen? ⟨w.heap.size + 1 + 1, 0, none⟩ = false ∧ w'.frozen? ⟨w.heap.size + 1 + 1, 1, none⟩ = false ∧ w'.frozen? ⟨w.heap.size + 1 + 1, 2, none⟩ = false)
     ((refine kS _ ?_; (repeat (with_reducible (first | exact m0 | refine m6 _ ?_ | refine m7 _ ?_ | refine R21.drew ?_))); done))
     (fail)
    have y6 := set3_other (box3_put RF (.bool zO) (.slice m1 mn1 mc1) (.slice m2 mn2 mc2)) (show w.heap.size + 1 ≠ w.heap.size + 1 + 1 by omega) (.bool zI) (.slice k1 kn1 kc1) (.slice k2 kn2 kc2)
    have y7 := box3_put (set3_other SE (show w.heap.size + 1 + 1 ≠ w.heap.size + 1 by omega) (.bool zO) (.slice m1 mn1 mc1) (.slice m2 mn2 mc2)) (.bool zI) (.slice k1 kn1 kc1) (.slice k2 kn2 kc2)
    have ⟨t0, t1, t2, _, _, _⟩ := y6
    have ⟨t3, t4, t5, _, _, _⟩ := y7
    have g1 := set3_fr (set3_fr MF1 hC6.1 (.bool zO) (.slice m1 mn1 mc1) (.slice m2 mn2 mc2)) hC6.2.2.1 (.bool zI) (.slice k1 kn1 kc1) (.slice k2 kn2 kc2)
    have g2 := set3_fr (set3_fr MF2 hC6.2.1 (.bool zO) (.slice m1 mn1 mc1) (.slice m2 mn2 mc2)) hC6.2.2.2 (.bool zI) (.slice k1 kn1 kc1) (.slice k2 kn2 kc2)
    have g3 := set3_fr (set3_fr KF1 hE7.1 (.bool zO) (.slice m1 mn1 mc1) (.slice m2 mn2 mc2)) hE7.2.2.1 (.bool zI) (.slice k1 kn1 kc1) (.slice k2 kn2 kc2)
    have g4 := set3_fr (set3_fr KF2 hE7.2.1 (.bool zO) (.slice m1 mn1 mc1) (.slice m2 mn2 mc2)) hE7.2.2.2 (.bool zI) (.slice k1 kn1 kc1) (.slice k2 kn2 kc2)
    go_split_ands
    go_wp2
    refine bodyPost_ret (v := .tuple #[.agg #[.bool zO, .slice m1 mn1 mc1, .slice m2 mn2 mc2], .agg #[.bool zI, .slice k1 kn1 kc1, .slice k2 kn2 kc2], .bool ro, .bool ri, .int .i64 0]) (by simp [results, Tryz.results7, go_sem, t0, t1, t2, t3, t4, t5]) rfl ?_
    refine ⟨m1, mn1, mc1, m2, mn2, mc2, k1, kn1, kc1, k2, kn2, kc2, rfl, fr_drew (g1.mono hwB), fr_drew (g2.mono hwB), fr_drew (g3.mono hwD), fr_drew (g4.mono hwD), ⟨fun g hg => ⟨hM12 g hg, hapM1 g hg⟩, hapM2, hK12⟩, ?_⟩
    exact ((((((VF.setCell (by simp) _).setCell (by simp) _).setCell (by simp) _).setCell (by simp; omega) _).setCell (by simp; omega) _).setCell (by simp; omega) _).drew
end Go.Proofs.YtpmncmglmobjoaaGreatDoor
