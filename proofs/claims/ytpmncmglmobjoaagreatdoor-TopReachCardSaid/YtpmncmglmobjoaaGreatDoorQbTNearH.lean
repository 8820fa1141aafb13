/-
  The walk of near.reach.
-/
import Derived.Deep.MidRow
import Derived.Test.YtpmncmglmobjoaaGreatDoorQbTMT34
set_option maxHeartbeats 8000000
set_option maxRecDepth 100000
namespace Go.Proofs.YtpmncmglmobjoaaGreatDoor
open Go.RowKit Go.Lb
attribute [local go_sem] Go.World.cell?_alloc_some
theorem box3_put {w : World} {b : Nat} {u v x : Value} (h : Box3 w b u v x) (p q r : Value) : Box3 (((w.setCell ⟨b, 0, none⟩ p).setCell ⟨b, 1, none⟩ q).setCell ⟨b, 2, none⟩ r) b p q r :=
 ⟨(h.set p q r).1, (h.set p q r).2.1, (h.set p q r).2.2, by simp [h.z0], by simp [h.z1], by simp [h.z2]⟩
theorem and_one64' (b : Nat) (hb : b < 18446744073709551616) : bits BinOp.and IntKind.u64 (b : Int) 1 = ((b % 2 : Nat) : Int) := by
 have h := and_mask (b := b) (sz := 1) (by decide) hb
 rw [show maskN 1 = 1 by unfold maskN; rfl, show pw 1 = 2 by unfold pw; rfl] at h
 exact h
theorem set3_fr {e : TypeId} {w : World} {b base : Nat} {ao : Option Addr} {n c : Nat} {xs : List Nat} (h : Fr e w base ao n c xs) (hb : blkOf ao ≠ some b) (u v x : Value) : Fr e (((w.setCell ⟨b, 0, none⟩ u).setCell ⟨b, 1, none⟩ v).setCell ⟨b, 2, none⟩ x) base ao n c xs :=
 fr_at h (by simp) fun g hg _ => by
  have hne : g ≠ b := fun h2 => hb (h2 ▸ hg)
  rw [Below.heap_setCell _ _ _ _ hne, Below.heap_setCell _ _ _ _ hne, Below.heap_setCell _ _ _ _ hne]
theorem tab_set3 {w : World} {b : Nat} (h : Tab w) (hb : b ≠ 0) (u v x : Value) : Tab (((w.setCell ⟨b, 0, none⟩ u).setCell ⟨b, 1, none⟩ v).setCell ⟨b, 2, none⟩ x) := fun j hj => by
 have := h j hj
 simp [World.cell?_setCell_other, this]
theorem set3_box8 {w : World} {b c : Nat} {v0 v1 v2 v3 v4 v5 v6 v7 : Value} (h : Box8 w b v0 v1 v2 v3 v4 v5 v6 v7) (hb : b ≠ c) (u v x : Value) : Box8 (((w.setCell ⟨c, 0, none⟩ u).setCell ⟨c, 1, none⟩ v).setCell ⟨c, 2, none⟩ x) b v0 v1 v2 v3 v4 v5 v6 v7 := by
 obtain ⟨h0, h3, h4, h5, h6, h7, z3, z4, z5, z6, z7⟩ := h
 exact ⟨set3_other h0 hb _ _ _, by simp [World.cell?_setCell_other, h3], by simp [World.cell?_setCell_other, h4], by simp [World.cell?_setCell_other, h5], by simp [World.cell?_setCell_other, h6], by simp [World.cell?_setCell_other, h7], by simp [z3], by simp [z4], by simp [z5], by simp [z6], by simp [z7]⟩
structure MidR (w wx : World) (Z Hb Fb Bb : Nat) (ha : Option Addr) (hn hc : Nat) (fa : Option Addr) (fk fc : Nat) (ba : Option Addr) (bk bc : Nat) (hs : Bool) (hN : Nat) (hx : Int) (fs : Bool) (fN : Nat) (fx : Int) (bs : Bool) (bN : Nat) (bx : Int) : Prop where
 below : Below w.heap.size w wx
 tab : Tab wx
 res : Box8 wx (w.heap.size + 1) (.bool false) (.slice none 0 0) (.int .i64 0) (.bool false) (.slice none 0 0) (.int .i64 0) (.bool false) (.bool false)
 bH : Box3 wx Hb (.bool hs) (.slice ha hn hc) (.int .i64 hx)
 bF : Box3 wx Fb (.bool fs) (.slice fa fk fc) (.int .i64 fx)
 bB : Box3 wx Bb (.bool bs) (.slice ba bk bc) (.int .i64 bx)
 rH : Fr 40 wx Z ha hn hc (limbs hN)
 rF : Fr 40 wx Z fa fk fc (limbs fN)
 rB : Fr 40 wx Z ba bk bc (limbs bN)
 size : Z ≤ wx.heap.size
theorem MidR.stay {w wx w' : World} {Z Hb Fb Bb : Nat} {ha : Option Addr} {hn hc : Nat} {fa : Option Addr} {fk fc : Nat} {ba : Option Addr} {bk bc : Nat} {hs : Bool} {hN : Nat} {hx : Int} {fs : Bool} {fN : Nat} {fx : Int} {bs : Bool} {bN : Nat} {bx : Int} (h : MidR w wx Z Hb Fb Bb ha hn hc fa fk fc ba bk bc hs hN hx fs fN fx bs bN bx) (hb : Below wx.heap.size wx w') : MidR w w' Z Hb Fb Bb ha hn hc fa fk fc ba bk bc hs hN hx fs fN fx bs bN bx :=
 ⟨next h.below hb, h.tab.below hb, h.res.stay hb, h.bH.stay hb, h.bF.stay hb, h.bB.stay hb, h.rH.below hb, h.rF.below hb, h.rB.below hb, Nat.le_trans h.size hb.size⟩
theorem built_edges (s1 : Bool) (a1 : Option Addr) (n1 c1 : Nat) (x1 : Int) (s2 : Bool) (a2 : Option Addr) (n2 c2 : Nat) (x2 : Int) (i o : Bool) : Tryz.prog.built 49 [(0, .agg #[.bool s1, .slice a1 n1 c1, .int .i64 x1]), (1, .agg #[.bool s2, .slice a2 n2 c2, .int .i64 x2]), (2, .bool i), (3, .bool o)] = some #[.bool s1, .slice a1 n1 c1, .int .i64 x1, .bool s2, .slice a2 n2 c2, .int .i64 x2, .bool i, .bool o] := by kernel_rfl
theorem wpList_built {P : Program} {ops : Array Oper} {rest : List Oper} {o : Oper} {a : Act} {w : World} {Q : Exit → Act → World → Prop} (hg : o.guard = none) (t : TypeId) (parts : Array (Nat × Operand)) (ho : o.op = .build t parts) (ps : List (Nat × Value)) (hp : (parts.map fun (i, x) => (i, a.eval x)).toList = ps) (cells : Array Value) (hc : P.built t ps = some cells)
 (h : wpList P ops Q rest (a.put o.dst (.agg cells)) w) : wpList P ops Q (o :: rest) a w := by
 subst hp
 exact wpList_build hg t parts ho (by rw [hc]; rfl) (by rw [hc]; exact h)
theorem box8_there {w : World} {b : Nat} {v0 v1 v2 v3 v4 v5 v6 v7 : Value} (h : Box8 w b v0 v1 v2 v3 v4 v5 v6 v7) : w.there b 0 8 := by
 obtain ⟨⟨h0, h1, h2, z0, z1, z2⟩, h3, h4, h5, h6, h7, z3, z4, z5, z6, z7⟩ := h
 intro j hj
 have hh : j = 0 ∨ j = 1 ∨ j = 2 ∨ j = 3 ∨ j = 4 ∨ j = 5 ∨ j = 6 ∨ j = 7 := by omega
 rcases hh with rfl | rfl | rfl | rfl | rfl | rfl | rfl | rfl <;> simp [*]
theorem wpList_store8 {P : Program} {ops : Array Oper} {rest : List Oper} {o : Oper} {a : Act} {w : World} {Q : Exit → Act → World → Prop} (hg : o.guard = none) (ty : TypeId) (x y : Operand) (ho : o.op = .store ty x y) (b : Nat) {v0 v1 v2 v3 v4 v5 v6 v7 : Value} (u0 u1 u2 u3 u4 u5 u6 u7 : Value) (hx : a.eval x = .pointer (some ⟨b, 0, none⟩)) (hy : a.eval y = .agg #[u0, u1, u2, u3, u4, u5, u6, u7]) (h8 : Box8 w b v0 v1 v2 v3 v4 v5 v6 v7) (hi : (P.info? ty).map (·.size) = some 8) (h1 : (#[u0, u1, u2, u3, u4, u5, u6, u7] : Array Value).all (·.oneCell') = true)
 (h : wpList P ops Q rest (a.put o.dst undef) (set8 w b u0 u1 u2 u3 u4 u5 u6 u7)) : wpList P ops Q (o :: rest) a w :=
 wpList_store_mid hg ty x y ho b 0 _ hx hy (box8_there h8) hi h1 h
theorem load_row8 {P : Program} {w : World} {b : Nat} {ty : TypeId} (u0 u1 u2 u3 u4 u5 u6 u7 : Value) (hr : (P.underlying ty).any (fun d => d.isRow) = true) (hi : (P.info? ty).map (·.size) = some 8)
 (t0 : w.cell? ⟨b, 0, none⟩ = some u0) (t1 : w.cell? ⟨b, 1, none⟩ = some u1) (t2 : w.cell? ⟨b, 2, none⟩ = some u2) (t3 : w.cell? ⟨b, 3, none⟩ = some u3) (t4 : w.cell? ⟨b, 4, none⟩ = some u4) (t5 : w.cell? ⟨b, 5, none⟩ = some u5) (t6 : w.cell? ⟨b, 6, none⟩ = some u6) (t7 : w.cell? ⟨b, 7, none⟩ = some u7) :
 (loadVar ty ⟨b, 0, none⟩).run P w = .ok (.agg #[u0, u1, u2, u3, u4, u5, u6, u7]) w := by
 cases hq : P.underlying ty with
 | none => rw [hq] at hr; cases hr
 | some d =>
   rw [hq] at hr
   refine run_loadVar_mid w b 0 ty [u0, u1, u2, u3, u4, u5, u6, u7] d (fun j v hj => ?_) hq (by simpa using hr) hi
   have hl : j < 8 := by have := (List.getElem?_eq_some_iff.1 hj).1; simpa using this
   have hh : j = 0 ∨ j = 1 ∨ j = 2 ∨ j = 3 ∨ j = 4 ∨ j = 5 ∨ j = 6 ∨ j = 7 := by omega
   rcases hh with rfl | rfl | rfl | rfl | rfl | rfl | rfl | rfl <;> simp_all
theorem results_cell_tmp {P : Program} {fn : Func} {tmps : Array Value} {w : World} {a r : Nat} {t : TypeId} {p : Addr} {v u : Value} (h : fn.results = #[.cell a t, .tmp r]) (hp : tmps.getD a undef = .pointer (some p)) (hl : (loadVar t p).run P w = .ok v w) (hr : tmps.getD r undef = u) : (results fn tmps).run P w = .ok (.tuple #[v, u]) w := by
 unfold results
 rw [h]
 simp only [Array.mapM_eq_mapM_toList, List.mapM_cons, List.mapM_nil, Sem.run_bind, Sem.run_pure, hp, hr, asAddr, hl, Result.andThen_ok, Sem.run_map]
 simp [go_sem]
structure StB (w0 wx : World) (P : Nat) (ao : Option Addr) (k c : Nat) (u : Int) : Prop where
 below : Below w0.heap.size w0 wx
 box : Box3 wx P (.bool false) (.slice ao k c) (.int .i64 u)
 sl : Sl wx ao k c (limbs 1)
theorem nearReach0_any (e f b m : Nat) (w : World) (h : formE (e : Int) (f : Int) = 0) (hp : b < pw (e + f)) (hx : exN e f b ≠ maskN e) (hm : m < 4) (hT : Tab w) :
 Calls Tryz.prog 17 #[.agg #[.int .i64 (e : Int), .int .i64 (f : Int)], .int .u64 (b : Int), .int .u8 (m : Int)] w (Edg (rcI e f b m) (rcO e f b m) (rci b m) (rco b m) w) := by
 have hp1 : b < pw (1 + e + f) := by rw [pw_one_more]; omega
 have hb64 : b < 18446744073709551616 := by have := (top63 h).2; omega
 obtain ⟨d1, g1⟩ := val_bd h hp1 hx
 obtain ⟨d2, g2⟩ := un_bd h hx
 obtain ⟨b1, b2, b3, b4⟩ := base_small h
 obtain ⟨e0, d3, g3, d4, g4⟩ := reach_facts h hp hx
 have g1' := g1.up (show f + 2 * biasN e ≤ f + 2 * biasN e + 1 by omega)
 obtain ⟨mA1, mA2, mA3, mA4, _, _⟩ := me_bd (p := bfD e f b) (q := valD (e : Int) (f : Int) b) d4 d1 g4 g1' (by omega) (by omega) (by omega)
 obtain ⟨mB1, mB2, mB3, mB4, _, _⟩ := me_bd (p := valD (e : Int) (f : Int) b) (q := faD e f b) d1 d3 g1' g3 (by omega) (by omega) (by omega)
 have v0 := (valD_ok (fits_of h hp1) hx (by have := formE_ok h; omega) (by have := formE_ok h; omega)).1
 have cV := fun W hT => value_any (e : Int) (f : Int) b W hb64 hT
 unfold Valued at cV
 rw [show valE (e : Int) (f : Int) b = 0 from v0] at cV
 obtain ⟨W2, hW2⟩ : ∃ W2 : World, W2 = (w.alloc (.cells #[.int .i64 (e : Int), .int .i64 (f : Int)] 23)).alloc (.cells #[.bool false, .slice none 0 0, .int .i64 0, .bool false, .slice none 0 0, .int .i64 0, .bool false, .bool false] 49) := ⟨_, rfl⟩
 have hb2 : Below w.heap.size w W2 := hW2 ▸ more (more (Below.refl _ _) _) _
 have f0 : W2.cell? ⟨w.heap.size, 0, none⟩ = some (.int .i64 (e : Int)) := by rw [hW2]; simp
 have f1 : W2.cell? ⟨w.heap.size, 1, none⟩ = some (.int .i64 (f : Int)) := by rw [hW2]; simp
 have R2 : Box8 W2 (w.heap.size + 1) (.bool false) (.slice none 0 0) (.int .i64 0) (.bool false) (.slice none 0 0) (.int .i64 0) (.bool false) (.bool false) := by
  have := box8_new (w.alloc (.cells #[.int .i64 (e : Int), .int .i64 (f : Int)] 23)) (.bool false) (.slice none 0 0) (.int .i64 0) (.bool false) (.slice none 0 0) (.int .i64 0) (.bool false) (.bool false) 49
  rw [World.size_alloc] at this
  exact hW2 ▸ this
 have hT2 := hT.below hb2
 have cO : ∀ W, Calls Tryz.prog 36 #[.int .u64 1] W _ := fun W => natOf_any 1 W (by decide)
 have cU := fun W => nearUnit_any e f b W h hb64 hp1
 obtain ⟨u1, u2⟩ := un_small (b := b) h
 obtain ⟨k1, k2, k3, k4⟩ := mk_one false (x := unI e f b) (by omega) (by omega)
 have cM := fun ao n c W (j : Sl W ao n c (limbs 1)) hT => exMake_any false ao n c (limbs 1) (unI e f b) W j hT
 unfold Made at cM
 rw [k1, k2, k3, k4] at cM
 have cA := fun ao n c ao2 n2 c2 W (j : Sl W ao n c (limbs (valN (e : Int) (f : Int) b))) (j2 : Sl W ao2 n2 c2 (limbs 1)) hT => exAdd_any (valS (e : Int) (f : Int) b) false ao ao2 n n2 c c2 (valX (e : Int) (f : Int) b) (unI e f b) _ _ W j j2 hT
 have hF : ∀ W en w', Dyn (addA (valS (e : Int) (f : Int) b) (limbs (valN (e : Int) (f : Int) b)) (valX (e : Int) (f : Int) b) false (limbs 1) (unI e f b)) W en w' → ∃ ao n c, en = .returned (.tuple #[.agg #[.bool (faD e f b).s, .slice ao n c, .int .i64 (faD e f b).x], .int .i64 0]) ∧ Fr 40 w' W.heap.size ao n c (limbs (faD e f b).N) ∧ Below W.heap.size W w' := by
  rintro W en w' ⟨ao, n, c, rfl, hF, hb⟩
  exact ⟨ao, n, c, by rw [← e0]; rfl, hF, hb⟩
 have cB : b ≠ 0 → ∀ W, Tab W → Calls Tryz.prog 34 #[.agg #[.int .i64 (e : Int), .int .i64 (f : Int)], .int .u64 ((b - 1 : Nat) : Int)] W fun en w' => ∃ ao n c, en = .returned (.tuple #[.agg #[.bool (bfD e f b).s, .slice ao n c, .int .i64 (bfD e f b).x], .int .i64 0]) ∧ Fr 40 w' W.heap.size ao n c (limbs (bfD e f b).N) ∧ Below W.heap.size W w' := fun h0 W hT => by
  have hp2 : b - 1 < pw (1 + e + f) := by omega
  have v1 := (valD_ok (fits_of h hp2) (before_fin hp hx) (by have := formE_ok h; omega) (by have := formE_ok h; omega)).1
  have := value_any (e : Int) (f : Int) (b - 1) W (by omega) hT
  unfold Valued at this
  rw [show valE (e : Int) (f : Int) (b - 1) = 0 from v1] at this
  have hbf : bfD e f b = valD (e : Int) (f : Int) (b - 1) := if_neg h0
  rw [hbf]
  exact this
 have hB0 : b = 0 → (bfD e f b).s = valS (e : Int) (f : Int) b ∧ (bfD e f b).N = valN (e : Int) (f : Int) b ∧ (bfD e f b).x = valX (e : Int) (f : Int) b := fun h0 => by
  have : bfD e f b = valD (e : Int) (f : Int) b := if_pos h0
  rw [this]
  exact ⟨rfl, rfl, rfl⟩
 have cX : ∀ a1 n1 c1 a2 n2 c2 W, Sl W a1 n1 c1 (limbs (bfD e f b).N) → Sl W a2 n2 c2 (limbs (valN (e : Int) (f : Int) b)) → Tab W → Calls Tryz.prog 39 #[.agg #[.bool (bfD e f b).s, .slice a1 n1 c1, .int .i64 (bfD e f b).x], .agg #[.bool (valS (e : Int) (f : Int) b), .slice a2 n2 c2, .int .i64 (valX (e : Int) (f : Int) b)]] W fun en w' => ∃ ao n c, en = .returned (.tuple #[.agg #[.bool (meA (bfD e f b) (valD (e : Int) (f : Int) b)).s, .slice ao n c, .int .i64 (meA (bfD e f b) (valD (e : Int) (f : Int) b)).x], .int .i64 0]) ∧ Fr 40 w' W.heap.size ao n c (limbs (meA (bfD e f b) (valD (e : Int) (f : Int) b)).N) ∧ Below W.heap.size W w' := fun a1 n1 c1 a2 n2 c2 W j1 j2 hT => by
  have := nearMean_any (bfD e f b) (valD (e : Int) (f : Int) b) a1 a2 n1 n2 c1 c2 W j1 j2 hT mA1 mA2 mA3
  unfold Dyn at this
  rw [mA4] at this
  exact this
 have cY : ∀ a1 n1 c1 a2 n2 c2 W, Sl W a1 n1 c1 (limbs (valN (e : Int) (f : Int) b)) → Sl W a2 n2 c2 (limbs (faD e f b).N) → Tab W → Calls Tryz.prog 39 #[.agg #[.bool (valS (e : Int) (f : Int) b), .slice a1 n1 c1, .int .i64 (valX (e : Int) (f : Int) b)], .agg #[.bool (faD e f b).s, .slice a2 n2 c2, .int .i64 (faD e f b).x]] W fun en w' => ∃ ao n c, en = .returned (.tuple #[.agg #[.bool (meA (valD (e : Int) (f : Int) b) (faD e f b)).s, .slice ao n c, .int .i64 (meA (valD (e : Int) (f : Int) b) (faD e f b)).x], .int .i64 0]) ∧ Fr 40 w' W.heap.size ao n c (limbs (meA (valD (e : Int) (f : Int) b) (faD e f b)).N) ∧ Below W.heap.size W w' := fun a1 n1 c1 a2 n2 c2 W j1 j2 hT => by
  have := nearMean_any (valD (e : Int) (f : Int) b) (faD e f b) a1 a2 n1 n2 c1 c2 W j1 j2 hT mB1 mB2 mB3
  unfold Dyn at this
  rw [mB4] at this
  exact this
 have hpar : bits BinOp.and IntKind.u64 (b : Int) 1 = ((b % 2 : Nat) : Int) := and_one64' b hb64
 have hev : (bits BinOp.and IntKind.u64 (b : Int) 1 == 0) = decide (b % 2 = 0) := by
  rw [hpar]
  by_cases h : b % 2 = 0
  · rw [h]; rfl
  · rw [decide_eq_false h]; simp; omega
 have HEV := Lib.hid hev
 clear hev hpar
 have hw1 : 0 < b → IntKind.u64.wrap ((b : Int) - 1) = ((b - 1 : Nat) : Int) := fun h0 => by rw [IntKind.wrap_u64]; omega
 have hE2 : m = 2 → (rcI e f b m).s = valS (e : Int) (f : Int) b ∧ (rcI e f b m).N = valN (e : Int) (f : Int) b ∧ (rcI e f b m).x = valX (e : Int) (f : Int) b ∧ (rcO e f b m).s = (faD e f b).s ∧ (rcO e f b m).N = (faD e f b).N ∧ (rcO e f b m).x = (faD e f b).x ∧ rci b m = true ∧ rco b m = false := by
  rintro rfl
  exact ⟨rfl, rfl, rfl, rfl, rfl, rfl, rfl, rfl⟩
 have hE3 : m = 3 → (rcI e f b m).s = (bfD e f b).s ∧ (rcI e f b m).N = (bfD e f b).N ∧ (rcI e f b m).x = (bfD e f b).x ∧ (rcO e f b m).s = valS (e : Int) (f : Int) b ∧ (rcO e f b m).N = valN (e : Int) (f : Int) b ∧ (rcO e f b m).x = valX (e : Int) (f : Int) b ∧ rci b m = decide (b = 0) ∧ rco b m = true := by
  rintro rfl
  exact ⟨rfl, rfl, rfl, rfl, rfl, rfl, rfl, rfl⟩
 have hE1 : m = 0 ∨ m = 1 → (rcI e f b m).s = (meA (bfD e f b) (valD (e : Int) (f : Int) b)).s ∧ (rcI e f b m).N = (meA (bfD e f b) (valD (e : Int) (f : Int) b)).N ∧ (rcI e f b m).x = (meA (bfD e f b) (valD (e : Int) (f : Int) b)).x ∧ (rcO e f b m).s = (meA (valD (e : Int) (f : Int) b) (faD e f b)).s ∧ (rcO e f b m).N = (meA (valD (e : Int) (f : Int) b) (faD e f b)).N ∧ (rcO e f b m).x = (meA (valD (e : Int) (f : Int) b) (faD e f b)).x ∧ rci b m = (if m = 1 then true else decide (b % 2 = 0)) ∧ rco b m = (if m = 1 then false else decide (b % 2 = 0)) := by
  rintro (rfl | rfl)
  · exact ⟨rfl, rfl, rfl, rfl, rfl, rfl, rfl, rfl⟩
  · exact ⟨rfl, rfl, rfl, rfl, rfl, rfl, rfl, rfl⟩
 have HE2 := Lib.hid hE2
 have HE3 := Lib.hid hE3
 have HE1 := Lib.hid hE1
 have HB0 := Lib.hid hB0
 unfold Edg
 have hT0 := hT.lt
 clear hE1 hE2 hE3 hB0 d1 g1 d2 g2 d3 g3 d4 g4 g1' mA1 mA2 mA3 mA4 mB1 mB2 mB3 mB4 v0 u1 u2 k1 k2 k3 k4 b1 b2 b3 b4 e0 hp hp1 hx h hT
 generalize (rcI e f b m).s = Is at *
 generalize (rcI e f b m).N = IN at *
 generalize (rcI e f b m).x = Ix at *
 generalize (rcO e f b m).s = Os at *
 generalize (rcO e f b m).N = ON at *
 generalize (rcO e f b m).x = Ox at *
 generalize rci b m = ri at *
 generalize rco b m = ro at *
 generalize (meA (bfD e f b) (valD (e : Int) (f : Int) b)).s = ms at *
 generalize (meA (bfD e f b) (valD (e : Int) (f : Int) b)).N = mN at *
 generalize (meA (bfD e f b) (valD (e : Int) (f : Int) b)).x = mx at *
 generalize (meA (valD (e : Int) (f : Int) b) (faD e f b)).s = ns at *
 generalize (meA (valD (e : Int) (f : Int) b) (faD e f b)).N = nN at *
 generalize (meA (valD (e : Int) (f : Int) b) (faD e f b)).x = nx at *
 generalize (faD e f b).s = fs at *
 generalize (faD e f b).N = fN at *
 generalize (faD e f b).x = fx at *
 generalize (bfD e f b).s = bs at *
 generalize (bfD e f b).N = bN at *
 generalize (bfD e f b).x = bx at *
 generalize valS (e : Int) (f : Int) b = hs at *
 generalize valN (e : Int) (f : Int) b = hN at *
 generalize valX (e : Int) (f : Int) b = hx at *
 generalize unI e f b = U at *
 go_enter Tryz.func17, Tryz.ntmps17
 go_upto_region 1 with fail
 rw [← hW2]
 clear hW2
 go_wp2_with fail
 refine (cV W2 hT2).mono ?_
 rintro en w3 ⟨ha, hn, hc, rfl, hF3, hb3⟩
 have hs3 := more hb3 (.cells #[.bool hs, .slice ha hn hc, .int .i64 hx] 47)
 have V4 := next hb2 hs3
 replace f0 := cellStay f0 hs3
 replace f1 := cellStay f1 hs3
 have R4 := R2.stay hs3
 have hT4 := hT2.below hs3
 have H4 := box3_new w3 (.bool hs) (.slice ha hn hc) (.int .i64 hx) 47
 have hFr := hF3.alloc (.cells #[.bool hs, .slice ha hn hc, .int .i64 hx] 47)
 have hG := hFr.sl
 have sz4 : W2.heap.size ≤ (w3.alloc (.cells #[.bool hs, .slice ha hn hc, .int .i64 hx] 47)).heap.size := hs3.size
 have hbR : w.heap.size + 1 < W2.heap.size := World.block_lt_of_cell? W2 ⟨w.heap.size + 1, 0, none⟩ R2.a.c0
 clear R2 hb2 hb3 hs3 hT2 cV hF3
 go_upto_region 4 with fail
 obtain ⟨Hb, hHb⟩ : ∃ q, q = w3.heap.size := ⟨_, rfl⟩
 rw [← hHb] at H4 ⊢
 clear hHb
 generalize w3.alloc (.cells #[.bool hs, .slice ha hn hc, .int .i64 hx] 47) = w4 at *
 go_cut [10, 9] from 26 to 33 (fun v10 v9 wx => ∃ P ao k c, v10 = .pointer (some ⟨P, 0, none⟩) ∧ v9 = .int .i64 0 ∧ StB w4 wx P ao k c U)
 case first => as_aux_lemma =>
  have kS : ∀ w' : World, Below w4.heap.size w4 w' → (w'.cell? ⟨w.heap.size, 0, none⟩ = some (.int .i64 (e : Int)) ∧ w'.cell? ⟨w.heap.size, 1, none⟩ = some (.int .i64 (f : Int)) ∧ Below w4.heap.size w4 w') := fun w' hb => ⟨cellStay f0 hb, cellStay f1 hb, hb⟩
  go_region_held3 (fun w' => w'.cell? ⟨w.heap.size, 0, none⟩ = some (.int .i64 (e : Int)) ∧ w'.cell? ⟨w.heap.size, 1, none⟩ = some (.int .i64 (f : Int)) ∧ Below w4.heap.size w4 w')
   ((refine kS _ ?_; (repeat (with_reducible (first | exact hAZ | exact hAY | exact hAX | exact Below.refl _ _ | refine Below.drew ?_ | refine more ?_ _ | refine Below.setCell ?_ ?_ _ | exact Nat.le_refl _ | exact szX | exact szY | exact szZ))); done))
   (first
     | (go_at_call 36; (with_reducible refine (cO _).mono ?_); rintro en wX ⟨oa, ok, oc, rfl, oF, hbX⟩; have hAX : Below w4.heap.size w4 wX := (by first | exact hbX | exact undrew hbX | exact next (more (Below.refl _ _) _) hbX | exact next (more (Below.refl _ _) _).drew hbX); have oG := oF.sl; have hTX := hT4.below hAX; have szX := hAX.size; (first | (have Z := (box3_new w4 (.bool false) (.slice none 0 0) (.int .i64 0) 47).stay (by first | exact hbX | exact undrew hbX)) | skip))
     | (go_at_call 37; (with_reducible refine (cU _).mono ?_); rintro en wY ⟨rfl, hbX⟩; have hXY : Below wX.heap.size wX wY := (by first | exact hbX | exact undrew hbX | exact next (more (Below.refl _ _) _) hbX | exact next (more (Below.refl _ _) _).drew hbX); have hAY := next hAX hXY; have oG2 := oG.below hXY; have hTY := hT4.below hAY; have szY := hAY.size; (first | (have Z2 := Z.stay hXY) | (have Z2 := (box3_new wX (.bool false) (.slice none 0 0) (.int .i64 0) 47).stay (by first | exact hbX | exact undrew hbX)) | skip); (try have ltZ2 := Z2.lt))
     | (go_at_call 35; (with_reducible refine (cM _ _ _ _ (by first | exact oG2 | exact oG2.alloc _) (by first | exact hTY | exact hTY.alloc _)).mono ?_); rintro en wZ ⟨ma, mk, mc, rfl, mF, hbX⟩; have hYZ : Below wY.heap.size wY wZ := (by first | exact hbX | exact undrew hbX | exact next (more (Below.refl _ _) _) hbX | exact next (more (Below.refl _ _) _).drew hbX); have hAZ := next hAY hYZ; have szZ := hAZ.size; (first | (have Z3 := Z2.stay hYZ; have ⟨zz0, zz1, zz2, zy0, zy1, zy2⟩ := Z3) | (have Z3 := (box3_new wY (.bool false) (.slice none 0 0) (.int .i64 0) 47).stay (by first | exact hbX | exact undrew hbX); have ⟨zz0, zz1, zz2, zy0, zy1, zy2⟩ := Z3) | skip)))
  all_goals go_split_ands
  all_goals go_wp2
  all_goals go_meet
  all_goals
   refine ⟨_, ma, mk, mc, rfl, rfl, ⟨by assumption, ?_, ?_⟩⟩
   · first | exact box3_put Z3 _ _ _ | exact box3_new .. | exact box3_put (box3_new ..) _ _ _
   · have q1 := hXY.size; have F := frT mF; (try simp only [World.size_alloc] at F); refine FrT.slo F ?_; (repeat (with_reducible (first | exact F | refine FrT.alloc ?_ _ | refine FrT.drew ?_ | refine FrT.setCell ?_ (by first | (simp; done) | (simp; omega) | omega) _)))
 case rest => as_aux_lemma =>
  obtain ⟨P, ao, k, c, rfl, rfl, S⟩ := hcut
  have V5 := next V4 S.below
  replace f0 := cellStay f0 S.below
  replace f1 := cellStay f1 S.below
  have R5 := R4.stay S.below
  have hT5 := hT4.below S.below
  have H5 := H4.stay S.below
  have hG5 := hFr.below S.below
  have S5 := S.box
  have sS := S.sl
  have sz5 : W2.heap.size ≤ wc.heap.size := Nat.le_trans sz4 S.below.size
  have ⟨h0, h1, h2, _, _, _⟩ := H5
  have ⟨s0, s1, s2, _, _, _⟩ := S5
  clear S R4 hT4 H4 hFr hG V4 cO cU cM sz4
  go_wp2_with fail
  refine (cA _ _ _ _ _ _ wc hG5.sl sS hT5).mono ?_
  intro en w5 hh
  obtain ⟨fa, fk, fc, rfl, fF, hb5⟩ := hF _ _ _ hh
  clear hh hF cA s0 s1 s2 S5 sS h0 h1 h2
  have hs5 := more (more hb5 (.cells #[.bool fs, .slice fa fk fc, .int .i64 fx] 47)) (.cells #[.bool hs, .slice ha hn hc, .int .i64 hx] 47)
  have H6 := H5.stay hb5
  have ⟨h0, h1, h2, _, _, _⟩ := H6
  have F6 := (box3_new w5 (.bool fs) (.slice fa fk fc) (.int .i64 fx) 47).alloc (.cells #[.bool hs, .slice ha hn hc, .int .i64 hx] 47)
  have B6 := box3_new (w5.alloc (.cells #[.bool fs, .slice fa fk fc, .int .i64 fx] 47)) (.bool hs) (.slice ha hn hc) (.int .i64 hx) 47
  rw [World.size_alloc] at B6
  have M6 : MidR w ((w5.alloc (.cells #[.bool fs, .slice fa fk fc, .int .i64 fx] 47)).alloc (.cells #[.bool hs, .slice ha hn hc, .int .i64 hx] 47)) W2.heap.size Hb w5.heap.size (w5.heap.size + 1) ha hn hc fa fk fc ha hn hc hs hN hx fs fN fx hs hN hx :=
   ⟨next V5 hs5, hT5.below hs5, R5.stay hs5, H5.stay hs5, F6, B6, hG5.below hs5, ((fF.mono sz5).alloc _).alloc _, hG5.below hs5, Nat.le_trans sz5 hs5.size⟩
  replace f0 := cellStay f0 hs5
  replace f1 := cellStay f1 hs5
  have hHB : Hb ≠ w5.heap.size + 1 := by have := H6.lt; omega
  have hd6 : Hd 40 ((w5.alloc (.cells #[.bool fs, .slice fa fk fc, .int .i64 fx] 47)).alloc (.cells #[.bool hs, .slice ha hn hc, .int .i64 hx] 47)) (w5.heap.size + 1) := by
   have := hd_new (e := 40) (t := 47) (w5.alloc (.cells #[.bool fs, .slice fa fk fc, .int .i64 fx] 47)) #[.bool hs, .slice ha hn hc, .int .i64 hx] (by decide)
   rw [World.size_alloc] at this
   exact this
  have hPh := fr_hd M6.rH hd6
  have hPf := fr_hd M6.rF hd6
  have hFw : w.heap.size + 1 < w5.heap.size := by have := hb5.size; omega
  clear hd6
  clear V5 R5 hT5 H5 hG5 fF hb5 hs5 F6 B6 sz5
  go_upto_region 11 with fail
  clear H6 h0 h1 h2
  obtain ⟨Fb, hFb⟩ : ∃ q, q = w5.heap.size := ⟨_, rfl⟩
  rw [← hFb] at M6 hHB hPh hPf hFw ⊢
  clear hFb
  generalize (w5.alloc (.cells #[.bool fs, .slice fa fk fc, .int .i64 fx] 47)).alloc (.cells #[.bool hs, .slice ha hn hc, .int .i64 hx] 47) = w6 at *
  go_upto_if 50 with fail
  go_cut [9] from 50 to 61 (fun v9 wx => v9 = .int .i64 0 ∧ ∃ ba bk bc, MidR w wx W2.heap.size Hb Fb (Fb + 1) ha hn hc fa fk fc ba bk bc hs hN hx fs fN fx bs bN bx)
  case first => as_aux_lemma =>
   by_cases hb0 : b = 0
   · obtain ⟨e1, e2, e3⟩ := HB0.out hb0
     have hb0' : ¬ (0 : Int) < (b : Int) := by omega
     have E := Lib.hid (And.intro e1 (And.intro e2 e3))
     clear HE1 HE2 HE3 HB0 e1 e2 e3 hb0
     go_wp2
     go_meet
     refine ⟨rfl, ha, hn, hc, ?_⟩
     rw [E.out.1, E.out.2.1, E.out.2.2]
     exact M6
   · have hb0' : (0 : Int) < (b : Int) := by omega
     have hw := hw1 (by omega)
     have cB' := cB hb0
     clear HE1 HE2 HE3 HB0 cB hw1
     go_wp2_with fail
     refine (cB' w6 M6.tab).mono ?_
     rintro en w7 ⟨ba, bk, bc, rfl, bF, hb7⟩
     have M7 := M6.stay hb7
     have ⟨r0, r1, r2, _, _, _⟩ := M7.bB
     have hZ7 : Fb + 1 < w6.heap.size := M6.bB.lt
     have hZ8 : W2.heap.size ≤ w6.heap.size := M6.size
     go_wp2
     go_meet
     refine ⟨rfl, ba, bk, bc, ?_⟩
     have hFB : Fb ≠ Fb + 1 := by omega
     have hRB : w.heap.size + 1 < W2.heap.size := hbR
     have hWF : w.heap.size ≤ Fb + 1 := by have := hFw; omega
     have hRF : w.heap.size + 1 ≠ Fb + 1 := by have := hFw; omega
     have s1 := M7.size
     refine ⟨((M7.below.setCell hWF _).setCell hWF _).setCell hWF _, ?_, ?_, set3_other M7.bH hHB _ _ _, set3_other M7.bF hFB _ _ _, box3_put M7.bB _ _ _, ?_, ?_, ?_, by simpa using s1⟩
     · exact tab_set3 M7.tab (by have := hT0; have := hFw; omega) _ _ _
     · exact set3_box8 M7.res hRF _ _ _
     · exact set3_fr M7.rH hPh _ _ _
     · exact set3_fr M7.rF hPf _ _ _
     · exact (((bF.setCell hZ7 _).setCell hZ7 _).setCell hZ7 _).mono hZ8
  case rest => as_aux_lemma =>
   obtain ⟨rfl, ba, bk, bc, M⟩ := hcut
   clear M6 f0 f1 cB hw1 HB0 hHB hPh hPf hT0
   have ⟨h0, h1, h2, _, _, _⟩ := M.bH
   have ⟨f0, f1, f2, _, _, _⟩ := M.bF
   have ⟨r0, r1, r2, _, _, _⟩ := M.bB
   have hm4 : m = 0 ∨ m = 1 ∨ m = 2 ∨ m = 3 := by omega
   rcases hm4 with rfl | rfl | rfl | rfl
   · obtain ⟨rfl, rfl, rfl, rfl, rfl, rfl, rfl, rfl⟩ := HE1.out (.inl rfl)
     clear HE1 HE3 HE2 hm hb64
     go_wp2_with fail
     refine (cX _ _ _ _ _ _ wc M.rB.sl M.rH.sl M.tab).mono ?_
     rintro en w8 ⟨da, dk, dc, rfl, dF, hb8⟩
     have hs8 := more hb8 (.cells #[.bool Is, .slice da dk dc, .int .i64 Ix] 47)
     have M8 := M.stay hs8
     have D8 := box3_new w8 (.bool Is) (.slice da dk dc) (.int .i64 Ix) 47
     have dG := (dF.mono M.size).alloc (.cells #[.bool Is, .slice da dk dc, .int .i64 Ix] 47)
     clear cX M r0 r1 r2 h0 h1 h2 f0 f1 f2 dF hb8 hs8
     go_upto_if 85 with fail
     obtain ⟨Db, hDb⟩ : ∃ q, q = w8.heap.size := ⟨_, rfl⟩
     rw [← hDb] at D8 ⊢
     clear hDb
     generalize w8.alloc (.cells #[.bool Is, .slice da dk dc, .int .i64 Ix] 47) = w9 at *
     have ⟨h0, h1, h2, _, _, _⟩ := M8.bH
     have ⟨f0, f1, f2, _, _, _⟩ := M8.bF
     go_wp2_with fail
     refine (cY _ _ _ _ _ _ w9 M8.rH.sl M8.rF.sl M8.tab).mono ?_
     rintro en wA ⟨na, nk, nc, rfl, nF, hbA⟩
     have hsA := more hbA (.cells #[.bool Os, .slice na nk nc, .int .i64 Ox] 47)
     have MA := M8.stay hsA
     have DA := D8.stay hsA
     have NA := box3_new wA (.bool Os) (.slice na nk nc) (.int .i64 Ox) 47
     have dA := dG.below hsA
     have nA := (nF.mono M8.size).alloc (.cells #[.bool Os, .slice na nk nc, .int .i64 Ox] 47)
     clear cY M8 h0 h1 h2 f0 f1 f2 nF hbA hsA D8 dG
     go_upto_if 95 with fail
     obtain ⟨Nb, hNb⟩ : ∃ q, q = wA.heap.size := ⟨_, rfl⟩
     rw [← hNb] at NA ⊢
     clear hNb
     generalize wA.alloc (.cells #[.bool Os, .slice na nk nc, .int .i64 Ox] 47) = wB at *
     have ⟨d0, d1, d2, _, _, _⟩ := DA
     have ⟨n0, n1, n2, _, _, _⟩ := NA
     have R := MA.res
     have A1 := set8_fr dA hbR (.bool Is) (.slice da dk dc) (.int .i64 Ix) (.bool Os) (.slice na nk nc) (.int .i64 Ox) (.bool (decide (b % 2 = 0))) (.bool (decide (b % 2 = 0)))
     have A2 := set8_fr nA hbR (.bool Is) (.slice da dk dc) (.int .i64 Ix) (.bool Os) (.slice na nk nc) (.int .i64 Ox) (.bool (decide (b % 2 = 0))) (.bool (decide (b % 2 = 0)))
     have A3 := set8_below MA.below (Nat.le_succ w.heap.size) (.bool Is) (.slice da dk dc) (.int .i64 Ix) (.bool Os) (.slice na nk nc) (.int .i64 Ox) (.bool (decide (b % 2 = 0))) (.bool (decide (b % 2 = 0)))
     clear MA DA NA dA nA
     have hev := HEV.out
     go_upto_region 27 with fail
     go_step
     go_step
     go_step
     go_step
     go_step
     go_step
     go_step
     go_step
     go_step
     go_step
     go_step
     go_step
     go_step
     refine wpList_built rfl 49 _ rfl [(0, .agg #[.bool Is, .slice da dk dc, .int .i64 Ix]), (1, .agg #[.bool Os, .slice na nk nc, .int .i64 Ox]), (2, .bool (decide (b % 2 = 0))), (3, .bool (decide (b % 2 = 0)))] (by simp [Act.eval, hev]; done) _ (built_edges _ _ _ _ _ _ _ _ _ _ _ _) ?_
     go_step
     go_step
     go_step
     refine wpList_store8 rfl 49 _ _ rfl (w.heap.size + 1) (.bool Is) (.slice da dk dc) (.int .i64 Ix) (.bool Os) (.slice na nk nc) (.int .i64 Ox) (.bool (decide (b % 2 = 0))) (.bool (decide (b % 2 = 0))) (by simp [Act.eval]; done) (by simp [Act.eval]; done) R (by kernel_rfl) (by simp [Value.oneCell']; done) ?_
     have ⟨t0, t1, t2, t3, t4, t5, t6, t7⟩ := R.set (.bool Is) (.slice da dk dc) (.int .i64 Ix) (.bool Os) (.slice na nk nc) (.int .i64 Ox) (.bool (decide (b % 2 = 0))) (.bool (decide (b % 2 = 0)))
     clear R
     generalize set8 wB (w.heap.size + 1) (.bool Is) (.slice da dk dc) (.int .i64 Ix) (.bool Os) (.slice na nk nc) (.int .i64 Ox) (.bool (decide (b % 2 = 0))) (.bool (decide (b % 2 = 0))) = wE at *
     (first | go_step | go_skip | go_upon)
     (first | go_step | go_skip | go_upon)
     (first | go_step | go_skip | go_upon)
     (first | go_step | go_skip | go_upon)
     (first | go_step | go_skip | go_upon)
     (first | go_step | go_skip | go_upon)
     (first | go_step | go_skip | go_upon)
     (first | go_step | go_skip | go_upon)
     refine bodyPost_ret (v := .tuple #[.agg #[.bool Is, .slice da dk dc, .int .i64 Ix, .bool Os, .slice na nk nc, .int .i64 Ox, .bool (decide (b % 2 = 0)), .bool (decide (b % 2 = 0))], .int .i64 0]) (results_cell_tmp Tryz.results17 (by simp; done) (load_row8 _ _ _ _ _ _ _ _ (by kernel_rfl) (by kernel_rfl) t0 t1 t2 t3 t4 t5 t6 t7) (by simp; done)) rfl ⟨_, _, _, _, _, _, rfl, A1.mono (by omega), A2.mono (by omega), A3⟩
   · obtain ⟨rfl, rfl, rfl, rfl, rfl, rfl, rfl, rfl⟩ := HE1.out (.inr rfl)
     clear HE1 HE3 HE2 hm hb64
     go_wp2_with fail
     refine (cX _ _ _ _ _ _ wc M.rB.sl M.rH.sl M.tab).mono ?_
     rintro en w8 ⟨da, dk, dc, rfl, dF, hb8⟩
     have hs8 := more hb8 (.cells #[.bool Is, .slice da dk dc, .int .i64 Ix] 47)
     have M8 := M.stay hs8
     have D8 := box3_new w8 (.bool Is) (.slice da dk dc) (.int .i64 Ix) 47
     have dG := (dF.mono M.size).alloc (.cells #[.bool Is, .slice da dk dc, .int .i64 Ix] 47)
     clear cX M r0 r1 r2 h0 h1 h2 f0 f1 f2 dF hb8 hs8
     go_upto_if 85 with fail
     obtain ⟨Db, hDb⟩ : ∃ q, q = w8.heap.size := ⟨_, rfl⟩
     rw [← hDb] at D8 ⊢
     clear hDb
     generalize w8.alloc (.cells #[.bool Is, .slice da dk dc, .int .i64 Ix] 47) = w9 at *
     have ⟨h0, h1, h2, _, _, _⟩ := M8.bH
     have ⟨f0, f1, f2, _, _, _⟩ := M8.bF
     go_wp2_with fail
     refine (cY _ _ _ _ _ _ w9 M8.rH.sl M8.rF.sl M8.tab).mono ?_
     rintro en wA ⟨na, nk, nc, rfl, nF, hbA⟩
     have hsA := more hbA (.cells #[.bool Os, .slice na nk nc, .int .i64 Ox] 47)
     have MA := M8.stay hsA
     have DA := D8.stay hsA
     have NA := box3_new wA (.bool Os) (.slice na nk nc) (.int .i64 Ox) 47
     have dA := dG.below hsA
     have nA := (nF.mono M8.size).alloc (.cells #[.bool Os, .slice na nk nc, .int .i64 Ox] 47)
     clear cY M8 h0 h1 h2 f0 f1 f2 nF hbA hsA D8 dG
     go_upto_if 95 with fail
     obtain ⟨Nb, hNb⟩ : ∃ q, q = wA.heap.size := ⟨_, rfl⟩
     rw [← hNb] at NA ⊢
     clear hNb
     generalize wA.alloc (.cells #[.bool Os, .slice na nk nc, .int .i64 Ox] 47) = wB at *
     have ⟨d0, d1, d2, _, _, _⟩ := DA
     have ⟨n0, n1, n2, _, _, _⟩ := NA
     have R := MA.res
     have A1 := set8_fr dA hbR (.bool Is) (.slice da dk dc) (.int .i64 Ix) (.bool Os) (.slice na nk nc) (.int .i64 Ox) (.bool true) (.bool false)
     have A2 := set8_fr nA hbR (.bool Is) (.slice da dk dc) (.int .i64 Ix) (.bool Os) (.slice na nk nc) (.int .i64 Ox) (.bool true) (.bool false)
     have A3 := set8_below MA.below (Nat.le_succ w.heap.size) (.bool Is) (.slice da dk dc) (.int .i64 Ix) (.bool Os) (.slice na nk nc) (.int .i64 Ox) (.bool true) (.bool false)
     clear MA DA NA dA nA
     go_upto_if 95 with fail
     go_step
     go_step
     go_step
     go_step
     go_step
     go_step
     go_step
     go_step
     go_step
     refine wpList_built rfl 49 _ rfl [(0, .agg #[.bool Is, .slice da dk dc, .int .i64 Ix]), (1, .agg #[.bool Os, .slice na nk nc, .int .i64 Ox]), (2, .bool true), (3, .bool false)] (by simp [Act.eval]; done) _ (built_edges _ _ _ _ _ _ _ _ _ _ _ _) ?_
     go_step
     go_step
     go_step
     refine wpList_store8 rfl 49 _ _ rfl (w.heap.size + 1) (.bool Is) (.slice da dk dc) (.int .i64 Ix) (.bool Os) (.slice na nk nc) (.int .i64 Ox) (.bool true) (.bool false) (by simp [Act.eval]; done) (by simp [Act.eval]; done) R (by kernel_rfl) (by simp [Value.oneCell']; done) ?_
     have ⟨t0, t1, t2, t3, t4, t5, t6, t7⟩ := R.set (.bool Is) (.slice da dk dc) (.int .i64 Ix) (.bool Os) (.slice na nk nc) (.int .i64 Ox) (.bool true) (.bool false)
     clear R
     generalize set8 wB (w.heap.size + 1) (.bool Is) (.slice da dk dc) (.int .i64 Ix) (.bool Os) (.slice na nk nc) (.int .i64 Ox) (.bool true) (.bool false) = wE at *
     (first | go_step | go_skip | go_upon)
     (first | go_step | go_skip | go_upon)
     (first | go_step | go_skip | go_upon)
     (first | go_step | go_skip | go_upon)
     (first | go_step | go_skip | go_upon)
     (first | go_step | go_skip | go_upon)
     (first | go_step | go_skip | go_upon)
     (first | go_step | go_skip | go_upon)
     refine bodyPost_ret (v := .tuple #[.agg #[.bool Is, .slice da dk dc, .int .i64 Ix, .bool Os, .slice na nk nc, .int .i64 Ox, .bool true, .bool false], .int .i64 0]) (results_cell_tmp Tryz.results17 (by simp; done) (load_row8 _ _ _ _ _ _ _ _ (by kernel_rfl) (by kernel_rfl) t0 t1 t2 t3 t4 t5 t6 t7) (by simp; done)) rfl ⟨_, _, _, _, _, _, rfl, A1.mono (by omega), A2.mono (by omega), A3⟩
   · obtain ⟨rfl, rfl, rfl, rfl, rfl, rfl, rfl, rfl⟩ := HE2.out rfl
     clear HE1 HE3 HE2 HEV cX cY hm hb64 r0 r1 r2
     have R := M.res
     have A1 := set8_fr M.rH hbR (.bool Is) (.slice ha hn hc) (.int .i64 Ix) (.bool Os) (.slice fa fk fc) (.int .i64 Ox) (.bool true) (.bool false)
     have A2 := set8_fr M.rF hbR (.bool Is) (.slice ha hn hc) (.int .i64 Ix) (.bool Os) (.slice fa fk fc) (.int .i64 Ox) (.bool true) (.bool false)
     have A3 := set8_below M.below (Nat.le_succ w.heap.size) (.bool Is) (.slice ha hn hc) (.int .i64 Ix) (.bool Os) (.slice fa fk fc) (.int .i64 Ox) (.bool true) (.bool false)
     clear M
     go_upto_if 66 with fail
     go_step
     go_step
     go_step
     go_step
     go_step
     go_step
     go_step
     go_step
     go_step
     refine wpList_built rfl 49 _ rfl [(0, .agg #[.bool Is, .slice ha hn hc, .int .i64 Ix]), (1, .agg #[.bool Os, .slice fa fk fc, .int .i64 Ox]), (2, .bool true), (3, .bool false)] (by simp [Act.eval]; done) _ (built_edges _ _ _ _ _ _ _ _ _ _ _ _) ?_
     refine wpList_store8 rfl 49 _ _ rfl (w.heap.size + 1) (.bool Is) (.slice ha hn hc) (.int .i64 Ix) (.bool Os) (.slice fa fk fc) (.int .i64 Ox) (.bool true) (.bool false) (by simp [Act.eval, Act.put]; done) (by simp [Act.eval, Act.put]; done) R (by kernel_rfl) (by simp [Value.oneCell']; done) ?_
     have ⟨t0, t1, t2, t3, t4, t5, t6, t7⟩ := R.set (.bool Is) (.slice ha hn hc) (.int .i64 Ix) (.bool Os) (.slice fa fk fc) (.int .i64 Ox) (.bool true) (.bool false)
     clear R
     generalize set8 wc (w.heap.size + 1) (.bool Is) (.slice ha hn hc) (.int .i64 Ix) (.bool Os) (.slice fa fk fc) (.int .i64 Ox) (.bool true) (.bool false) = wE at *
     (first | go_step | go_skip | go_upon)
     (first | go_step | go_skip | go_upon)
     (first | go_step | go_skip | go_upon)
     (first | go_step | go_skip | go_upon)
     (first | go_step | go_skip | go_upon)
     (first | go_step | go_skip | go_upon)
     (first | go_step | go_skip | go_upon)
     (first | go_step | go_skip | go_upon)
     refine bodyPost_ret (v := .tuple #[.agg #[.bool Is, .slice ha hn hc, .int .i64 Ix, .bool Os, .slice fa fk fc, .int .i64 Ox, .bool true, .bool false], .int .i64 0]) (results_cell_tmp Tryz.results17 (by simp; done) (load_row8 _ _ _ _ _ _ _ _ (by kernel_rfl) (by kernel_rfl) t0 t1 t2 t3 t4 t5 t6 t7) (by simp; done)) rfl ⟨_, _, _, _, _, _, rfl, A1.mono (by omega), A2.mono (by omega), A3⟩
   · obtain ⟨rfl, rfl, rfl, rfl, rfl, rfl, rfl, rfl⟩ := HE3.out rfl
     clear HE1 HE3 HE2 HEV cX cY hm hb64 f0 f1 f2
     have hdc : ((b : Int) == 0) = decide (b = 0) := by by_cases h : b = 0 <;> simp [h]
     have R := M.res
     have A1 := set8_fr M.rB hbR (.bool Is) (.slice ba bk bc) (.int .i64 Ix) (.bool Os) (.slice ha hn hc) (.int .i64 Ox) (.bool (decide (b = 0))) (.bool true)
     have A2 := set8_fr M.rH hbR (.bool Is) (.slice ba bk bc) (.int .i64 Ix) (.bool Os) (.slice ha hn hc) (.int .i64 Ox) (.bool (decide (b = 0))) (.bool true)
     have A3 := set8_below M.below (Nat.le_succ w.heap.size) (.bool Is) (.slice ba bk bc) (.int .i64 Ix) (.bool Os) (.slice ha hn hc) (.int .i64 Ox) (.bool (decide (b = 0))) (.bool true)
     clear M
     go_upto_if 71 with fail
     go_step
     go_step
     go_step
     go_step
     go_step
     go_step
     go_step
     go_step
     go_step
     go_step
     go_step
     go_step
     go_step
     go_step
     go_step
     refine wpList_built rfl 49 _ rfl [(0, .agg #[.bool Is, .slice ba bk bc, .int .i64 Ix]), (1, .agg #[.bool Os, .slice ha hn hc, .int .i64 Ox]), (2, .bool (decide (b = 0))), (3, .bool true)] (by simp [Act.eval]; done) _ (built_edges _ _ _ _ _ _ _ _ _ _ _ _) ?_
     refine wpList_store8 rfl 49 _ _ rfl (w.heap.size + 1) (.bool Is) (.slice ba bk bc) (.int .i64 Ix) (.bool Os) (.slice ha hn hc) (.int .i64 Ox) (.bool (decide (b = 0))) (.bool true) (by simp [Act.eval, Act.put]; done) (by simp [Act.eval, Act.put]; done) R (by kernel_rfl) (by simp [Value.oneCell']; done) ?_
     have ⟨t0, t1, t2, t3, t4, t5, t6, t7⟩ := R.set (.bool Is) (.slice ba bk bc) (.int .i64 Ix) (.bool Os) (.slice ha hn hc) (.int .i64 Ox) (.bool (decide (b = 0))) (.bool true)
     clear R
     generalize set8 wc (w.heap.size + 1) (.bool Is) (.slice ba bk bc) (.int .i64 Ix) (.bool Os) (.slice ha hn hc) (.int .i64 Ox) (.bool (decide (b = 0))) (.bool true) = wE at *
     (first | go_step | go_skip | go_upon)
     (first | go_step | go_skip | go_upon)
     (first | go_step | go_skip | go_upon)
     (first | go_step | go_skip | go_upon)
     (first | go_step | go_skip | go_upon)
     (first | go_step | go_skip | go_upon)
     (first | go_step | go_skip | go_upon)
     (first | go_step | go_skip | go_upon)
     refine bodyPost_ret (v := .tuple #[.agg #[.bool Is, .slice ba bk bc, .int .i64 Ix, .bool Os, .slice ha hn hc, .int .i64 Ox, .bool (decide (b = 0)), .bool true], .int .i64 0]) (results_cell_tmp Tryz.results17 (by simp; done) (load_row8 _ _ _ _ _ _ _ _ (by kernel_rfl) (by kernel_rfl) t0 t1 t2 t3 t4 t5 t6 t7) (by simp; done)) rfl ⟨_, _, _, _, _, _, rfl, A1.mono (by omega), A2.mono (by omega), A3⟩
end Go.Proofs.YtpmncmglmobjoaaGreatDoor
