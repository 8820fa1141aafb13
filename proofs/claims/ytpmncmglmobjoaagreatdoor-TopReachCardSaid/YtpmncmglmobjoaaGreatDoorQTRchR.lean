/-
  Plain: the ends of a reach in order; all that a law of reach and rounding leans on (Rns).
-/
import Derived.Test.YtpmncmglmobjoaaGreatDoorQTRchM
namespace Go.Proofs.YtpmncmglmobjoaaGreatDoor
open Go.RowKit Go.Lb
set_option exponentiation.threshold 5000
theorem reach_order {E F m M : Nat} (hi : m + 1 < pw (E + F)) (hM : M < 4) : iW E F m M < oW E F m M ∨ iW E F m M = oW E F m M ∧ rci m M = true ∧ rco m M = true := by
 have st : gN E F m < gN E F (m + 1) := gN_step hi
 have sp : 0 < m → gN E F (m - 1) < gN E F m := fun h0 => by
  have := gN_step (E := E) (F := F) (m := m - 1) (by omega)
  rwa [show m - 1 + 1 = m by omega] at this
 have sle : gN E F (m - 1) ≤ gN E F m := gN_mono (by omega) (by omega)
 unfold iW oW rci rco
 rcases (show M = 0 ∨ M = 1 ∨ M = 2 ∨ M = 3 by omega) with rfl | rfl | rfl | rfl
 · simp only [show ¬ ((0 : Nat) = 1) by decide, show ¬ ((0 : Nat) = 2) by decide, show ¬ ((0 : Nat) = 3) by decide, if_false]
   left; omega
 · simp only [show ¬ ((1 : Nat) = 2) by decide, show ¬ ((1 : Nat) = 3) by decide, if_false]
   left; omega
 · simp only [if_true]
   left; omega
 · simp only [show ¬ ((3 : Nat) = 2) by decide, if_true, if_false]
   by_cases h0 : m = 0
   · right
     subst h0
     simp
   · left
     have := sp (by omega)
     omega
theorem edge_scale {X : Ds} {b : Int} {W : Nat} (hw : upW X.N X.x (b - 1) = W) (hl : X.N ≠ 0 → b - 1 ≤ X.x) (hb : b ≤ 0) : upN X.N X.x * 2 ^ (1 - b).toNat = W * upD X.x := by
 rw [← hw]
 unfold upN upD upW
 by_cases h0 : X.N = 0
 · rw [h0]; simp
 · have := hl h0
   rw [Nat.mul_assoc, Nat.mul_assoc, ← Nat.pow_add, ← Nat.pow_add]
   congr 2
   omega
theorem edge_facts {E F b m : Nat} (hf : formE (E : Int) (F : Int) = 0) (hx : exN E F b ≠ maskN E) (s : Bool) (X : Ds)
 (hX : X = rcI E F (mgN E F b) (seM m s) ∨ X = rcO E F (mgN E F b) (seM m s)) :
 Dy false X.N X.x ∧ ratB (s && decide (X.N ≠ 0)) (limbs (upN X.N X.x)) (limbs (upD X.x)) = true ∧ (limbs (upN X.N X.x)).length ≤ 126 ∧ (limbs (upD X.x)).length ≤ 64 := by
 have hml := fin_iff.1 hx
 have hi := (if_lt hf).2
 have hmp : mgN E F b < pw (E + F) := mg_lt E F b
 have hxm : exN E F (mgN E F b) ≠ maskN E := fin_iff.2 (by rw [mag_self hmp]; exact hml)
 obtain ⟨dI, gI, dO, gO⟩ := mean_bds hf hmp hxm (seM m s)
 obtain ⟨sI, sO, _⟩ := rc_s hf hmp hxm (seM m s)
 obtain ⟨b1, b2, b3, b4⟩ := base_small hf
 rw [sI] at dI
 rw [sO] at dO
 have fin : ∀ X : Ds, Dy false X.N X.x → Bd X.N X.x (baseI E F - 1) 4000 → (limbs (upN X.N X.x)).length ≤ 126 ∧ (limbs (upD X.x)).length ≤ 64 := fun X h g => by
  have u1 : upN X.N X.x < 2 ^ 4000 := by
   refine Nat.lt_of_le_of_lt ?_ g.top
   unfold upN upW
   exact Nat.mul_le_mul_left _ (Nat.pow_le_pow_right (by decide) (by omega))
  have hXx : -2000 ≤ X.x := by
   by_cases h0 : X.N = 0
   · have := (h.zero h0).2; omega
   · have := g.low h0; omega
  have u2 : upD X.x < 2 ^ 2001 := by
   unfold upD
   exact Nat.pow_lt_pow_right (by decide) (by omega)
  exact ⟨Nat.le_trans (len_pow (k := 125) u1 (by omega)) (by decide), Nat.le_trans (len_pow (k := 63) u2 (by decide)) (by decide)⟩
 have rat : ∀ X, X = rcI E F (mgN E F b) (seM m s) ∨ X = rcO E F (mgN E F b) (seM m s) → ratB (s && decide (X.N ≠ 0)) (limbs (upN X.N X.x)) (limbs (upD X.x)) = true := fun X h =>
  end_rat hf hmp hxm (seM m s) _ X h (fun h => of_decide_eq_true ((Bool.and_eq_true _ _).mp h).2)
 rcases hX with rfl | rfl
 · exact ⟨dI, rat _ (.inl rfl), fin _ dI gI⟩
 · exact ⟨dO, rat _ (.inr rfl), fin _ dO gO⟩
theorem edge_order {E F b m : Nat} (hf : formE (E : Int) (F : Int) = 0) (hx : exN E F b ≠ maskN E) (hm : m < 5) (s : Bool) :
 cmpQ (edQ s (loD s (rcI E F (mgN E F b) (seM m s)) (rcO E F (mgN E F b) (seM m s)))) (edQ s (hiD s (rcI E F (mgN E F b) (seM m s)) (rcO E F (mgN E F b) (seM m s)))) = -1 ∨
 cmpQ (edQ s (loD s (rcI E F (mgN E F b) (seM m s)) (rcO E F (mgN E F b) (seM m s)))) (edQ s (hiD s (rcI E F (mgN E F b) (seM m s)) (rcO E F (mgN E F b) (seM m s)))) = 0 ∧ rci (mgN E F b) (seM m s) = true ∧ rco (mgN E F b) (seM m s) = true := by
 have hml := fin_iff.1 hx
 have hi := (if_lt hf).2
 have hmp : mgN E F b < pw (E + F) := mg_lt E F b
 have hxm : exN E F (mgN E F b) ≠ maskN E := fin_iff.2 (by rw [mag_self hmp]; exact hml)
 obtain ⟨dI, gI, dO, gO⟩ := mean_bds hf hmp hxm (seM m s)
 obtain ⟨sI, sO, _⟩ := rc_s hf hmp hxm (seM m s)
 obtain ⟨b1, b2, b3, b4⟩ := base_small hf
 rw [sI] at dI
 rw [sO] at dO
 obtain ⟨wI', wO'⟩ := rc_units hf hml (seM m s)
 have kI := edge_scale wI' gI.low b2
 have kO := edge_scale wO' gO.low b2
 have hord := reach_order (E := E) (F := F) (m := mgN E F b) (by omega) (seM_lt hm s)
 generalize mgN E F b = M0 at *
 generalize rcI E F M0 (seM m s) = I at *
 generalize rcO E F M0 (seM m s) = O at *
 have hT : 0 < 2 ^ (1 - baseI E F).toNat := Nat.two_pow_pos _
 have e1 : upN I.N I.x * upD O.x * 2 ^ (1 - baseI E F).toNat = iW E F M0 (seM m s) * (upD I.x * upD O.x) := by rw [Nat.mul_right_comm, kI, Nat.mul_assoc]
 have e2 : upN O.N O.x * upD I.x * 2 ^ (1 - baseI E F).toNat = oW E F M0 (seM m s) * (upD I.x * upD O.x) := by rw [Nat.mul_right_comm, kO, Nat.mul_assoc, Nat.mul_comm (upD O.x)]
 have hU : 0 < upD I.x * upD O.x := Nat.mul_pos (Nat.pos_of_ne_zero (upD_pos _)) (Nat.pos_of_ne_zero (upD_pos _))
 have hcmp : upN I.N I.x * upD O.x < upN O.N O.x * upD I.x ∨ upN I.N I.x * upD O.x = upN O.N O.x * upD I.x ∧ rci M0 (seM m s) = true ∧ rco M0 (seM m s) = true := by
  rcases hord with h | ⟨h, h1⟩
  · left
    refine Nat.lt_of_mul_lt_mul_right (a := 2 ^ (1 - baseI E F).toNat) ?_
    rw [e1, e2]
    exact Nat.mul_lt_mul_of_pos_right h hU
  · right
    refine ⟨Nat.eq_of_mul_eq_mul_right hT ?_, h1⟩
    rw [e1, e2, h]
 have hnz : ∀ X : Ds, ∀ k : Nat, k ≠ 0 → (upN X.N X.x * k = 0 ↔ X.N = 0) := fun X k hk => by
  unfold upN
  refine ⟨fun h => ?_, fun h => by rw [h, Nat.zero_mul, Nat.zero_mul]⟩
  have h1 := (Nat.mul_eq_zero.1 h).resolve_right hk
  exact (Nat.mul_eq_zero.1 h1).resolve_right (Nat.ne_of_gt (Nat.two_pow_pos _))
 have hneg : ∀ X : Ds, (s && decide (X.N ≠ 0)) = true → upN X.N X.x ≠ 0 := fun X h => upN_ne (of_decide_eq_true ((Bool.and_eq_true _ _).mp h).2) _
 have sgI' := sg_end s I (upN I.N I.x * upD O.x) (hnz I _ (upD_pos _))
 have sgO' := sg_end s O (upN O.N O.x * upD I.x) (hnz O _ (upD_pos _))
 have cIO : cmpQ (edQ s I) (edQ s O) = _ := cmp_sides (upD_pos _) (up_cop dI) (hneg I) (upD_pos _) (up_cop dO) (hneg O)
 have cOI : cmpQ (edQ s O) (edQ s I) = _ := cmp_sides (upD_pos _) (up_cop dO) (hneg O) (upD_pos _) (up_cop dI) (hneg I)
 rw [sgI', sgO'] at cIO cOI
 unfold loD hiD
 cases s
 · simp only [Bool.false_eq_true, if_false] at cIO ⊢
   rw [cIO]
   rcases hcmp with h | ⟨h, h1⟩
   · left; rw [if_pos (by omega)]
   · right; rw [if_neg (by omega), if_neg (by omega)]; exact ⟨rfl, h1⟩
 · simp only [if_true] at cOI ⊢
   rw [cOI]
   rcases hcmp with h | ⟨h, h1⟩
   · left; rw [if_pos (by omega)]
   · right; rw [if_neg (by omega), if_neg (by omega)]; exact ⟨rfl, h1⟩
theorem flags_few (E F N D : Nat) (s : Bool) (m : Nat) : sgFlags E F N D s m = 0 ∨ sgFlags E F N D s m = 1 ∨ sgFlags E F N D s m = 3 ∨ sgFlags E F N D s m = 5 := by
 unfold sgFlags flG
 split
 · exact .inl rfl
 · split
   · exact .inr (.inr (.inl rfl))
   · split
     · exact .inl rfl
     · split
       · exact .inr (.inr (.inr rfl))
       · exact .inr (.inl rfl)
theorem flag_and {G : Nat} (h : G = 0 ∨ G = 1 ∨ G = 3 ∨ G = 5) : ∃ t : Int, bits BinOp.and IntKind.u8 (G : Int) 2 = t ∧ (t == 0) = decide (G ≠ 3) := by
 rcases h with rfl | rfl | rfl | rfl
 · exact ⟨0, by decide +kernel, by decide⟩
 · exact ⟨0, by decide +kernel, by decide⟩
 · exact ⟨2, by decide +kernel, by decide⟩
 · exact ⟨0, by decide +kernel, by decide⟩
def rnB (E F b m : Nat) (s neg : Bool) (N D : Nat) : Bool := decide (sgBits E F N D s neg m = b) && decide (sgFlags E F N D s m ≠ 3)
theorem scn_nought (N D : Nat) : scnN N D 0 = N ∧ scnD N D 0 = D := by
 unfold scnN scnD
 have h : nearZ 0 (blN N + blN D) = 0 := by unfold nearZ; omega
 rw [h]
 simp
theorem rchG_two {g : Bool} {I O : Ds} {i o : Bool} {w w' : World} {en : Ending} (h : RchG g I O i o w en w') : Rch (g && decide ((loD g I O).N ≠ 0)) (g && decide ((hiD g I O).N ≠ 0)) (loD g I O) (hiD g I O) (if g = true then o else i) (if g = true then i else o) w en w' := by
 cases g
 · exact h
 · exact h
theorem rn_btw {E F b m N D : Nat} {rs : Bool} (hf : formE (E : Int) (F : Int) = 0) (hb : b < pw (1 + E + F)) (hx : exN E F b ≠ maskN E) (hm : m < 5) (hD : D ≠ 0) (hG : Nat.gcd N D = 1) (hs : rs = true → N ≠ 0) :
 rnB E F b m rs (sgB E F b) N D = btw (edQ (sgB E F b) (loD (sgB E F b) (rcI E F (mgN E F b) (seM m (sgB E F b))) (rcO E F (mgN E F b) (seM m (sgB E F b))))) (sgQ' rs N D) (edQ (sgB E F b) (hiD (sgB E F b) (rcI E F (mgN E F b) (seM m (sgB E F b))) (rcO E F (mgN E F b) (seM m (sgB E F b)))))
  (if sgB E F b = true then rco (mgN E F b) (seM m (sgB E F b)) else rci (mgN E F b) (seM m (sgB E F b))) (if sgB E F b = true then rci (mgN E F b) (seM m (sgB E F b)) else rco (mgN E F b) (seM m (sgB E F b))) := by
 have h := reach_law hf hb hx hm hD hG hs
 rw [Bool.eq_iff_iff, ← h]
 unfold rnB
 rw [Bool.and_eq_true, decide_eq_true_eq, decide_eq_true_eq]
def btwI (a b : Int) (l h : Bool) : Bool := (decide (a < 0) || (decide (a = 0) && l)) && (decide (b < 0) || (decide (b = 0) && h))
theorem cmpQ_three (x y : Rat) : cmpQ x y = -1 ∨ cmpQ x y = 0 ∨ cmpQ x y = 1 := by
 unfold cmpQ
 split
 · exact .inl rfl
 · split
   · exact .inr (.inr rfl)
   · exact .inr (.inl rfl)
structure Rns (E F b m : Nat) (s sL sH : Bool) (xL yL xH yH : List Nat) (l h : Bool) (qL qH : Rat) : Prop where
 sg : s = sgB E F b
 rL : ratB sL xL yL = true
 rH : ratB sH xH yH = true
 lL : xL.length ≤ 126 ∧ yL.length ≤ 64
 lH : xH.length ≤ 126 ∧ yH.length ≤ 64
 vL : sgQ' sL (val xL) (val yL) = qL
 vH : sgQ' sH (val xH) (val yH) = qH
 rch : ∀ W, Tab W → Calls Tryz.prog 7 #[.agg #[.int .i64 (E : Int), .int .i64 (F : Int)], .int .u64 (b : Int), .int .u8 (m : Int)] W fun en w' => ∃ a1 n1 c1 a2 n2 c2 a3 n3 c3 a4 n4 c4, en = .returned (.tuple #[.agg #[.bool sL, .slice a1 n1 c1, .slice a2 n2 c2], .agg #[.bool sH, .slice a3 n3 c3, .slice a4 n4 c4], .bool l, .bool h, .int .i64 0]) ∧
  Fr 40 w' W.heap.size a1 n1 c1 xL ∧ Fr 40 w' W.heap.size a2 n2 c2 yL ∧ Fr 40 w' W.heap.size a3 n3 c3 xH ∧ Fr 40 w' W.heap.size a4 n4 c4 yH ∧ Below W.heap.size W w'
 ql : ln qL.num.natAbs ≤ 126 ∧ ln qL.den ≤ 64
 qh : ln qH.num.natAbs ≤ 126 ∧ ln qH.den ≤ 64
 ord : cmpQ qL qH = -1 ∨ cmpQ qL qH = 0 ∧ l = true ∧ h = true
 bt : ∀ N D rs, D ≠ 0 → Nat.gcd N D = 1 → (rs = true → N ≠ 0) → rnB E F b m rs s N D = btw qL (sgQ' rs N D) qH l h
theorem edge_list (s : Bool) (X : Ds) : sgQ' (s && decide (X.N ≠ 0)) (val (limbs (upN X.N X.x))) (val (limbs (upD X.x))) = edQ s X := by
 rw [val_limbs', val_limbs']
 rfl
theorem edge_len {s : Bool} {X : Ds} (hd : Dy false X.N X.x) (h1 : (limbs (upN X.N X.x)).length ≤ 126) (h2 : (limbs (upD X.x)).length ≤ 64) : ln (edQ s X).num.natAbs ≤ 126 ∧ ln (edQ s X).den ≤ 64 := by
 obtain ⟨q1, q2, _⟩ := mk_low (s := s && decide (X.N ≠ 0)) (upD_pos X.x) (up_cop hd) (fun h => upN_ne (of_decide_eq_true ((Bool.and_eq_true _ _).mp h).2) _)
 unfold edQ
 rw [q1, q2]
 exact ⟨h1, h2⟩
theorem rns_of {E F b m : Nat} (hfit : fitsE (E : Int) (F : Int) b = 0) (hx : exN E F b ≠ maskN E) (hm : m < 5) : ∃ sL sH xL yL xH yH l h qL qH, Rns E F b m (sgB E F b) sL sH xL yL xH yH l h qL qH := by
 obtain ⟨hf, hp⟩ := fitsE_parts hfit
 replace hp : b < pw (1 + E + F) := hp
 have ef := edge_facts hf hx (m := m) (sgB E F b)
 have eo := edge_order hf hx hm (sgB E F b)
 have cN := fun W hT => nearReach_ok E F b m W hfit hx hm hT
 have hbt := fun N D rs (hD : D ≠ 0) (hG : Nat.gcd N D = 1) (hs : rs = true → N ≠ 0) => rn_btw (rs := rs) hf hp hx hm hD hG hs
 have hlo : loD (sgB E F b) (rcI E F (mgN E F b) (seM m (sgB E F b))) (rcO E F (mgN E F b) (seM m (sgB E F b))) = rcI E F (mgN E F b) (seM m (sgB E F b)) ∨ loD (sgB E F b) (rcI E F (mgN E F b) (seM m (sgB E F b))) (rcO E F (mgN E F b) (seM m (sgB E F b))) = rcO E F (mgN E F b) (seM m (sgB E F b)) := by
  unfold loD; split <;> simp
 have hhi : hiD (sgB E F b) (rcI E F (mgN E F b) (seM m (sgB E F b))) (rcO E F (mgN E F b) (seM m (sgB E F b))) = rcI E F (mgN E F b) (seM m (sgB E F b)) ∨ hiD (sgB E F b) (rcI E F (mgN E F b) (seM m (sgB E F b))) (rcO E F (mgN E F b) (seM m (sgB E F b))) = rcO E F (mgN E F b) (seM m (sgB E F b)) := by
  unfold hiD; split <;> simp
 obtain ⟨y1, k1, k2⟩ := ef _ hlo
 obtain ⟨y2, k3, k4⟩ := ef _ hhi
 refine ⟨_, _, _, _, _, _, _, _, _, _, rfl, k1, k3, k2, k4, edge_list _ _, edge_list _ _, ?_, edge_len y1 k2.1 k2.2, edge_len y2 k4.1 k4.2, ?_, hbt⟩
 · intro W hT
   refine (cN W hT).mono fun en w' hh => ?_
   obtain ⟨a1, n1, c1, a2, n2, c2, a3, n3, c3, a4, n4, c4, e, F1, F2, F3, F4, _, hb⟩ := rchG_two hh
   exact ⟨a1, n1, c1, a2, n2, c2, a3, n3, c3, a4, n4, c4, e, F1, F2, F3, F4, hb⟩
 · rcases eo with h | ⟨h, h1, h2⟩
   · exact .inl h
   · refine .inr ⟨h, ?_, ?_⟩
     · rw [h1, h2]; simp
     · rw [h1, h2]; simp
end Go.Proofs.YtpmncmglmobjoaaGreatDoor
