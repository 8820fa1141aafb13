/-
  Plain: the ends of a reach in order, the middle between them; goes' walk.
-/
import Derived.Test.YtfjgmpfpadfknaaGreatDoorQRnBase
import Derived.Test.YtfjgmpfpadfknaaGreatDoorQDRchM
import Derived.Test.YtfjgmpfpadfknaaGreatDoorQDRchA
namespace Go.Proofs.YtfjgmpfpadfknaaGreatDoor

open Go.RowKit Go.Lb

set_option exponentiation.threshold 5000

theorem reach_order {E F m M : Nat} (hi : m + 1 < pw (E + F)) (hM : M < 4) : iW E F m M < oW E F m M ∨ iW E F m M = oW E F m M ∧ rci m M = true ∧ rco m M = true := by
  have st : gN E F m < gN E F (m + 1) := gN_step hi
  have sp : 0 < m → gN E F (m - 1) < gN E F m := fun h0 => by
    have := gN_step (E := E) (F := F) (m := m - 1) (by omega)
    rwa [show m - 1 + 1 = m by omega] at this
  have sle : gN E F (m - 1) ≤ gN E F m := gN_mono (by omega) (by omega)
  unfold iW oW rci rco
  rcases (show M = 0 ∨ M = 1 ∨ M = 2 ∨ M = 3 by omega) with rfl | rfl | rfl | rfl
  · simp only [show ¬ ((0 : Nat) = 1) by decide, show ¬ ((0 : Nat) = 2) by decide, show ¬ ((0 : Nat) = 3) by decide, if_false]
    left; omega
  · simp only [show ¬ ((1 : Nat) = 2) by decide, show ¬ ((1 : Nat) = 3) by decide, if_false]
    left; omega
  · simp only [if_true]
    left; omega
  · simp only [show ¬ ((3 : Nat) = 2) by decide, if_true, if_false]
    by_cases h0 : m = 0
    · right
      subst h0
      simp
    · left
      have := sp (by omega)
      omega

theorem edge_scale {X : Ds} {b : Int} {W : Nat} (hw : upW X.N X.x (b - 1) = W) (hl : X.N ≠ 0 → b - 1 ≤ X.x) (hb : b ≤ 0) : upN X.N X.x * 2 ^ (1 - b).toNat = W * upD X.x := by
  rw [← hw]
  unfold upN upD upW
  by_cases h0 : X.N = 0
  · rw [h0]; simp
  · have := hl h0
    rw [Nat.mul_assoc, Nat.mul_assoc, ← Nat.pow_add, ← Nat.pow_add]
    congr 2
    omega

/-- What is known of a finite float's reach. -/
theorem edge_facts {E F b m : Nat} (hf : formE (E : Int) (F : Int) = 0) (hx : exN E F b ≠ maskN E) (s : Bool) (X : Ds)
    (hX : X = rcI E F (mgN E F b) (seM m s) ∨ X = rcO E F (mgN E F b) (seM m s)) :
    Dy false X.N X.x ∧ ratB (s && decide (X.N ≠ 0)) (limbs (upN X.N X.x)) (limbs (upD X.x)) = true ∧ (limbs (upN X.N X.x)).length ≤ 126 ∧ (limbs (upD X.x)).length ≤ 64 := by
  have hml := fin_iff.1 hx
  have hi := (if_lt hf).2
  have hmp : mgN E F b < pw (E + F) := mg_lt E F b
  have hxm : exN E F (mgN E F b) ≠ maskN E := fin_iff.2 (by rw [mag_self hmp]; exact hml)
  obtain ⟨dI, gI, dO, gO⟩ := mean_bds hf hmp hxm (seM m s)
  obtain ⟨sI, sO, _⟩ := rc_s hf hmp hxm (seM m s)
  obtain ⟨b1, b2, b3, b4⟩ := base_small hf
  rw [sI] at dI
  rw [sO] at dO
  have fin : ∀ X : Ds, Dy false X.N X.x → Bd X.N X.x (baseI E F - 1) 4000 → (limbs (upN X.N X.x)).length ≤ 126 ∧ (limbs (upD X.x)).length ≤ 64 := fun X h g => by
    have u1 : upN X.N X.x < 2 ^ 4000 := by
      refine Nat.lt_of_le_of_lt ?_ g.top
      unfold upN upW
      exact Nat.mul_le_mul_left _ (Nat.pow_le_pow_right (by decide) (by omega))
    have hXx : -2000 ≤ X.x := by
      by_cases h0 : X.N = 0
      · have := (h.zero h0).2; omega
      · have := g.low h0; omega
    have u2 : upD X.x < 2 ^ 2001 := by
      unfold upD
      exact Nat.pow_lt_pow_right (by decide) (by omega)
    exact ⟨Nat.le_trans (len_pow (k := 125) u1 (by omega)) (by decide), Nat.le_trans (len_pow (k := 63) u2 (by decide)) (by decide)⟩
  have rat : ∀ X, X = rcI E F (mgN E F b) (seM m s) ∨ X = rcO E F (mgN E F b) (seM m s) → ratB (s && decide (X.N ≠ 0)) (limbs (upN X.N X.x)) (limbs (upD X.x)) = true := fun X h =>
    end_rat hf hmp hxm (seM m s) _ X h (fun h => of_decide_eq_true ((Bool.and_eq_true _ _).mp h).2)
  rcases hX with rfl | rfl
  · exact ⟨dI, rat _ (.inl rfl), fin _ dI gI⟩
  · exact ⟨dO, rat _ (.inr rfl), fin _ dO gO⟩

/-- The ends stand in order. -/
theorem edge_order {E F b m : Nat} (hf : formE (E : Int) (F : Int) = 0) (hx : exN E F b ≠ maskN E) (hm : m < 5) (s : Bool) :
    cmpQ (edQ s (loD s (rcI E F (mgN E F b) (seM m s)) (rcO E F (mgN E F b) (seM m s)))) (edQ s (hiD s (rcI E F (mgN E F b) (seM m s)) (rcO E F (mgN E F b) (seM m s)))) = -1 ∨
    cmpQ (edQ s (loD s (rcI E F (mgN E F b) (seM m s)) (rcO E F (mgN E F b) (seM m s)))) (edQ s (hiD s (rcI E F (mgN E F b) (seM m s)) (rcO E F (mgN E F b) (seM m s)))) = 0 ∧ rci (mgN E F b) (seM m s) = true ∧ rco (mgN E F b) (seM m s) = true := by
  have hml := fin_iff.1 hx
  have hi := (if_lt hf).2
  have hmp : mgN E F b < pw (E + F) := mg_lt E F b
  have hxm : exN E F (mgN E F b) ≠ maskN E := fin_iff.2 (by rw [mag_self hmp]; exact hml)
  obtain ⟨dI, gI, dO, gO⟩ := mean_bds hf hmp hxm (seM m s)
  obtain ⟨sI, sO, _⟩ := rc_s hf hmp hxm (seM m s)
  obtain ⟨b1, b2, b3, b4⟩ := base_small hf
  rw [sI] at dI
  rw [sO] at dO
  obtain ⟨wI', wO'⟩ := rc_units hf hml (seM m s)
  have kI := edge_scale wI' gI.low b2
  have kO := edge_scale wO' gO.low b2
  have hord := reach_order (E := E) (F := F) (m := mgN E F b) (by omega) (seM_lt hm s)
  generalize mgN E F b = M0 at *
  generalize rcI E F M0 (seM m s) = I at *
  generalize rcO E F M0 (seM m s) = O at *
  have hT : 0 < 2 ^ (1 - baseI E F).toNat := Nat.two_pow_pos _
  have e1 : upN I.N I.x * upD O.x * 2 ^ (1 - baseI E F).toNat = iW E F M0 (seM m s) * (upD I.x * upD O.x) := by rw [Nat.mul_right_comm, kI, Nat.mul_assoc]
  have e2 : upN O.N O.x * upD I.x * 2 ^ (1 - baseI E F).toNat = oW E F M0 (seM m s) * (upD I.x * upD O.x) := by rw [Nat.mul_right_comm, kO, Nat.mul_assoc, Nat.mul_comm (upD O.x)]
  have hU : 0 < upD I.x * upD O.x := Nat.mul_pos (Nat.pos_of_ne_zero (upD_pos _)) (Nat.pos_of_ne_zero (upD_pos _))
  have hcmp : upN I.N I.x * upD O.x < upN O.N O.x * upD I.x ∨ upN I.N I.x * upD O.x = upN O.N O.x * upD I.x ∧ rci M0 (seM m s) = true ∧ rco M0 (seM m s) = true := by
    rcases hord with h | ⟨h, h1⟩
    · left
      refine Nat.lt_of_mul_lt_mul_right (a := 2 ^ (1 - baseI E F).toNat) ?_
      rw [e1, e2]
      exact Nat.mul_lt_mul_of_pos_right h hU
    · right
      refine ⟨Nat.eq_of_mul_eq_mul_right hT ?_, h1⟩
      rw [e1, e2, h]
  have hnz : ∀ X : Ds, ∀ k : Nat, k ≠ 0 → (upN X.N X.x * k = 0 ↔ X.N = 0) := fun X k hk => by
    unfold upN
    refine ⟨fun h => ?_, fun h => by rw [h, Nat.zero_mul, Nat.zero_mul]⟩
    have h1 := (Nat.mul_eq_zero.1 h).resolve_right hk
    exact (Nat.mul_eq_zero.1 h1).resolve_right (Nat.ne_of_gt (Nat.two_pow_pos _))
  have hneg : ∀ X : Ds, (s && decide (X.N ≠ 0)) = true → upN X.N X.x ≠ 0 := fun X h => upN_ne (of_decide_eq_true ((Bool.and_eq_true _ _).mp h).2) _
  have sgI' := sg_end s I (upN I.N I.x * upD O.x) (hnz I _ (upD_pos _))
  have sgO' := sg_end s O (upN O.N O.x * upD I.x) (hnz O _ (upD_pos _))
  have cIO : cmpQ (edQ s I) (edQ s O) = _ := cmp_sides (upD_pos _) (up_cop dI) (hneg I) (upD_pos _) (up_cop dO) (hneg O)
  have cOI : cmpQ (edQ s O) (edQ s I) = _ := cmp_sides (upD_pos _) (up_cop dO) (hneg O) (upD_pos _) (up_cop dI) (hneg I)
  rw [sgI', sgO'] at cIO cOI
  unfold loD hiD
  cases s
  · simp only [Bool.false_eq_true, if_false] at cIO ⊢
    rw [cIO]
    rcases hcmp with h | ⟨h, h1⟩
    · left; rw [if_pos (by omega)]
    · right; rw [if_neg (by omega), if_neg (by omega)]; exact ⟨rfl, h1⟩
  · simp only [if_true] at cOI ⊢
    rw [cOI]
    rcases hcmp with h | ⟨h, h1⟩
    · left; rw [if_pos (by omega)]
    · right; rw [if_neg (by omega), if_neg (by omega)]; exact ⟨rfl, h1⟩

theorem cmpQ_lt {x y : Rat} : cmpQ x y = -1 ↔ x < y := by
  unfold cmpQ
  by_cases h : x < y
  · simp [h]
  · rw [if_neg h]
    by_cases h2 : y < x
    · simp [h2, h]
    · simp [h2, h]

theorem cmpQ_zero {x y : Rat} : cmpQ x y = 0 ↔ x = y := by
  unfold cmpQ
  by_cases h : x < y
  · rw [if_pos h]
    exact ⟨fun k => absurd k (by decide), fun e => by subst e; exact absurd h Rat.lt_irrefl⟩
  · rw [if_neg h]
    by_cases h2 : y < x
    · rw [if_pos h2]
      exact ⟨fun k => absurd k (by decide), fun e => by subst e; exact absurd h2 Rat.lt_irrefl⟩
    · rw [if_neg h2]
      exact ⟨fun _ => Rat.le_antisymm (Rat.not_lt.1 h2) (Rat.not_lt.1 h), fun _ => rfl⟩

theorem hf_twice (z : Rat) : hfQ z + hfQ z = z := by
  unfold hfQ
  rw [← Rat.mul_add, show twoQ⁻¹ + twoQ⁻¹ = 1 by decide +kernel, Rat.mul_one]

theorem mid_lt {x y : Rat} (h : x < y) : x < hfQ (x + y) ∧ hfQ (x + y) < y := by
  have := hf_twice (x + y)
  constructor <;> grind

theorem mid_eq {x y : Rat} (h : x = y) : hfQ (x + y) = x := by
  have := hf_twice (x + y)
  grind

theorem ratB_of (q : Rat) (l1 : ln q.num.natAbs ≤ 16384) (l2 : ln q.den ≤ 16384) : ratB (decide (q.num < 0)) (limbs q.num.natAbs) (limbs q.den) = true := by
  unfold ratB
  refine decide_eq_true ⟨chk_lm6 l1, chk_lm6 l2, ?_, ?_, fun h => ?_⟩
  · rw [limbs_pos q.den_nz]; simp
  · rw [val_limbs', val_limbs']; exact q.reduced
  · have := of_decide_eq_true h
    rw [val_limbs']
    omega

theorem sgQ_of (q : Rat) : sgQ' (decide (q.num < 0)) q.num.natAbs q.den = q := by
  unfold sgQ'
  by_cases h : q.num < 0
  · rw [if_pos (decide_eq_true h), show -(q.num.natAbs : Int) = q.num by omega, Rat.mkRat_self]
  · rw [if_neg (by simpa using h), show (q.num.natAbs : Int) = q.num by omega, Rat.mkRat_self]

theorem flags_few (E F N D : Nat) (s : Bool) (m : Nat) : sgFlags E F N D s m = 0 ∨ sgFlags E F N D s m = 1 ∨ sgFlags E F N D s m = 3 ∨ sgFlags E F N D s m = 5 := by
  unfold sgFlags flG
  split
  · exact .inl rfl
  · split
    · exact .inr (.inr (.inl rfl))
    · split
      · exact .inl rfl
      · split
        · exact .inr (.inr (.inr rfl))
        · exact .inr (.inl rfl)

theorem flag_and {G : Nat} (h : G = 0 ∨ G = 1 ∨ G = 3 ∨ G = 5) : ∃ t : Int, bits BinOp.and IntKind.u8 (G : Int) 2 = t ∧ (t == 0) = decide (G ≠ 3) := by
  rcases h with rfl | rfl | rfl | rfl
  · exact ⟨0, by decide +kernel, by decide⟩
  · exact ⟨0, by decide +kernel, by decide⟩
  · exact ⟨2, by decide +kernel, by decide⟩
  · exact ⟨0, by decide +kernel, by decide⟩

end Go.Proofs.YtfjgmpfpadfknaaGreatDoor

