/-
  Plain: words added at a place; a product of long words out of smaller ones. No program in sight. Plain: whole numbers and fractions in cells, told by what they are worth. No program in sight. Plain: more of whole numbers and fractions in cells. No program in sight.
-/
import Derived.Test.YtpmncmglmobjoaaGreatDoorQbTBigL
namespace Go.Lb
open Go.RowKit Go.Proofs.YtpmncmglmobjoaaGreatDoor
structure At (zs ys : List Nat) (p i : Nat) (ws : List Nat) (c : Nat) : Prop where
 ok : Ok ws
 len : ws.length = zs.length
 one : c ≤ 1
 eq : val ws + 4294967296 ^ (p + i) * c = val zs + 4294967296 ^ p * val (ys.take i)
theorem at_zero {zs : List Nat} (h : Ok zs) (ys : List Nat) (p : Nat) : At zs ys p 0 zs 0 := ⟨h, rfl, by decide, by simp [val]⟩
theorem At.next {zs ys ws : List Nat} {p i c : Nat} (h : At zs ys p i ws c) (hy : Ok ys) (hp : p + i < zs.length) :
 At zs ys p (i + 1) (ws.set (p + i) ((nth ws (p + i) + c + nth ys i) % 4294967296)) ((nth ws (p + i) + c + nth ys i) / 4294967296) := by
 have h1 := nth_lt h.ok (p + i)
 have h2 := nth_lt hy i
 have h3 := h.one
 refine ⟨ok_set h.ok (by omega) _, by rw [List.length_set]; exact h.len, by omega, ?_⟩
 have hv := val_set (zs := ws) (p := p + i) (by rw [h.len]; exact hp) ((nth ws (p + i) + c + nth ys i) % 4294967296)
 have he := h.eq
 have e2 : 4294967296 ^ p * val (ys.take (i + 1)) = 4294967296 ^ p * val (ys.take i) + 4294967296 ^ (p + i) * nth ys i := by rw [val_take_next, Nat.mul_add, ← Nat.mul_assoc, ← Nat.pow_add]
 have e3 : 4294967296 ^ (p + (i + 1)) = 4294967296 ^ (p + i) * 4294967296 := by rw [← Nat.add_assoc, Nat.pow_succ]
 rw [e2, e3, ← Nat.add_assoc, ← he]
 have hm := Nat.div_add_mod (nth ws (p + i) + c + nth ys i) 4294967296
 generalize 4294967296 ^ (p + i) = B at *
 generalize (nth ws (p + i) + c + nth ys i) / 4294967296 = q at *
 generalize (nth ws (p + i) + c + nth ys i) % 4294967296 = r at *
 have e1 : B * (4294967296 * q + r) = B * (nth ws (p + i) + c + nth ys i) := by rw [hm]
 rw [Nat.mul_add, Nat.mul_add, Nat.mul_add, ← Nat.mul_assoc] at e1
 generalize B * 4294967296 * q = X at *
 generalize B * r = Y at *
 generalize B * nth ws (p + i) = Z at *
 generalize B * c = V at *
 generalize B * nth ys i = U at *
 omega
theorem At.room {zs ys ws : List Nat} {p i c : Nat} (h : At zs ys p i ws c) (hf : val zs + 4294967296 ^ p * val ys < 4294967296 ^ zs.length) (hc : c ≠ 0) (hi : ys.length ≤ i) : p + i < zs.length := by
 rcases Nat.lt_or_ge (p + i) zs.length with h1 | h1
 · exact h1
 · exfalso
   have he := h.eq
   rw [List.take_of_length_le hi] at he
   have hp : 4294967296 ^ zs.length ≤ 4294967296 ^ (p + i) := Nat.pow_le_pow_right (by decide) h1
   have h2 := Nat.mul_le_mul hp (Nat.one_le_iff_ne_zero.2 hc)
   omega
theorem At.done {zs ys ws : List Nat} {p i : Nat} (h : At zs ys p i ws 0) (hi : ys.length ≤ i) : val ws = val zs + 4294967296 ^ p * val ys := by
 have he := h.eq
 rw [List.take_of_length_le hi] at he
 simpa using he
theorem val_cut (xs : List Nat) (h : Nat) (hh : h ≤ xs.length) : val xs = val (xs.take h) + 4294967296 ^ h * val (xs.drop h) := by
 conv => lhs; rw [← List.take_append_drop h xs, val_append]
 rw [List.length_take, Nat.min_eq_left hh]
theorem kara (a b c d B : Nat) : a * c + B * ((a + b) * (c + d) - a * c - b * d) + B * B * (b * d) = (a + B * b) * (c + B * d) := by
 have e : (a + b) * (c + d) - a * c - b * d = a * d + b * c := by
  rw [Nat.add_mul, Nat.mul_add, Nat.mul_add]
  omega
 rw [e, Nat.add_mul, Nat.mul_add, Nat.mul_add, Nat.mul_add]
 have e1 : B * b * (B * d) = B * B * (b * d) := by rw [Nat.mul_mul_mul_comm]
 have e2 : a * (B * d) = B * (a * d) := by rw [Nat.mul_left_comm]
 have e3 : B * b * c = B * (b * c) := Nat.mul_assoc ..
 omega
theorem sl_take {w : World} {ao : Option Addr} {n c k : Nat} {xs : List Nat} (h : Sl w ao n c xs) (hk : k ≤ n) : Sl w ao k c (xs.take k) := by
 refine ⟨by rw [List.length_take, h.len]; omega, by have := h.le; omega, h.cap, ok_take h.ok k, fun h0 => ?_⟩
 obtain ⟨b, o, e, hb, hc⟩ := h.at_ (by omega)
 refine ⟨b, o, e, hb, fun j hj => ?_⟩
 rw [hc j (by omega)]
 unfold nth
 rw [List.getD_eq_getElem?_getD, List.getD_eq_getElem?_getD, List.getElem?_take, if_pos hj]
theorem sl_part {w : World} {b o n c : Nat} {xs : List Nat} (h : Sl w (some ⟨b, o, none⟩) n c xs) {i j : Nat} (hi : i < n) (hj : j ≤ n) : Sl w (some ⟨b, o + i, none⟩) (j - i) (c - i) ((xs.drop i).take (j - i)) := sl_take (h.drop hi) (by omega)
theorem len_add {m n h : Nat} (hm : m < 4294967296 ^ h) (hn : n < 4294967296 ^ h) : (limbs (m + n)).length ≤ h + 1 := by
 refine limbs_length_le ?_
 rw [Nat.pow_succ]
 omega
theorem sl_tail {w : World} {b o n c h : Nat} {xs : List Nat} (hs : Sl w (some ⟨b, o, none⟩) n c xs) (hh : h ≤ n) : Sl w (if c = h then some ⟨b, o, none⟩ else some ⟨b, o + h, none⟩) (n - h) (c - h) (xs.drop h) := by
 have hle := hs.le
 have hcap := hs.cap
 by_cases hn : h < n
 · rw [if_neg (by omega)]
   exact hs.drop hn
 · exact ⟨by rw [List.length_drop, hs.len], by omega, by omega, ok_drop hs.ok h, fun h0 => absurd h0 (by omega)⟩
theorem mul_part (xs : List Nat) (p e Y : Nat) (h1 : p ≤ e) (h2 : e ≤ xs.length) : val (xs.take p) * Y + 4294967296 ^ p * (val ((xs.drop p).take (e - p)) * Y) = val (xs.take e) * Y := by
 have hc := val_cut (xs.take e) p (by rw [List.length_take]; omega)
 rw [List.take_take, Nat.min_eq_left h1, List.drop_take] at hc
 rw [hc, Nat.add_mul, Nat.mul_assoc]
theorem mul_lt {xs ys : List Nat} (hx : Ok xs) (hy : Ok ys) {n : Nat} (hn : xs.length + ys.length < n) : val xs * val ys < 4294967296 ^ n := by
 have h1 := val_lt hx
 have h2 := val_lt hy
 have h3 : val xs * val ys ≤ 4294967296 ^ xs.length * 4294967296 ^ ys.length := Nat.mul_le_mul (Nat.le_of_lt h1) (Nat.le_of_lt h2)
 rw [← Nat.pow_add] at h3
 exact Nat.lt_of_le_of_lt h3 (Nat.pow_lt_pow_right (by decide) hn)
theorem len_mul {xs ys : List Nat} (hx : Ok xs) (hy : Ok ys) : (limbs (val xs * val ys)).length ≤ xs.length + ys.length := by
 have h1 := val_lt hx
 have h2 := val_lt hy
 by_cases h0 : val ys = 0
 · rw [h0, Nat.mul_zero, limbs_zero]; exact Nat.zero_le _
 · refine limbs_length_le ?_
   rw [Nat.pow_add]
   exact Nat.lt_of_lt_of_le (Nat.mul_lt_mul_of_pos_right h1 (Nat.pos_of_ne_zero h0)) (Nat.mul_le_mul_left _ (Nat.le_of_lt h2))
theorem room_at {p n m : Nat} (hp : p ≤ n) (h : 4294967296 ^ p * m < 4294967296 ^ n) : p + (limbs m).length ≤ n := by
 have h1 : m < 4294967296 ^ (n - p) := by
  have e : 4294967296 ^ n = 4294967296 ^ p * 4294967296 ^ (n - p) := by rw [← Nat.pow_add, show p + (n - p) = n by omega]
  rw [e] at h
  exact Nat.lt_of_mul_lt_mul_left h
 have := limbs_length_le h1
 omega
theorem kara_fit {a b c d h n : Nat} (hT : (a + 4294967296 ^ h * b) * (c + 4294967296 ^ h * d) < 4294967296 ^ n) (hn : 2 * h ≤ n) :
 (limbs (a * c)).length ≤ n ∧ h + (limbs ((a + b) * (c + d) - a * c - b * d)).length ≤ n ∧ 2 * h + (limbs (b * d)).length ≤ n ∧ a * c < 4294967296 ^ n ∧
 a * c + 4294967296 ^ h * ((a + b) * (c + d) - a * c - b * d) < 4294967296 ^ n ∧
 a * c + 4294967296 ^ h * ((a + b) * (c + d) - a * c - b * d) + 4294967296 ^ (2 * h) * (b * d) = (a + 4294967296 ^ h * b) * (c + 4294967296 ^ h * d) := by
 have hk := kara a b c d (4294967296 ^ h)
 have e2 : 4294967296 ^ (2 * h) = 4294967296 ^ h * 4294967296 ^ h := by rw [← Nat.pow_add, show h + h = 2 * h by omega]
 rw [e2]
 refine ⟨?_, ?_, ?_, by omega, by omega, hk⟩
 · have := room_at (p := 0) (n := n) (m := a * c) (by omega) (by rw [Nat.pow_zero, Nat.one_mul]; omega)
   omega
 · exact room_at (by omega) (by omega)
 · exact room_at hn (by rw [e2]; omega)
theorem kara_le (a b c d : Nat) : a * c ≤ (a + b) * (c + d) ∧ b * d ≤ (a + b) * (c + d) - a * c := by
 have h1 : (a + b) * (c + d) = a * c + a * d + (b * c + b * d) := by rw [Nat.add_mul, Nat.mul_add, Nat.mul_add]
 omega
def ln (N : Nat) : Nat := (limbs N).length
theorem ln_mono {A B : Nat} (h : B ≤ A) : ln B ≤ ln A := limbs_mono h
theorem ln_mul (A B : Nat) : ln (A * B) ≤ ln A + ln B := by
 have h := len_mul (ok_limbs A) (ok_limbs B)
 rwa [val_limbs', val_limbs'] at h
theorem ln_lt (A : Nat) : A < 4294967296 ^ ln A := by
 have h := val_lt (ok_limbs A)
 rwa [val_limbs'] at h
theorem ln_le {A k : Nat} (h : A < 4294967296 ^ k) : ln A ≤ k := limbs_length_le h
theorem ln_add {A B k : Nat} (hA : ln A ≤ k) (hB : ln B ≤ k) : ln (A + B) ≤ k + 1 :=
 len_add (Nat.lt_of_lt_of_le (ln_lt A) (Nat.pow_le_pow_right (by decide) hA)) (Nat.lt_of_lt_of_le (ln_lt B) (Nat.pow_le_pow_right (by decide) hB))
theorem ln_add' (A B : Nat) : ln (A + B) ≤ ln A + ln B + 1 := ln_add (Nat.le_add_right _ _) (Nat.le_add_left _ _)
theorem ln_div (A B : Nat) : ln (A / B) ≤ ln A := ln_mono (Nat.div_le_self A B)
theorem ln_mod (A B : Nat) : ln (A % B) ≤ ln A := ln_mono (Nat.mod_le A B)
theorem ln_pow (A k : Nat) : ln (A ^ k) ≤ k * ln A + 1 := by
 refine ln_le ?_
 rw [Nat.pow_succ, Nat.mul_comm k, Nat.pow_mul]
 have h1 : A ^ k ≤ (4294967296 ^ ln A) ^ k := Nat.pow_le_pow_left (Nat.le_of_lt (ln_lt A)) k
 have h2 : 0 < (4294967296 ^ ln A) ^ k := Nat.pow_pos (Nat.pow_pos (by decide))
 omega
theorem ln_two (k : Nat) : ln (2 ^ k) ≤ k / 32 + 1 := by
 refine ln_le ?_
 rw [show (4294967296 : Nat) = 2 ^ 32 from rfl, ← Nat.pow_mul]
 exact Nat.pow_lt_pow_right (by decide) (by omega)
theorem ln_shl (A k : Nat) : ln (A * 2 ^ k) ≤ ln A + (k / 32 + 1) := Nat.le_trans (ln_mul _ _) (Nat.add_le_add_left (ln_two k) _)
theorem ln_one : ln 1 = 1 := by decide
theorem ln_small {A : Nat} (h : A < 4294967296) : ln A ≤ 1 := ln_le (by rw [Nat.pow_one]; exact h)
theorem ln_small2 {A : Nat} (h : A < 18446744073709551616) : ln A ≤ 2 := ln_le (by rw [show (4294967296 : Nat) ^ 2 = 18446744073709551616 from rfl]; exact h)
def Iz (e : TypeId) (w : World) (base b : Nat) (z : Int) : Prop := ∃ ao k c, In e w base b (decide (z < 0)) ao k c z.natAbs
theorem Iz.stay {e : TypeId} {w w' : World} {base b : Nat} {z : Int} (h : Iz e w base b z) (hb : Below w.heap.size w w') : Iz e w' base b z := by
 obtain ⟨ao, k, c, h⟩ := h
 exact ⟨ao, k, c, h.stay hb⟩
theorem Iz.mono {e : TypeId} {w : World} {base base' b : Nat} {z : Int} (h : Iz e w base b z) (hb : base' ≤ base) : Iz e w base' b z := by
 obtain ⟨ao, k, c, h⟩ := h
 exact ⟨ao, k, c, h.mono hb⟩
theorem Iz.zc {e : TypeId} {w : World} {base b : Nat} {z : Int} (h : Iz e w base b z) : Zc w b := by
 obtain ⟨ao, k, c, h⟩ := h
 exact h.zc
theorem Iz.lt {e : TypeId} {w : World} {base b : Nat} {z : Int} (h : Iz e w base b z) : b < w.heap.size := h.zc.lt
theorem Iz.le {e : TypeId} {w : World} {base b : Nat} {z : Int} (h : Iz e w base b z) : base ≤ b := by
 obtain ⟨ao, k, c, h⟩ := h
 exact h.hb
theorem Iz.older {e : TypeId} {w w' : World} {base b p : Nat} {z : Int} (h : Iz e w base b z) (hg : w.grownBy w' (some p)) (hp : p < base) : Iz e w' base b z := by
 obtain ⟨ao, k, c, h⟩ := h
 exact ⟨ao, k, c, h.other hg (by have := h.hb; omega) (fr_ne h.fr hp)⟩
theorem In.len {e : TypeId} {w : World} {base b : Nat} {s : Bool} {ao : Option Addr} {k c N : Nat} (h : In e w base b s ao k c N) : k = ln N := h.fr.sl.len.symm
def StZ (e : TypeId) (b base : Nat) (z : Int) (w : World) (en : Ending) (w' : World) : Prop := StI e b base (decide (z < 0)) z.natAbs w en w'
def MkZ (e : TypeId) (z : Int) (w : World) (en : Ending) (w' : World) : Prop :=
 ∃ b, en = .returned (.pointer (some ⟨b, 0, none⟩)) ∧ Iz e w' w.heap.size b z ∧ Below w.heap.size w w'
theorem MkI.z {e : TypeId} {s : Bool} {N : Nat} {w w' : World} {en : Ending} (h : MkI e s N w en w') {z : Int} (hs : s = decide (z < 0)) (hN : N = z.natAbs) : MkZ e z w en w' := by
 obtain ⟨b, ao, k, c, he, hi, hb⟩ := h
 subst hs hN
 exact ⟨b, he, ⟨ao, k, c, hi⟩, hb⟩
theorem StZ.in_ {e : TypeId} {b base : Nat} {z : Int} {w w' : World} {en : Ending} (h : StZ e b base z w en w') (hz : Zc w b) (hb : base ≤ b) :
 en = .returned (.pointer (some ⟨b, 0, none⟩)) ∧ Iz e w' base b z ∧ w.grownBy w' (some b) := by
 obtain ⟨ao, k, c, he, hi, hg⟩ := StI.in_ h hz hb
 exact ⟨he, ⟨ao, k, c, hi⟩, hg⟩
theorem StZ.mk {e t : TypeId} {z : Int} {w w' : World} {u v : Value} {en : Ending} (h : StZ e w.heap.size w.heap.size z (w.alloc (.cells #[u, v] t)) en w') : MkZ e z w en w' :=
 MkI.z (StI.mk h) rfl rfl
theorem iz_new {e t : TypeId} (w : World) : Iz e (w.alloc (.cells #[.bool false, .slice none 0 0] t)) w.heap.size w.heap.size 0 :=
 ⟨none, 0, 0, by simp, by simp, by simp [go_sem], by simp [go_sem], fr_nil _ _ _, by simp [blkOf], Nat.le_refl _⟩
theorem nzB_nat (s : Bool) (z : Int) (h : s = decide (z < 0)) : nzB s z.natAbs = decide (z < 0) := by
 subst h
 unfold nzB
 by_cases h0 : z < 0
 · rw [decide_eq_true h0, decide_eq_true (by omega)]; rfl
 · rw [decide_eq_false h0]; rfl
def sgv (s : Bool) (N : Nat) : Int := if s = true then -(N : Int) else N
theorem sgv_of (z : Int) : sgv (decide (z < 0)) z.natAbs = z := by
 unfold sgv
 by_cases h : z < 0
 · rw [decide_eq_true h, if_pos rfl]; omega
 · rw [decide_eq_false h, if_neg (by decide)]; omega
theorem sgv_not (z : Int) : sgv (!decide (z < 0)) z.natAbs = -z := by
 unfold sgv
 by_cases h : z < 0
 · rw [decide_eq_true h, if_neg (by decide)]; omega
 · rw [decide_eq_false h, if_pos (by decide)]; omega
theorem sgv_abs (s : Bool) (N : Nat) : (sgv s N).natAbs = N ∧ decide (sgv s N < 0) = nzB s N := by
 unfold sgv nzB
 cases s
 · refine ⟨by simp, ?_⟩
   rw [if_neg (by decide), decide_eq_false (by omega)]; rfl
 · rw [if_pos rfl]
   refine ⟨by omega, ?_⟩
   by_cases h : N = 0
   · subst h; rfl
   · rw [decide_eq_true (by omega : -(N : Int) < 0), decide_eq_true h]; rfl
theorem sgv_add (s : Bool) (A B : Nat) : sgv s A + sgv s B = sgv s (A + B) := by
 unfold sgv
 cases s
 · simp
 · simp; omega
theorem sgv_sub {s t : Bool} (hst : s ≠ t) {A B : Nat} (h : B ≤ A) : sgv s A + sgv t B = sgv s (A - B) ∧ sgv t B + sgv s A = sgv s (A - B) := by
 cases s <;> cases t
 · exact absurd rfl hst
 · unfold sgv; simp; omega
 · unfold sgv; simp; omega
 · exact absurd rfl hst
theorem StZ_sgv {e : TypeId} {b base : Nat} {s : Bool} {N : Nat} {w : World} : StZ e b base (sgv s N) w = StI e b base (nzB s N) N w := by
 unfold StZ
 funext en w'
 rw [(sgv_abs s N).1, (sgv_abs s N).2]
theorem StI.undrew {e : TypeId} {b base : Nat} {s : Bool} {N : Nat} {w w' : World} {en : Ending} (h : StI e b base s N w.drew en w') : StI e b base s N w en w' := by
 obtain ⟨ao, k, c, w1, he, hb, hr⟩ := h
 exact ⟨ao, k, c, w1, he, Lb.undrew hb, hr⟩
theorem StZ.undrew {e : TypeId} {b base : Nat} {z : Int} {w w' : World} {en : Ending} (h : StZ e b base z w.drew en w') : StZ e b base z w en w' := StI.undrew h
theorem sgn_mul (x y : Int) : nzB (decide (x < 0) != decide (y < 0)) (x.natAbs * y.natAbs) = decide (x * y < 0) ∧ x.natAbs * y.natAbs = (x * y).natAbs := by
 refine ⟨?_, (Int.natAbs_mul x y).symm⟩
 unfold nzB
 by_cases hx : x < 0
 · by_cases hy : y < 0
   · have : 0 < x * y := Int.mul_pos_of_neg_of_neg hx hy
     rw [decide_eq_true hx, decide_eq_true hy, decide_eq_false (by omega : ¬ x * y < 0)]; rfl
   · by_cases hy0 : y = 0
     · subst hy0; simp
     · have : x * y < 0 := Int.mul_neg_of_neg_of_pos hx (by omega)
       have h0 : x.natAbs * y.natAbs ≠ 0 := Nat.mul_ne_zero (by omega) (by omega)
       rw [decide_eq_true hx, decide_eq_false hy, decide_eq_true this, decide_eq_true h0]; rfl
 · by_cases hy : y < 0
   · by_cases hx0 : x = 0
     · subst hx0; simp
     · have : x * y < 0 := Int.mul_neg_of_pos_of_neg (by omega) hy
       have h0 : x.natAbs * y.natAbs ≠ 0 := Nat.mul_ne_zero (by omega) (by omega)
       rw [decide_eq_false hx, decide_eq_true hy, decide_eq_true this, decide_eq_true h0]; rfl
   · have : 0 ≤ x * y := Int.mul_nonneg (by omega) (by omega)
     rw [decide_eq_false hx, decide_eq_false hy, decide_eq_false (by omega : ¬ x * y < 0)]; rfl
theorem sgn_quo (x y : Int) : nzB (decide (x < 0) != decide (y < 0)) (x.natAbs / y.natAbs) = decide (x.tdiv y < 0) ∧ x.natAbs / y.natAbs = (x.tdiv y).natAbs ∧ nzB (decide (x < 0)) (x.natAbs % y.natAbs) = decide (x.tmod y < 0) ∧ x.natAbs % y.natAbs = (x.tmod y).natAbs := by
 have hq : x.natAbs / y.natAbs = (x.tdiv y).natAbs := (Int.natAbs_tdiv x y).symm
 have hr : x.natAbs % y.natAbs = (x.tmod y).natAbs := (Int.natAbs_tmod x y).symm
 refine ⟨?_, hq, ?_, hr⟩
 · unfold nzB
   rw [hq]
   by_cases hx : x < 0
   · by_cases hy : y < 0
     · have := Int.tdiv_nonneg_of_nonpos_of_nonpos (a := x) (b := y) (by omega) (by omega)
       rw [decide_eq_true hx, decide_eq_true hy, decide_eq_false (by omega : ¬ x.tdiv y < 0)]; rfl
     · have := Int.tdiv_nonneg (a := -x) (b := y) (by omega) (by omega)
       rw [Int.neg_tdiv] at this
       rw [decide_eq_true hx, decide_eq_false hy]
       by_cases h0 : x.tdiv y = 0
       · rw [h0]; rfl
       · rw [decide_eq_true (by omega : x.tdiv y < 0), decide_eq_true (by omega : (x.tdiv y).natAbs ≠ 0)]; rfl
   · by_cases hy : y < 0
     · have := Int.tdiv_nonpos_of_nonneg_of_nonpos (a := x) (b := y) (by omega) (by omega)
       rw [decide_eq_false hx, decide_eq_true hy]
       by_cases h0 : x.tdiv y = 0
       · rw [h0]; rfl
       · rw [decide_eq_true (by omega : x.tdiv y < 0), decide_eq_true (by omega : (x.tdiv y).natAbs ≠ 0)]; rfl
     · have := Int.tdiv_nonneg (a := x) (b := y) (by omega) (by omega)
       rw [decide_eq_false hx, decide_eq_false hy, decide_eq_false (by omega : ¬ x.tdiv y < 0)]; rfl
 · unfold nzB
   rw [hr]
   by_cases hx : x < 0
   · have h1 : x.tmod y ≤ 0 := by
      have := Int.tmod_nonneg (a := -x) y (by omega)
      rw [Int.neg_tmod] at this
      omega
     rw [decide_eq_true hx]
     by_cases h0 : x.tmod y = 0
     · rw [h0]; rfl
     · rw [decide_eq_true (by omega : x.tmod y < 0), decide_eq_true (by omega : (x.tmod y).natAbs ≠ 0)]; rfl
   · have := Int.tmod_nonneg (a := x) y (by omega)
     rw [decide_eq_false hx, decide_eq_false (by omega : ¬ x.tmod y < 0)]; rfl
def Rq (e : TypeId) (w : World) (base b : Nat) (q : Rat) : Prop := Ra e w base b (decide (q.num < 0)) q.num.natAbs q.den
def StQ (e : TypeId) (b base : Nat) (q : Rat) (w : World) (en : Ending) (w' : World) : Prop :=
 en = .returned (.pointer (some ⟨b, 0, none⟩)) ∧ Rq e w' base b q ∧ w.grownBy w' (some b)
def MkQ (e : TypeId) (q : Rat) (w : World) (en : Ending) (w' : World) : Prop :=
 ∃ b, en = .returned (.pointer (some ⟨b, 0, none⟩)) ∧ Rq e w' w.heap.size b q ∧ Below w.heap.size w w'
theorem Rq.stay {e : TypeId} {w w' : World} {base b : Nat} {q : Rat} (h : Rq e w base b q) (hb : Below w.heap.size w w') : Rq e w' base b q := Ra.stay h hb
theorem Rq.mono {e : TypeId} {w : World} {base base' b : Nat} {q : Rat} (h : Rq e w base b q) (hb : base' ≤ base) : Rq e w base' b q := Ra.mono h hb
theorem Rq.res {e : TypeId} {w : World} {base b : Nat} {q : Rat} (h : Rq e w base b q) : Res3 w b := Ra.res h
theorem Rq.lt {e : TypeId} {w : World} {base b : Nat} {q : Rat} (h : Rq e w base b q) : b < w.heap.size := h.res.lt
theorem Rq.le {e : TypeId} {w : World} {base b : Nat} {q : Rat} (h : Rq e w base b q) : base ≤ b := by
 obtain ⟨⟨ao, k, c, hi⟩, _, _⟩ := h
 exact hi.hb
theorem mk_parts (z : Int) {D : Nat} (hD : D ≠ 0) : (mkRat z D).num.natAbs = z.natAbs / Nat.gcd z.natAbs D ∧ (mkRat z D).den = D / Nat.gcd z.natAbs D ∧ decide ((mkRat z D).num < 0) = decide (z < 0) := by
 have hg : 0 < Nat.gcd z.natAbs D := Nat.gcd_pos_of_pos_right _ (Nat.pos_of_ne_zero hD)
 have hn : (mkRat z D).num = z / ((Nat.gcd z.natAbs D : Nat) : Int) := by rw [Rat.num_mkRat, if_neg hD, Nat.gcd_comm]
 have hdv : ((Nat.gcd z.natAbs D : Nat) : Int) ∣ z := by rw [← Int.dvd_natAbs, Int.ofNat_dvd]; exact Nat.gcd_dvd_left _ _
 obtain ⟨r, hr⟩ := hdv
 refine ⟨?_, by rw [Rat.den_mkRat, if_neg hD, Nat.gcd_comm], ?_⟩
 · rw [hn, Int.natAbs_ediv_of_dvd ⟨r, hr⟩, Int.natAbs_natCast]
 · have hg' : (0 : Int) < ((Nat.gcd z.natAbs D : Nat) : Int) := by omega
   rw [hn]
   generalize ((Nat.gcd z.natAbs D : Nat) : Int) = g at *
   have e : z / g = r := by rw [hr]; exact Int.mul_ediv_cancel_left _ (by omega)
   rw [e]
   refine decide_eq_decide.2 ⟨fun h => ?_, fun h => ?_⟩
   · rw [hr]; exact Int.mul_neg_of_pos_of_neg hg' h
   · rcases Int.lt_or_le r 0 with h1 | h1
     · exact h1
     · have := Int.mul_nonneg (Int.le_of_lt hg') h1
       omega
def QrZ (e : TypeId) (b br : Nat) (q r : Int) (w : World) (en : Ending) (w' : World) : Prop :=
 ∃ aq kq cq ar kr cr w1, en = .returned (.tuple #[.pointer (some ⟨b, 0, none⟩), .pointer (some ⟨br, 0, none⟩)]) ∧ Below w.heap.size w w1 ∧ Fr e w1 w.heap.size aq kq cq (limbs q.natAbs) ∧ Fr e w1 w.heap.size ar kr cr (limbs r.natAbs) ∧ w' = setIn (setIn w1 br (decide (r < 0)) (.slice ar kr cr)) b (decide (q < 0)) (.slice aq kq cq)
theorem Zc.setOther {w : World} {b p : Nat} (h : Zc w b) (hne : b ≠ p) (s : Bool) (v : Value) : Zc (Lb.setIn w p s v) b :=
 Zc.of ((setIn_other hne s v).trans h.c0) ((setIn_other hne s v).trans h.c1) ((setIn_z ..).trans h.z0) ((setIn_z ..).trans h.z1)
theorem QrZ.in_ {e : TypeId} {b br base : Nat} {q r : Int} {w w' : World} {en : Ending} (h : QrZ e b br q r w en w') (hz : Zc w b) (hr : Zc w br) (ne : br ≠ b) (h0 : base ≤ w.heap.size) (h1 : base ≤ b) (h2 : base ≤ br) :
 en = .returned (.tuple #[.pointer (some ⟨b, 0, none⟩), .pointer (some ⟨br, 0, none⟩)]) ∧ Iz e w' base b q ∧ Iz e w' base br r := by
 obtain ⟨aq, kq, cq, ar, kr, cr, w1, he, hb, fq, fr, rfl⟩ := h
 have ir := setIn_in (hr.stay hb) (decide (r < 0)) (fr.mono h0) (fr_ne fr hr.lt) h2
 have fq1 := fr_grown fq (setIn_grown w1 br (decide (r < 0)) (.slice ar kr cr)) hr.lt
 have iq := setIn_in ((hz.stay hb).setOther (Ne.symm ne) (decide (r < 0)) (.slice ar kr cr)) (decide (q < 0)) (fq1.mono h0) (fr_ne fq hz.lt) h1
 exact ⟨he, ⟨aq, kq, cq, iq⟩, ⟨ar, kr, cr, ir.other (setIn_grown _ b _ _) ne (fr_ne fr hz.lt)⟩⟩
theorem QrZ.below {e : TypeId} {b br B : Nat} {q r : Int} {w0 w w' : World} {en : Ending} (h : QrZ e b br q r w en w') (hb0 : Below B w0 w) (hB : B ≤ w.heap.size) (h1 : B ≤ b) (h2 : B ≤ br) : Below B w0 w' := by
 obtain ⟨aq, kq, cq, ar, kr, cr, w1, he, hb, fq, fr, rfl⟩ := h
 have H1 : Below B w0 w1 := hb0.trans (hb.mono hB)
 have H2 := H1.grown (setIn_grown w1 br (decide (r < 0)) (.slice ar kr cr)) (Nat.le_trans hB hb.size) (fun k hk => by cases hk; exact h2)
 exact H2.grown (setIn_grown _ b (decide (q < 0)) (.slice aq kq cq)) (Nat.le_trans hB (Nat.le_trans hb.size (setIn_grown w1 br _ _).size)) (fun k hk => by cases hk; exact h1)
theorem StZ.below {e : TypeId} {b base B : Nat} {z : Int} {w0 w w' : World} {en : Ending} (h : StZ e b base z w en w') (hb0 : Below B w0 w) (hB : B ≤ w.heap.size) (h1 : B ≤ b) : Below B w0 w' := by
 obtain ⟨ao, k, c, w1, he, hb, hf, hne, rfl⟩ := h
 exact (hb0.trans (hb.mono hB)).grown (setIn_grown w1 b _ _) (Nat.le_trans hB hb.size) (fun k hk => by cases hk; exact h1)
theorem sgn_shl (x : Int) (k : Nat) : nzB (decide (x < 0)) (x.natAbs * 2 ^ k) = decide (x * 2 ^ k < 0) ∧ x.natAbs * 2 ^ k = (x * 2 ^ k).natAbs := by
 have h := sgn_mul x ((2 ^ k : Nat) : Int)
 have hp := Nat.two_pow_pos k
 rw [decide_eq_false (by omega : ¬ ((2 ^ k : Nat) : Int) < 0), Int.natAbs_natCast] at h
 have e : ((2 ^ k : Nat) : Int) = (2 : Int) ^ k := by simp
 rw [e] at h
 simpa using h
theorem nonneg_dec {x : Int} (h : 0 ≤ x) : decide (x < 0) = false := decide_eq_false (by omega)
theorem QrZ.pre {e : TypeId} {b br : Nat} {q r : Int} {w w1 w' : World} {en : Ending} (h : QrZ e b br q r w1 en w') (hb : Below w.heap.size w w1) : QrZ e b br q r w en w' := by
 obtain ⟨aq, kq, cq, ar, kr, cr, w2, he, hb2, fq, fr, hw⟩ := h
 exact ⟨aq, kq, cq, ar, kr, cr, w2, he, next hb hb2, fq.mono hb.size, fr.mono hb.size, hw⟩
theorem iz_nat {e : TypeId} {w : World} {base b x : Nat} (h : Iz e w base b (x : Int)) : ∃ ao k c, In e w base b false ao k c x := by
 obtain ⟨ao, k, c, h⟩ := h
 rw [nonneg_dec (by omega), Int.natAbs_natCast] at h
 exact ⟨ao, k, c, h⟩
theorem nzB_neg (x : Int) : nzB (!decide (x < 0)) x.natAbs = decide (-x < 0) ∧ x.natAbs = (-x).natAbs := by
 refine ⟨?_, (Int.natAbs_neg x).symm⟩
 unfold nzB
 by_cases h : x < 0
 · rw [decide_eq_true h, decide_eq_false (by omega : ¬ -x < 0)]; rfl
 · rw [decide_eq_false h]
   by_cases h0 : x = 0
   · subst h0; rfl
   · rw [decide_eq_true (by omega : x.natAbs ≠ 0), decide_eq_true (by omega : -x < 0)]; rfl
theorem sgnI_z (x : Int) : sgnI (decide (x < 0)) x.natAbs = x.sign := by
 unfold sgnI
 rcases Int.lt_trichotomy x 0 with h | h | h
 · rw [if_neg (by omega), decide_eq_true h, if_pos rfl, Int.sign_eq_neg_one_of_neg h]
 · subst h; rfl
 · rw [if_neg (by omega), decide_eq_false (by omega), if_neg (by decide), Int.sign_eq_one_of_pos h]
theorem StZ.en {e : TypeId} {b base : Nat} {z : Int} {w w' : World} {en : Ending} (h : StZ e b base z w en w') : en = .returned (.pointer (some ⟨b, 0, none⟩)) := by
 obtain ⟨ao, k, c, w1, he, _⟩ := h
 exact he
theorem StZ.grown {e : TypeId} {b base : Nat} {z : Int} {w w' : World} {en : Ending} (h : StZ e b base z w en w') : w.grownBy w' (some b) := by
 obtain ⟨ao, k, c, w1, he, hb, hf, hne, rfl⟩ := h
 exact grown_trans (grown_below hb _) (setIn_grown _ _ _ _)
theorem StZ.pre {e : TypeId} {b base : Nat} {z : Int} {w w1 w' : World} {en : Ending} (h : StZ e b base z w1 en w') (hb : Below w.heap.size w w1) : StZ e b base z w en w' := by
 obtain ⟨ao, k, c, w5, he, hb5, hr⟩ := h
 exact ⟨ao, k, c, w5, he, next hb hb5, hr⟩
theorem pow_sq (x q : Nat) : ((x ^ q : Nat) : Int) * ((x ^ q : Nat) : Int) = ((x ^ (2 * q) : Nat) : Int) := by
 rw [← Int.natCast_mul, ← Nat.pow_add, show q + q = 2 * q by omega]
theorem pow_one_more (x q : Nat) : ((x ^ q : Nat) : Int) * (x : Int) = ((x ^ (q + 1) : Nat) : Int) := by
 rw [← Int.natCast_mul, ← Nat.pow_succ]
theorem half_step (y t : Nat) : y / 2 ^ t = 2 * (y / 2 ^ (t + 1)) + y / 2 ^ t % 2 := by
 have e : y / 2 ^ (t + 1) = y / 2 ^ t / 2 := by rw [Nat.pow_succ, Nat.div_div_eq_div_mul]
 omega
def addZ (x y : Rat) : Int := x.num * ((y.den / Nat.gcd x.den y.den : Nat) : Int) + y.num * ((x.den / Nat.gcd x.den y.den : Nat) : Int)
theorem added_parts (x y : Rat) : (x + y).num.natAbs = (addZ x y).natAbs / Nat.gcd (addZ x y).natAbs (Nat.gcd x.den y.den) ∧ (x + y).den = x.den / Nat.gcd x.den y.den * (y.den / Nat.gcd (addZ x y).natAbs (Nat.gcd x.den y.den)) ∧ decide ((x + y).num < 0) = decide (addZ x y < 0) := by
 have hg : 0 < Nat.gcd x.den y.den := Nat.gcd_pos_of_pos_left _ x.den_pos
 have hE : x.den / Nat.gcd x.den y.den * y.den ≠ 0 := Nat.ne_of_gt (Nat.mul_pos (Nat.div_gcd_pos_of_pos_left _ x.den_pos) y.den_pos)
 have haux := Rat.add.aux x y (g := Nat.gcd x.den y.den) rfl rfl rfl
 have e : x + y = mkRat (addZ x y) (x.den / Nat.gcd x.den y.den * y.den) := by
  rw [Rat.add_def', ← Rat.mkRat_mul_right (n := addZ x y) (d := x.den / Nat.gcd x.den y.den * y.den) (a := Nat.gcd x.den y.den) (by omega)]
  have e1 : x.den / Nat.gcd x.den y.den * y.den * Nat.gcd x.den y.den = x.den * y.den := by
   rw [Nat.mul_right_comm, Nat.div_mul_cancel (Nat.gcd_dvd_left _ _)]
  rw [e1]
  congr 1
  unfold addZ
  rw [Int.add_mul, Int.mul_assoc, Int.mul_assoc, ← Int.natCast_mul, ← Int.natCast_mul, Nat.div_mul_cancel (Nat.gcd_dvd_right _ _), Nat.div_mul_cancel (Nat.gcd_dvd_left _ _)]
 obtain ⟨h1, h2, h3⟩ := mk_parts (addZ x y) hE
 rw [← e] at h1 h2 h3
 have haux' : (addZ x y).natAbs.gcd (Nat.gcd x.den y.den) = (addZ x y).natAbs.gcd (x.den / Nat.gcd x.den y.den * y.den) := haux
 rw [← haux'] at h1 h2
 refine ⟨h1, ?_, h3⟩
 rw [h2, Nat.mul_div_assoc]
 exact Nat.dvd_trans (Nat.gcd_dvd_right _ _) (Nat.gcd_dvd_right _ _)
theorem addZ_zero {x y : Rat} (h : addZ x y = 0) : x + y = 0 := by
 obtain ⟨h1, _, _⟩ := added_parts x y
 rw [h] at h1
 simpa using h1
theorem neg_sub_z (x y : Rat) : x - y = x + -y := Rat.sub_eq_add_neg x y
theorem sgv_times (s : Bool) (A B : Nat) : sgv s A * (B : Int) = sgv s (A * B) := by
 unfold sgv
 split
 · rw [Int.neg_mul, Int.natCast_mul]
 · rw [Int.natCast_mul]
theorem In.sign {e : TypeId} {w : World} {base b : Nat} {s : Bool} {ao : Option Addr} {k c N : Nat} (h : In e w base b s ao k c N) (s' : Bool) : In e (w.setCell ⟨b, 0, none⟩ (.bool s')) base b s' ao k c N := by
 refine ⟨World.cell?_setCell_same _ _ _ h.c0, ?_, by simp [h.z0], by simp [h.z1], ?_, h.ne, h.hb⟩
 · rw [World.cell?_setCell_other _ _ _ _ (by simp)]; exact h.c1
 · exact fr_at h.fr (by simp) (fun g hgb hgl => (grown_set w b 0 _).block g hgl (fun e => h.ne (by rw [hgb, e])))
theorem Ra.sign {e : TypeId} {w : World} {base b : Nat} {s : Bool} {N D : Nat} (h : Ra e w base b s N D) (s' : Bool) : Ra e (w.setCell ⟨b, 0, none⟩ (.bool s')) base b s' N D := by
 obtain ⟨⟨ao, k, c, hi⟩, ⟨ad, kd, cd, ds, h2, hf, hd, hn⟩, hz⟩ := h
 refine ⟨⟨ao, k, c, hi.sign s'⟩, ⟨ad, kd, cd, ds, ?_, ?_, hd, hn⟩, by simp [hz]⟩
 · rw [World.cell?_setCell_other _ _ _ _ (by simp)]; exact h2
 · exact fr_at hf (by simp) (fun g hgb hgl => (grown_set w b 0 _).block g hgl (fun e => hn (by rw [hgb, e])))
theorem StQ.undrew {e : TypeId} {b base : Nat} {q : Rat} {w w' : World} {en : Ending} (h : StQ e b base q w.drew en w') : StQ e b base q w en w' :=
 ⟨h.1, h.2.1, grown_trans (grown_below (Below.refl _ _).drew _) h.2.2⟩
theorem StQ.pre {e : TypeId} {b base : Nat} {q : Rat} {w w1 w' : World} {en : Ending} (h : StQ e b base q w1 en w') (hb : Below w.heap.size w w1) : StQ e b base q w en w' :=
 ⟨h.1, h.2.1, grown_trans (grown_below hb _) h.2.2⟩
theorem res_new (w : World) (t : TypeId) (u v x : Value) : Res3 (w.alloc (.cells #[u, v, x] t)) w.heap.size := Res3.ofs (x := u) (y := v) (z := x) (by simp) (by simp) (by simp) (by simp [go_sem]) (by simp [go_sem]) (by simp [go_sem])
theorem StQ.mk {e t : TypeId} {q : Rat} {w w' : World} {u v x : Value} {en : Ending} (h : StQ e w.heap.size w.heap.size q (w.alloc (.cells #[u, v, x] t)) en w') : MkQ e q w en w' := by
 obtain ⟨he, hq, hg⟩ := h
 have h1 := (Below.refl w.heap.size w).alloc (Nat.le_refl _) (.cells #[u, v, x] t)
 exact ⟨_, he, hq, h1.grown hg (by simp) (by simp)⟩
def Hd (e : TypeId) (w : World) (b : Nat) : Prop := ∀ cur, w.heap[b]? ≠ some (.cells cur e (0, 0))
theorem Hd.stay {e : TypeId} {w w' : World} {b : Nat} (h : Hd e w b) (hb : b < w.heap.size) (k : Below w.heap.size w w') : Hd e w' b := fun cur => by rw [k.block b hb]; exact h cur
theorem hd_new {e t : TypeId} (w : World) (cs : Array Value) (h : t ≠ e) : Hd e (w.alloc (.cells cs t)) w.heap.size := fun cur => by
 rw [heap_alloc_new]
 intro h2
 injection h2 with h2
 injection h2 with _ h3 _
 exact h h3
theorem fr_hd {e : TypeId} {w : World} {base b : Nat} {ao : Option Addr} {n c : Nat} {xs : List Nat} (hf : Fr e w base ao n c xs) (h : Hd e w b) : blkOf ao ≠ some b := by
 rcases hf.blk with ⟨rfl, _⟩ | ⟨g, cur, rfl, _, hh, _⟩
 · intro h2; cases h2
 · intro h2
   have : g = b := Option.some.inj h2
   subst this
   exact h cur hh
def cmpQ (x y : Rat) : Int := if x < y then -1 else if y < x then 1 else 0
theorem cmpQ_cross (x y : Rat) : cmpQ x y = if x.num * y.den < y.num * x.den then -1 else if y.num * x.den < x.num * y.den then 1 else 0 := by
 unfold cmpQ
 simp only [Rat.lt_iff]
theorem cmpQ_signs {x y : Rat} (h : x.num.sign ≠ y.num.sign ∨ x.num.sign = 0) : cmpQ x y = if x.num.sign < y.num.sign then -1 else if x.num.sign > y.num.sign then 1 else 0 := by
 rw [cmpQ_cross]
 have hx : (0 : Int) < x.den := by have := x.den_pos; omega
 have hy : (0 : Int) < y.den := by have := y.den_pos; omega
 generalize (x.den : Int) = X at *
 generalize (y.den : Int) = Y at *
 generalize x.num = a at *
 generalize y.num = c at *
 have key : (a * Y < 0 ↔ a < 0) ∧ (0 < a * Y ↔ 0 < a) ∧ (c * X < 0 ↔ c < 0) ∧ (0 < c * X ↔ 0 < c) := by
  refine ⟨⟨fun h => ?_, fun h => Int.mul_neg_of_neg_of_pos h hy⟩, ⟨fun h => ?_, fun h => Int.mul_pos h hy⟩, ⟨fun h => ?_, fun h => Int.mul_neg_of_neg_of_pos h hx⟩, ⟨fun h => ?_, fun h => Int.mul_pos h hx⟩⟩
  · rcases Int.lt_or_le a 0 with h1 | h1
    · exact h1
    · have := Int.mul_nonneg h1 (Int.le_of_lt hy); omega
  · rcases Int.lt_or_le 0 a with h1 | h1
    · exact h1
    · have := Int.mul_nonpos_of_nonpos_of_nonneg h1 (Int.le_of_lt hy); omega
  · rcases Int.lt_or_le c 0 with h1 | h1
    · exact h1
    · have := Int.mul_nonneg h1 (Int.le_of_lt hx); omega
  · rcases Int.lt_or_le 0 c with h1 | h1
    · exact h1
    · have := Int.mul_nonpos_of_nonpos_of_nonneg h1 (Int.le_of_lt hx); omega
 obtain ⟨k1, k2, k3, k4⟩ := key
 generalize a * Y = P at *
 generalize c * X = Q at *
 have sg : ∀ z : Int, (z < 0 ∧ z.sign = -1) ∨ (z = 0 ∧ z.sign = 0) ∨ (0 < z ∧ z.sign = 1) := fun z => by
  rcases Int.lt_trichotomy z 0 with h1 | h1 | h1
  · exact .inl ⟨h1, Int.sign_eq_neg_one_of_neg h1⟩
  · subst h1; exact .inr (.inl ⟨rfl, rfl⟩)
  · exact .inr (.inr ⟨h1, Int.sign_eq_one_of_pos h1⟩)
 have s1 := sg a
 have s2 := sg c
 clear sg
 generalize a.sign = u at *
 generalize c.sign = v at *
 rcases s1 with ⟨h1, rfl⟩ | ⟨h1, rfl⟩ | ⟨h1, rfl⟩ <;> rcases s2 with ⟨h2, rfl⟩ | ⟨h2, rfl⟩ | ⟨h2, rfl⟩
 all_goals (repeat' split) <;> first | rfl | omega
theorem cmpQ_sizes {x y : Rat} (hx : x.num ≠ 0) (hs : x.num.sign = y.num.sign) : cmpQ x y = if x.num < 0 then -cmpN (x.num.natAbs * y.den) (y.num.natAbs * x.den) else cmpN (x.num.natAbs * y.den) (y.num.natAbs * x.den) := by
 rw [cmpQ_cross]
 have sg : ∀ z : Int, (z < 0 ∧ z.sign = -1) ∨ (z = 0 ∧ z.sign = 0) ∨ (0 < z ∧ z.sign = 1) := fun z => by
  rcases Int.lt_trichotomy z 0 with h1 | h1 | h1
  · exact .inl ⟨h1, Int.sign_eq_neg_one_of_neg h1⟩
  · subst h1; exact .inr (.inl ⟨rfl, rfl⟩)
  · exact .inr (.inr ⟨h1, Int.sign_eq_one_of_pos h1⟩)
 have s1 := sg x.num
 have s2 := sg y.num
 clear sg
 generalize x.num = a at *
 generalize y.num = c at *
 generalize x.den = X at *
 generalize y.den = Y at *
 unfold cmpN
 by_cases hn : a < 0
 · have hc : c < 0 := by omega
   rw [if_pos hn]
   have e1 : a * (Y : Int) = -((a.natAbs * Y : Nat) : Int) := by
    rw [Int.natCast_mul, ← Int.neg_mul, show -((a.natAbs : Nat) : Int) = a by omega]
   have e2 : c * (X : Int) = -((c.natAbs * X : Nat) : Int) := by
    rw [Int.natCast_mul, ← Int.neg_mul, show -((c.natAbs : Nat) : Int) = c by omega]
   rw [e1, e2]
   generalize a.natAbs * Y = P
   generalize c.natAbs * X = Q
   (repeat' split) <;> omega
 · have hc : 0 < c := by omega
   rw [if_neg hn]
   have e1 : a * (Y : Int) = ((a.natAbs * Y : Nat) : Int) := by
    rw [Int.natCast_mul, show ((a.natAbs : Nat) : Int) = a by omega]
   have e2 : c * (X : Int) = ((c.natAbs * X : Nat) : Int) := by
    rw [Int.natCast_mul, show ((c.natAbs : Nat) : Int) = c by omega]
   rw [e1, e2]
   generalize a.natAbs * Y = P
   generalize c.natAbs * X = Q
   (repeat' split) <;> omega
end Go.Lb
