/-
  Plain: how two lists of limbs compare. Plain: lists of limbs times a power of two below 2^32: the digits (upD), what is carried (upC). Plain: rows of digits: sums, differences, products by hand. The walk of nat.shifted: a list times a power of two below 2^32, in a row of its own. The walk of nat.Up: a number times a power of two, in a block of its own. The walks of nat.cmp and of the reference's cmp. The walks of math/bits.Add32 and Sub32, nat.checks (of two) and nat.fits.
-/

import Derived.Test.YtgdhleiokfaeoaaGreatDoorQBase
import Derived.Test.YtgdhleiokfaeoaaGreatDoorQMakes
import Derived.Test.YtgdhleiokfaeoaaGreatDoorQBoxes
import Derived.Test.YtgdhleiokfaeoaaGreatDoorQBooks
import Derived.Deep.OwnRows
import Derived.Deep.RegionLaw
import Derived.Lib.ItoaNum
namespace Go.Lb

/-- -1, 0, 1. -/
def cmpN (m n : Nat) : Int := if m < n then -1 else if n < m then 1 else 0

theorem cmpN_lt {m n : Nat} (h : m < n) : cmpN m n = -1 := by unfold cmpN; rw [if_pos h]

theorem cmpN_gt {m n : Nat} (h : n < m) : cmpN m n = 1 := by unfold cmpN; rw [if_neg (by omega), if_pos h]

theorem cmpN_eq {m n : Nat} (h : m = n) : cmpN m n = 0 := by unfold cmpN; rw [if_neg (by omega), if_neg (by omega)]

/-- The longer one is the greater one. -/
theorem cmp_len {xs ys : List Nat} (hx : Ok xs) (hy : Fine ys) (h : xs.length < ys.length) : val xs < val ys := by
  apply Nat.lt_of_not_le
  intro hle
  have h1 := val_lt hx
  have h2 : (limbs (val ys)).length ≤ xs.length := limbs_length_le (by omega)
  rw [limbs_val hy] at h2
  omega

theorem ext_nth {xs ys : List Nat} (hl : xs.length = ys.length) (h : ∀ j, j < xs.length → nth xs j = nth ys j) : xs = ys := by
  refine List.ext_getElem hl fun j h1 h2 => ?_
  have := h j h1
  unfold nth at this
  rw [List.getD_eq_getElem?_getD, List.getD_eq_getElem?_getD, List.getElem?_eq_getElem h1, List.getElem?_eq_getElem h2] at this
  exact this

/-- The highest limb in which they differ says it. -/
theorem cmp_at {xs ys : List Nat} (hx : Ok xs) (hl : xs.length = ys.length) {k : Nat} (hk : k < xs.length) (ha : ∀ j, k < j → j < xs.length → nth xs j = nth ys j) (h : nth xs k < nth ys k) : val xs < val ys := by
  have s1 := val_split xs k (by omega)
  have s2 := val_split ys k (by omega)
  have t1 := val_lt (ok_take hx k)
  rw [List.length_take, Nat.min_eq_left (by omega)] at t1
  have c : ∀ (zs : List Nat), k < zs.length → val (zs.drop k) = nth zs k + 4294967296 * val (zs.drop (k + 1)) := fun zs hz => by
    rw [List.drop_eq_getElem_cons hz, val]
    unfold nth
    rw [List.getD_eq_getElem?_getD, List.getElem?_eq_getElem hz]
    rfl
  have e : xs.drop (k + 1) = ys.drop (k + 1) := by
    refine ext_nth (by simp [hl]) fun j hj => ?_
    rw [nth_drop, nth_drop]
    exact ha _ (by omega) (by simp at hj; omega)
  rw [c xs hk, e] at s1
  rw [c ys (by omega)] at s2
  rw [s1, s2]
  have : nth xs k + 4294967296 * val (ys.drop (k + 1)) + 1 ≤ nth ys k + 4294967296 * val (ys.drop (k + 1)) := by omega
  have hm := Nat.mul_le_mul_left (4294967296 ^ k) this
  rw [Nat.mul_add, Nat.mul_one] at hm
  omega

end Go.Lb

namespace Go.Lb

def upC (s c : Nat) : List Nat → Nat
  | [] => c
  | x :: t => upC s ((x * 2 ^ s + c) / 4294967296) t

def upD (s c : Nat) : List Nat → List Nat
  | [] => []
  | x :: t => (x * 2 ^ s + c) % 4294967296 :: upD s ((x * 2 ^ s + c) / 4294967296) t

theorem upD_length (s c : Nat) (xs : List Nat) : (upD s c xs).length = xs.length := by
  induction xs generalizing c with
  | nil => rfl
  | cons x t ih => simp [upD, ih]

theorem ok_upD (s c : Nat) (xs : List Nat) : Ok (upD s c xs) := by
  induction xs generalizing c with
  | nil => exact ok_nil
  | cons x t ih => exact ok_cons (by omega) (ih _)

theorem upD_snoc (s c : Nat) (xs : List Nat) (x : Nat) : upD s c (xs ++ [x]) = upD s c xs ++ [(x * 2 ^ s + upC s c xs) % 4294967296] := by
  induction xs generalizing c with
  | nil => rfl
  | cons y t ih => simp only [List.cons_append, upD, upC, ih]

theorem upC_snoc (s c : Nat) (xs : List Nat) (x : Nat) : upC s c (xs ++ [x]) = (x * 2 ^ s + upC s c xs) / 4294967296 := by
  induction xs generalizing c with
  | nil => rfl
  | cons y t ih => simp only [List.cons_append, upC, ih]

theorem carry_lt {x c s : Nat} (hx : x < 4294967296) (hc : c < 2 ^ s) : (x * 2 ^ s + c) / 4294967296 < 2 ^ s := by
  refine Nat.div_lt_of_lt_mul ?_
  have h1 : (x + 1) * 2 ^ s ≤ 4294967296 * 2 ^ s := Nat.mul_le_mul_right _ (by omega)
  rw [Nat.add_mul, Nat.one_mul] at h1
  omega

theorem upC_lt {s c : Nat} {xs : List Nat} (h : Ok xs) (hc : c < 2 ^ s) : upC s c xs < 2 ^ s := by
  induction xs generalizing c with
  | nil => exact hc
  | cons x t ih => exact ih (fun y hy => h y (List.mem_cons_of_mem _ hy)) (carry_lt (h x (by simp)) hc)

theorem val_upD (s c : Nat) (xs : List Nat) : val (upD s c xs) + 4294967296 ^ xs.length * upC s c xs = val xs * 2 ^ s + c := by
  induction xs generalizing c with
  | nil => simp [upD, upC, val]
  | cons x t ih =>
    have h := ih ((x * 2 ^ s + c) / 4294967296)
    have hm := Nat.div_add_mod (x * 2 ^ s + c) 4294967296
    simp only [upD, upC, val, List.length_cons, Nat.pow_succ]
    have e1 : 4294967296 ^ t.length * 4294967296 * upC s ((x * 2 ^ s + c) / 4294967296) t = 4294967296 * (4294967296 ^ t.length * upC s ((x * 2 ^ s + c) / 4294967296) t) := by
      rw [Nat.mul_comm (4294967296 ^ t.length) 4294967296, Nat.mul_assoc]
    have e2 : (x + 4294967296 * val t) * 2 ^ s = x * 2 ^ s + 4294967296 * (val t * 2 ^ s) := by rw [Nat.add_mul, Nat.mul_assoc]
    rw [e1, e2]
    omega

/-- The whole of it. -/
def upL (s : Nat) (xs : List Nat) : List Nat := upD s 0 xs ++ [upC s 0 xs]

theorem ok_upL {s : Nat} (hs : s < 32) {xs : List Nat} (h : Ok xs) : Ok (upL s xs) := by
  refine ok_append (ok_upD _ _ _) (ok_cons ?_ ok_nil)
  have h1 := upC_lt (s := s) (c := 0) h (Nat.two_pow_pos s)
  have h2 : 2 ^ s ≤ 2 ^ 32 := Nat.pow_le_pow_right (by decide) (by omega)
  omega

theorem val_upL (s : Nat) (xs : List Nat) : val (upL s xs) = val xs * 2 ^ s := by
  unfold upL
  rw [val_append, upD_length]
  have := val_upD s 0 xs
  simp only [val, Nat.mul_zero, Nat.add_zero] at this ⊢
  exact this

theorem val_zeros_app (q : Nat) (xs : List Nat) : val (List.replicate q 0 ++ xs) = 2 ^ (32 * q) * val xs := by
  rw [val_append, val_replicate, List.length_replicate, Nat.zero_add, pow32]

/-- What stands in the row when i limbs are done. -/
def upAt (s n i : Nat) (xs : List Nat) : List Nat := upD s 0 (xs.take i) ++ upC s 0 (xs.take i) :: List.replicate (n - i) 0

theorem upAt_zero (s n : Nat) (xs : List Nat) : upAt s n 0 xs = List.replicate (n + 1) 0 := by
  unfold upAt
  simp [upD, upC, List.replicate_succ]

theorem upAt_full {s n : Nat} {xs : List Nat} (h : xs.length = n) : upAt s n n xs = upL s xs := by
  unfold upAt upL
  rw [List.take_of_length_le (by omega), Nat.sub_self]
  rfl

theorem take_snoc {xs : List Nat} {i : Nat} (h : i < xs.length) : xs.take (i + 1) = xs.take i ++ [nth xs i] := take_succ_getD h

theorem nth_upAt {s n i : Nat} {xs : List Nat} (h : i ≤ xs.length) : nth (upAt s n i xs) i = upC s 0 (xs.take i) := by
  unfold upAt nth
  rw [List.getD_eq_getElem?_getD, List.getElem?_append_right (by rw [upD_length, List.length_take]; omega), upD_length, List.length_take, Nat.min_eq_left h, Nat.sub_self]
  rfl

theorem upAt_step {s n i : Nat} {xs : List Nat} (hi : i < n) (h : xs.length = n) :
    ((lvs (upAt s n i xs)).set i (lv ((nth xs i * 2 ^ s + upC s 0 (xs.take i)) % 4294967296))).set (i + 1) (lv ((nth xs i * 2 ^ s + upC s 0 (xs.take i)) / 4294967296)) = lvs (upAt s n (i + 1) xs) := by
  have hl : (upD s 0 (xs.take i)).length = i := by rw [upD_length, List.length_take]; omega
  unfold upAt lvs
  rw [take_snoc (by omega), upD_snoc, upC_snoc]
  obtain ⟨m, hm⟩ : ∃ m, n - i = m + 1 := ⟨n - i - 1, by omega⟩
  rw [hm, show n - (i + 1) = m by omega, List.replicate_succ, List.map_append, List.set_append_right _ _ (by simp [hl]), List.set_append_right _ _ (by simp [hl])]
  simp [hl]

/-- A shifted limb and what was carried have no bit in common. -/
theorem or_carry {x c s : Nat} (hs : s < 32) (hc : c < 2 ^ s) : c ||| (x * 2 ^ s % 4294967296) = (x * 2 ^ s + c) % 4294967296 ∧ x * 2 ^ s / 4294967296 = (x * 2 ^ s + c) / 4294967296 := by
  obtain ⟨D, hD⟩ : ∃ D, (4294967296 : Nat) = D * 2 ^ s := ⟨2 ^ (32 - s), by rw [← Nat.pow_add]; rw [show 32 - s + s = 32 by omega]⟩
  have hp : 0 < 2 ^ s := Nat.two_pow_pos s
  have e1 : x * 2 ^ s % 4294967296 = x % D * 2 ^ s := by rw [hD, Nat.mul_mod_mul_right]
  have hDp : 0 < D := by
    rcases Nat.eq_zero_or_pos D with h | h
    · rw [h] at hD; simp at hD
    · exact h
  have hlt : x % D < D := Nat.mod_lt _ hDp
  have h1 : (x % D + 1) * 2 ^ s ≤ D * 2 ^ s := Nat.mul_le_mul_right _ (by omega)
  rw [Nat.add_mul, Nat.one_mul, ← hD] at h1
  have hsum : x * 2 ^ s % 4294967296 + c < 4294967296 := by rw [e1]; omega
  constructor
  · rw [Nat.or_comm, e1]
    have := Nat.two_pow_add_eq_or_of_lt (i := s) (b := c) hc (x % D)
    rw [Nat.mul_comm] at this
    rw [← this]
    rw [Nat.add_mod, e1, Nat.mod_eq_of_lt (show c < 4294967296 by omega)]
    rw [e1] at hsum
    rw [Nat.mod_eq_of_lt hsum]
  · have := Nat.div_add_mod (x * 2 ^ s) 4294967296
    omega

end Go.Lb

namespace Go.Lb

theorem val_set {zs : List Nat} {p : Nat} (h : p < zs.length) (d : Nat) : val (zs.set p d) + 4294967296 ^ p * nth zs p = val zs + 4294967296 ^ p * d := by
  induction zs generalizing p with
  | nil => exact absurd h (by simp)
  | cons z t ih =>
    cases p with
    | zero =>
      simp only [List.set_cons_zero, val, nth, List.getD_cons_zero, Nat.pow_zero, Nat.one_mul]
      omega
    | succ p =>
      have := ih (p := p) (by simpa using h)
      have e : nth (z :: t) (p + 1) = nth t p := rfl
      simp only [List.set_cons_succ, val, e, Nat.pow_succ]
      rw [Nat.mul_comm (4294967296 ^ p) 4294967296, Nat.mul_assoc, Nat.mul_assoc]
      omega

theorem val_snoc (zs : List Nat) (d : Nat) : val (zs ++ [d]) = val zs + 4294967296 ^ zs.length * d := by
  rw [val_append]
  simp [val]

theorem take_over {xs : List Nat} {i : Nat} (h : xs.length ≤ i) : val (xs.take (i + 1)) = val (xs.take i) + 4294967296 ^ i * nth xs i := by
  rw [List.take_of_length_le (by omega), List.take_of_length_le h]
  have : nth xs i = 0 := by
    unfold nth
    rw [List.getD_eq_getElem?_getD, List.getElem?_eq_none h]
    rfl
  rw [this]
  rfl

theorem val_take_next (xs : List Nat) (i : Nat) : val (xs.take (i + 1)) = val (xs.take i) + 4294967296 ^ i * nth xs i := by
  rcases Nat.lt_or_ge i xs.length with h | h
  · exact val_take_succ h
  · exact take_over h

theorem nth_over {xs : List Nat} {i : Nat} (h : xs.length ≤ i) : nth xs i = 0 := by
  unfold nth
  rw [List.getD_eq_getElem?_getD, List.getElem?_eq_none h]
  rfl

theorem set_front {zs : List Nat} {n i : Nat} (hz : zs.length = i) (hi : i < n) (d : Nat) : (lvs (zs ++ List.replicate (n - i) 0)).set i (lv d) = lvs ((zs ++ [d]) ++ List.replicate (n - (i + 1)) 0) := by
  obtain ⟨m, hm⟩ : ∃ m, n - i = m + 1 := ⟨n - i - 1, by omega⟩
  rw [hm, show n - (i + 1) = m by omega, List.replicate_succ]
  unfold lvs
  rw [List.map_append, List.set_append_right _ _ (by simp [hz])]
  simp [hz]

/-- The first i digits of a sum and what is carried. -/
structure Ad (xs ys : List Nat) (i : Nat) (zs : List Nat) (c : Nat) : Prop where
  ok : Ok zs
  len : zs.length = i
  one : c ≤ 1
  eq : val zs + 4294967296 ^ i * c = val (xs.take i) + val (ys.take i)

theorem ad_zero (xs ys : List Nat) : Ad xs ys 0 [] 0 := ⟨ok_nil, rfl, by decide, by simp [val]⟩

theorem Ad.next {xs ys zs : List Nat} {i c : Nat} (h : Ad xs ys i zs c) (hx : Ok xs) (hy : Ok ys) :
    Ad xs ys (i + 1) (zs ++ [(nth xs i + nth ys i + c) % 4294967296]) ((nth xs i + nth ys i + c) / 4294967296) := by
  have h1 := nth_lt hx i
  have h2 := nth_lt hy i
  have h3 := h.one
  refine ⟨ok_append h.ok (ok_cons (by omega) ok_nil), by simp [h.len], by omega, ?_⟩
  rw [val_snoc, h.len, val_take_next xs, val_take_next ys, Nat.pow_succ]
  have e := h.eq
  have hm : 4294967296 ^ i * 4294967296 * ((nth xs i + nth ys i + c) / 4294967296) + 4294967296 ^ i * ((nth xs i + nth ys i + c) % 4294967296) = 4294967296 ^ i * nth xs i + 4294967296 ^ i * nth ys i + 4294967296 ^ i * c := by
    rw [Nat.mul_assoc, ← Nat.mul_add, Nat.div_add_mod, Nat.mul_add, Nat.mul_add]
  omega

/-- The whole sum. -/
theorem Ad.sum {xs ys zs : List Nat} {i c : Nat} (h : Ad xs ys i zs c) (hx : xs.length ≤ i) (hy : ys.length ≤ i) : val (zs ++ [c]) = val xs + val ys ∧ Ok (zs ++ [c]) := by
  have e := h.eq
  rw [List.take_of_length_le hx, List.take_of_length_le hy] at e
  exact ⟨by rw [val_snoc, h.len]; exact e, ok_append h.ok (ok_cons (by have := h.one; omega) ok_nil)⟩

/-- The first i digits of a difference and what is lent. -/
structure Sb (xs ys : List Nat) (i : Nat) (zs : List Nat) (c : Nat) : Prop where
  ok : Ok zs
  len : zs.length = i
  one : c ≤ 1
  eq : val zs + val (ys.take i) = val (xs.take i) + 4294967296 ^ i * c

theorem sb_zero (xs ys : List Nat) : Sb xs ys 0 [] 0 := ⟨ok_nil, rfl, by decide, by simp [val]⟩

/-- One digit of a difference. -/
def sbD (x y c : Nat) : Nat := (x + 4294967296 - y - c) % 4294967296

def sbC (x y c : Nat) : Nat := if x < y + c then 1 else 0

theorem sb_digit {x y c : Nat} (hx : x < 4294967296) (hy : y < 4294967296) (hc : c ≤ 1) : sbD x y c + y + c = x + 4294967296 * sbC x y c := by
  unfold sbD sbC
  split <;> omega

theorem Sb.next {xs ys zs : List Nat} {i c : Nat} (h : Sb xs ys i zs c) (hx : Ok xs) (hy : Ok ys) :
    Sb xs ys (i + 1) (zs ++ [sbD (nth xs i) (nth ys i) c]) (sbC (nth xs i) (nth ys i) c) := by
  have h1 := nth_lt hx i
  have h2 := nth_lt hy i
  have h3 := h.one
  refine ⟨ok_append h.ok (ok_cons (by unfold sbD; omega) ok_nil), by simp [h.len], by unfold sbC; split <;> omega, ?_⟩
  rw [val_snoc, h.len, val_take_next xs, val_take_next ys, Nat.pow_succ]
  have e := h.eq
  have hm : 4294967296 ^ i * sbD (nth xs i) (nth ys i) c + 4294967296 ^ i * nth ys i + 4294967296 ^ i * c = 4294967296 ^ i * nth xs i + 4294967296 ^ i * 4294967296 * sbC (nth xs i) (nth ys i) c := by
    rw [Nat.mul_assoc, ← Nat.mul_add, ← Nat.mul_add, ← Nat.mul_add, sb_digit h1 h2 h3]
  omega

theorem Sb.diff {xs ys zs : List Nat} {i c : Nat} (h : Sb xs ys i zs c) (hx : xs.length ≤ i) (hy : ys.length ≤ i) (hle : val ys ≤ val xs) : val zs = val xs - val ys := by
  have e := h.eq
  rw [List.take_of_length_le hx, List.take_of_length_le hy] at e
  have hl := val_lt h.ok
  rw [h.len] at hl
  have h1 := h.one
  obtain rfl | rfl : c = 0 ∨ c = 1 := by omega
  · omega
  · omega

/-- A row of a product in the making: i limbs of xs are done, and k limbs of ys for the next. -/
structure Mu (xs ys : List Nat) (i k : Nat) (zs : List Nat) (c : Nat) : Prop where
  ok : Ok zs
  len : zs.length = xs.length + ys.length
  lt : c < 4294967296
  zero : ∀ j, i + ys.length ≤ j → nth zs j = 0
  eq : val zs + 4294967296 ^ (i + k) * c = val (xs.take i) * val ys + 4294967296 ^ i * (nth xs i * val (ys.take k))

theorem mu_zero (xs ys : List Nat) : Mu xs ys 0 0 (List.replicate (xs.length + ys.length) 0) 0 := by
  refine ⟨ok_replicate _, by simp, by decide, fun j _ => ?_, by simp [val, val_replicate]⟩
  unfold nth
  rw [List.getD_eq_getElem?_getD, List.getElem?_replicate]
  split <;> rfl

/-- What is put together at a place. -/
def muT (xs ys zs : List Nat) (i k c : Nat) : Nat := c + (nth xs i * nth ys k + nth zs (i + k))

theorem muT_lt {xs ys zs : List Nat} {i k c : Nat} (hx : Ok xs) (hy : Ok ys) (hz : Ok zs) (hc : c < 4294967296) : muT xs ys zs i k c < 18446744073709551616 := by
  have h1 := nth_lt hx i
  have h2 := nth_lt hy k
  have h3 := nth_lt hz (i + k)
  unfold muT
  have : nth xs i * nth ys k ≤ 4294967295 * 4294967295 := Nat.mul_le_mul (by omega) (by omega)
  omega

theorem nth_set_ne {zs : List Nat} {p j : Nat} (d : Nat) (h : j ≠ p) : nth (zs.set p d) j = nth zs j := by
  unfold nth
  rw [List.getD_eq_getElem?_getD, List.getD_eq_getElem?_getD, List.getElem?_set_ne (by omega)]

theorem Mu.next {xs ys zs : List Nat} {i k c : Nat} (h : Mu xs ys i k zs c) (hx : Ok xs) (hy : Ok ys) (hi : i < xs.length) (hk : k < ys.length) :
    Mu xs ys i (k + 1) (zs.set (i + k) (muT xs ys zs i k c % 4294967296)) (muT xs ys zs i k c / 4294967296) := by
  have ht := muT_lt (i := i) (k := k) hx hy h.ok h.lt
  refine ⟨ok_set h.ok (by omega) _, by rw [List.length_set]; exact h.len, by omega, fun j hj => ?_, ?_⟩
  · rw [nth_set_ne _ (by omega)]
    exact h.zero j hj
  · have e := h.eq
    have hs := val_set (zs := zs) (p := i + k) (by rw [h.len]; omega) (muT xs ys zs i k c % 4294967296)
    have hm : 4294967296 ^ (i + k) * 4294967296 * (muT xs ys zs i k c / 4294967296) + 4294967296 ^ (i + k) * (muT xs ys zs i k c % 4294967296) = 4294967296 ^ (i + k) * c + (4294967296 ^ (i + k) * (nth xs i * nth ys k) + 4294967296 ^ (i + k) * nth zs (i + k)) := by
      rw [Nat.mul_assoc, ← Nat.mul_add, Nat.div_add_mod]
      unfold muT
      rw [Nat.mul_add, Nat.mul_add]
    have hv : 4294967296 ^ i * (nth xs i * val (ys.take (k + 1))) = 4294967296 ^ i * (nth xs i * val (ys.take k)) + 4294967296 ^ (i + k) * (nth xs i * nth ys k) := by
      rw [val_take_succ hk, Nat.mul_add, Nat.mul_add, Nat.pow_add]
      congr 1
      rw [Nat.mul_left_comm (nth xs i), ← Nat.mul_assoc]
      rfl
    rw [hv, show i + (k + 1) = i + k + 1 by omega, Nat.pow_succ]
    omega

/-- A limb of xs is done. -/
theorem Mu.row {xs ys zs : List Nat} {i c : Nat} (h : Mu xs ys i ys.length zs c) (hi : i < xs.length) :
    Mu xs ys (i + 1) 0 (zs.set (i + ys.length) c) 0 := by
  refine ⟨ok_set h.ok h.lt _, by rw [List.length_set]; exact h.len, by decide, fun j hj => ?_, ?_⟩
  · rw [nth_set_ne _ (by omega)]
    exact h.zero j (by omega)
  · have e := h.eq
    have hs := val_set (zs := zs) (p := i + ys.length) (by rw [h.len]; omega) c
    rw [h.zero _ (Nat.le_refl _)] at hs
    rw [List.take_of_length_le (Nat.le_refl _)] at e
    have hv := val_take_next xs i
    have h0 : val (ys.take 0) = 0 := by rw [List.take_zero]; rfl
    rw [hv, h0, Nat.mul_zero, Nat.mul_zero, Nat.mul_zero, Nat.add_mul, Nat.mul_assoc]
    rw [Nat.mul_zero] at hs
    generalize 4294967296 ^ i * (nth xs i * val ys) = P at *
    generalize 4294967296 ^ (i + ys.length) * c = Q at *
    omega

theorem Mu.prod {xs ys zs : List Nat} {c : Nat} (h : Mu xs ys xs.length 0 zs c) (hc : c = 0) : val zs = val xs * val ys := by
  subst hc
  have e := h.eq
  rw [List.take_of_length_le (Nat.le_refl _)] at e
  simpa [val] using e

end Go.Lb

namespace Go.Proofs.YtgdhleiokfaeoaaGreatDoor

open Go.RowKit Go.Lb

theorem u32_or_nat (a b : Nat) (ha : a < 4294967296) (hb : b < 4294967296) : bits .or .u32 (a : Int) (b : Int) = ((a ||| b : Nat) : Int) := by
  have hx : a ||| b < 2 ^ 32 := Nat.or_lt_two_pow (by omega) (by omega)
  have h1 : (BitVec.ofInt 32 (a : Int)).toNat = a := by
    rw [BitVec.ofInt_natCast, BitVec.toNat_ofNat]; exact Nat.mod_eq_of_lt (by omega)
  have h2 : (BitVec.ofInt 32 (b : Int)).toNat = b := by
    rw [BitVec.ofInt_natCast, BitVec.toNat_ofNat]; exact Nat.mod_eq_of_lt (by omega)
  show IntKind.u32.wrap ((BitVec.ofInt 32 (a : Int) ||| BitVec.ofInt 32 (b : Int)).toNat : Int) = _
  rw [BitVec.toNat_or, h1, h2, show ∀ n : Int, IntKind.u32.wrap n = n % 4294967296 from fun n => by simp [IntKind.wrap, IntKind.signed, IntKind.bits]]
  omega

end Go.Proofs.YtgdhleiokfaeoaaGreatDoor

namespace Go.Proofs.YtgdhleiokfaeoaaGreatDoor

open Go.RowKit Go.Lb

theorem val_up (ys : List Nat) (k : Nat) : val (List.replicate (k / 32) 0 ++ upL (k % 32) ys) = val ys * 2 ^ k := by
  rw [val_zeros_app, val_upL, Nat.mul_comm, Nat.mul_assoc, ← Nat.pow_add]
  congr 2
  omega

end Go.Proofs.YtgdhleiokfaeoaaGreatDoor

namespace Go.Proofs.YtgdhleiokfaeoaaGreatDoor

open Go.RowKit Go.Lb

end Go.Proofs.YtgdhleiokfaeoaaGreatDoor

namespace Go.Proofs.YtgdhleiokfaeoaaGreatDoor

open Go.RowKit Go.Lb

end Go.Proofs.YtgdhleiokfaeoaaGreatDoor

