/-
  Plain: how two lists of limbs compare. Plain: lists of limbs times a power of two below 2^32: the digits (upD), what is carried (upC). Plain: rows of digits: sums, differences, products by hand. The walk of nat.shifted: a list times a power of two below 2^32, in a row of its own. The walk of nat.Up: a number times a power of two, in a block of its own. The walks of nat.cmp and of the reference's cmp. The walks of math/bits.Add32 and Sub32, nat.checks (of two) and nat.fits.
-/
import Derived.Test.YtpmncmglmobjoaaGreatDoorQbTBooks
import Derived.Deep.OwnRows
import Derived.Lib.ItoaNum
set_option maxHeartbeats 4000000
set_option maxRecDepth 100000
namespace Go.Lb
def cmpN (m n : Nat) : Int := if m < n then -1 else if n < m then 1 else 0
theorem cmpN_lt {m n : Nat} (h : m < n) : cmpN m n = -1 := by unfold cmpN; rw [if_pos h]
theorem cmpN_gt {m n : Nat} (h : n < m) : cmpN m n = 1 := by unfold cmpN; rw [if_neg (by omega), if_pos h]
theorem cmpN_eq {m n : Nat} (h : m = n) : cmpN m n = 0 := by unfold cmpN; rw [if_neg (by omega), if_neg (by omega)]
theorem cmp_len {xs ys : List Nat} (hx : Ok xs) (hy : Fine ys) (h : xs.length < ys.length) : val xs < val ys := by
 apply Nat.lt_of_not_le
 intro hle
 have h1 := val_lt hx
 have h2 : (limbs (val ys)).length ≤ xs.length := limbs_length_le (by omega)
 rw [limbs_val hy] at h2
 omega
theorem ext_nth {xs ys : List Nat} (hl : xs.length = ys.length) (h : ∀ j, j < xs.length → nth xs j = nth ys j) : xs = ys := by
 refine List.ext_getElem hl fun j h1 h2 => ?_
 have := h j h1
 unfold nth at this
 rw [List.getD_eq_getElem?_getD, List.getD_eq_getElem?_getD, List.getElem?_eq_getElem h1, List.getElem?_eq_getElem h2] at this
 exact this
theorem cmp_at {xs ys : List Nat} (hx : Ok xs) (hl : xs.length = ys.length) {k : Nat} (hk : k < xs.length) (ha : ∀ j, k < j → j < xs.length → nth xs j = nth ys j) (h : nth xs k < nth ys k) : val xs < val ys := by
 have s1 := val_split xs k (by omega)
 have s2 := val_split ys k (by omega)
 have t1 := val_lt (ok_take hx k)
 rw [List.length_take, Nat.min_eq_left (by omega)] at t1
 have c : ∀ (zs : List Nat), k < zs.length → val (zs.drop k) = nth zs k + 4294967296 * val (zs.drop (k + 1)) := fun zs hz => by
  rw [List.drop_eq_getElem_cons hz, val]
  unfold nth
  rw [List.getD_eq_getElem?_getD, List.getElem?_eq_getElem hz]
  rfl
 have e : xs.drop (k + 1) = ys.drop (k + 1) := by
  refine ext_nth (by simp [hl]) fun j hj => ?_
  rw [nth_drop, nth_drop]
  exact ha _ (by omega) (by simp at hj; omega)
 rw [c xs hk, e] at s1
 rw [c ys (by omega)] at s2
 rw [s1, s2]
 have : nth xs k + 4294967296 * val (ys.drop (k + 1)) + 1 ≤ nth ys k + 4294967296 * val (ys.drop (k + 1)) := by omega
 have hm := Nat.mul_le_mul_left (4294967296 ^ k) this
 rw [Nat.mul_add, Nat.mul_one] at hm
 omega
def upC (s c : Nat) : List Nat → Nat
 | [] => c
 | x :: t => upC s ((x * 2 ^ s + c) / 4294967296) t
def upD (s c : Nat) : List Nat → List Nat
 | [] => []
 | x :: t => (x * 2 ^ s + c) % 4294967296 :: upD s ((x * 2 ^ s + c) / 4294967296) t
theorem upD_length (s c : Nat) (xs : List Nat) : (upD s c xs).length = xs.length := by
 induction xs generalizing c with
 | nil => rfl
 | cons x t ih => simp [upD, ih]
theorem ok_upD (s c : Nat) (xs : List Nat) : Ok (upD s c xs) := by
 induction xs generalizing c with
 | nil => exact ok_nil
 | cons x t ih => exact ok_cons (by omega) (ih _)
theorem upD_snoc (s c : Nat) (xs : List Nat) (x : Nat) : upD s c (xs ++ [x]) = upD s c xs ++ [(x * 2 ^ s + upC s c xs) % 4294967296] := by
 induction xs generalizing c with
 | nil => rfl
 | cons y t ih => simp only [List.cons_append, upD, upC, ih]
theorem upC_snoc (s c : Nat) (xs : List Nat) (x : Nat) : upC s c (xs ++ [x]) = (x * 2 ^ s + upC s c xs) / 4294967296 := by
 induction xs generalizing c with
 | nil => rfl
 | cons y t ih => simp only [List.cons_append, upC, ih]
theorem carry_lt {x c s : Nat} (hx : x < 4294967296) (hc : c < 2 ^ s) : (x * 2 ^ s + c) / 4294967296 < 2 ^ s := by
 refine Nat.div_lt_of_lt_mul ?_
 have h1 : (x + 1) * 2 ^ s ≤ 4294967296 * 2 ^ s := Nat.mul_le_mul_right _ (by omega)
 rw [Nat.add_mul, Nat.one_mul] at h1
 omega
theorem upC_lt {s c : Nat} {xs : List Nat} (h : Ok xs) (hc : c < 2 ^ s) : upC s c xs < 2 ^ s := by
 induction xs generalizing c with
 | nil => exact hc
 | cons x t ih => exact ih (fun y hy => h y (List.mem_cons_of_mem _ hy)) (carry_lt (h x (by simp)) hc)
theorem val_upD (s c : Nat) (xs : List Nat) : val (upD s c xs) + 4294967296 ^ xs.length * upC s c xs = val xs * 2 ^ s + c := by
 induction xs generalizing c with
 | nil => simp [upD, upC, val]
 | cons x t ih =>
   have h := ih ((x * 2 ^ s + c) / 4294967296)
   have hm := Nat.div_add_mod (x * 2 ^ s + c) 4294967296
   simp only [upD, upC, val, List.length_cons, Nat.pow_succ]
   have e1 : 4294967296 ^ t.length * 4294967296 * upC s ((x * 2 ^ s + c) / 4294967296) t = 4294967296 * (4294967296 ^ t.length * upC s ((x * 2 ^ s + c) / 4294967296) t) := by
    rw [Nat.mul_comm (4294967296 ^ t.length) 4294967296, Nat.mul_assoc]
   have e2 : (x + 4294967296 * val t) * 2 ^ s = x * 2 ^ s + 4294967296 * (val t * 2 ^ s) := by rw [Nat.add_mul, Nat.mul_assoc]
   rw [e1, e2]
   omega
def upL (s : Nat) (xs : List Nat) : List Nat := upD s 0 xs ++ [upC s 0 xs]
theorem upL_length (s : Nat) (xs : List Nat) : (upL s xs).length = xs.length + 1 := by
 unfold upL
 rw [List.length_append, upD_length]
 rfl
theorem ok_upL {s : Nat} (hs : s < 32) {xs : List Nat} (h : Ok xs) : Ok (upL s xs) := by
 refine ok_append (ok_upD _ _ _) (ok_cons ?_ ok_nil)
 have h1 := upC_lt (s := s) (c := 0) h (Nat.two_pow_pos s)
 have h2 : 2 ^ s ≤ 2 ^ 32 := Nat.pow_le_pow_right (by decide) (by omega)
 omega
theorem val_upL (s : Nat) (xs : List Nat) : val (upL s xs) = val xs * 2 ^ s := by
 unfold upL
 rw [val_append, upD_length]
 have := val_upD s 0 xs
 simp only [val, Nat.mul_zero, Nat.add_zero] at this ⊢
 exact this
theorem val_zeros_app (q : Nat) (xs : List Nat) : val (List.replicate q 0 ++ xs) = 2 ^ (32 * q) * val xs := by
 rw [val_append, val_replicate, List.length_replicate, Nat.zero_add, pow32]
def upAt (s n i : Nat) (xs : List Nat) : List Nat := upD s 0 (xs.take i) ++ upC s 0 (xs.take i) :: List.replicate (n - i) 0
theorem upAt_zero (s n : Nat) (xs : List Nat) : upAt s n 0 xs = List.replicate (n + 1) 0 := by
 unfold upAt
 simp [upD, upC, List.replicate_succ]
theorem upAt_full {s n : Nat} {xs : List Nat} (h : xs.length = n) : upAt s n n xs = upL s xs := by
 unfold upAt upL
 rw [List.take_of_length_le (by omega), Nat.sub_self]
 rfl
theorem take_snoc {xs : List Nat} {i : Nat} (h : i < xs.length) : xs.take (i + 1) = xs.take i ++ [nth xs i] := take_succ_getD h
theorem nth_upAt {s n i : Nat} {xs : List Nat} (h : i ≤ xs.length) : nth (upAt s n i xs) i = upC s 0 (xs.take i) := by
 unfold upAt nth
 rw [List.getD_eq_getElem?_getD, List.getElem?_append_right (by rw [upD_length, List.length_take]; omega), upD_length, List.length_take, Nat.min_eq_left h, Nat.sub_self]
 rfl
theorem upAt_step {s n i : Nat} {xs : List Nat} (hi : i < n) (h : xs.length = n) :
 ((lvs (upAt s n i xs)).set i (lv ((nth xs i * 2 ^ s + upC s 0 (xs.take i)) % 4294967296))).set (i + 1) (lv ((nth xs i * 2 ^ s + upC s 0 (xs.take i)) / 4294967296)) = lvs (upAt s n (i + 1) xs) := by
 have hl : (upD s 0 (xs.take i)).length = i := by rw [upD_length, List.length_take]; omega
 unfold upAt lvs
 rw [take_snoc (by omega), upD_snoc, upC_snoc]
 obtain ⟨m, hm⟩ : ∃ m, n - i = m + 1 := ⟨n - i - 1, by omega⟩
 rw [hm, show n - (i + 1) = m by omega, List.replicate_succ, List.map_append, List.set_append_right _ _ (by simp [hl]), List.set_append_right _ _ (by simp [hl])]
 simp [hl]
theorem or_carry {x c s : Nat} (hs : s < 32) (hc : c < 2 ^ s) : c ||| (x * 2 ^ s % 4294967296) = (x * 2 ^ s + c) % 4294967296 ∧ x * 2 ^ s / 4294967296 = (x * 2 ^ s + c) / 4294967296 := by
 obtain ⟨D, hD⟩ : ∃ D, (4294967296 : Nat) = D * 2 ^ s := ⟨2 ^ (32 - s), by rw [← Nat.pow_add]; rw [show 32 - s + s = 32 by omega]⟩
 have hp : 0 < 2 ^ s := Nat.two_pow_pos s
 have e1 : x * 2 ^ s % 4294967296 = x % D * 2 ^ s := by rw [hD, Nat.mul_mod_mul_right]
 have hDp : 0 < D := by
  rcases Nat.eq_zero_or_pos D with h | h
  · rw [h] at hD; simp at hD
  · exact h
 have hlt : x % D < D := Nat.mod_lt _ hDp
 have h1 : (x % D + 1) * 2 ^ s ≤ D * 2 ^ s := Nat.mul_le_mul_right _ (by omega)
 rw [Nat.add_mul, Nat.one_mul, ← hD] at h1
 have hsum : x * 2 ^ s % 4294967296 + c < 4294967296 := by rw [e1]; omega
 constructor
 · rw [Nat.or_comm, e1]
   have := Nat.two_pow_add_eq_or_of_lt (i := s) (b := c) hc (x % D)
   rw [Nat.mul_comm] at this
   rw [← this]
   rw [Nat.add_mod, e1, Nat.mod_eq_of_lt (show c < 4294967296 by omega)]
   rw [e1] at hsum
   rw [Nat.mod_eq_of_lt hsum]
 · have := Nat.div_add_mod (x * 2 ^ s) 4294967296
   omega
theorem val_set {zs : List Nat} {p : Nat} (h : p < zs.length) (d : Nat) : val (zs.set p d) + 4294967296 ^ p * nth zs p = val zs + 4294967296 ^ p * d := by
 induction zs generalizing p with
 | nil => exact absurd h (by simp)
 | cons z t ih =>
   cases p with
   | zero =>
     simp only [List.set_cons_zero, val, nth, List.getD_cons_zero, Nat.pow_zero, Nat.one_mul]
     omega
   | succ p =>
     have := ih (p := p) (by simpa using h)
     have e : nth (z :: t) (p + 1) = nth t p := rfl
     simp only [List.set_cons_succ, val, e, Nat.pow_succ]
     rw [Nat.mul_comm (4294967296 ^ p) 4294967296, Nat.mul_assoc, Nat.mul_assoc]
     omega
theorem val_snoc (zs : List Nat) (d : Nat) : val (zs ++ [d]) = val zs + 4294967296 ^ zs.length * d := by
 rw [val_append]
 simp [val]
theorem take_over {xs : List Nat} {i : Nat} (h : xs.length ≤ i) : val (xs.take (i + 1)) = val (xs.take i) + 4294967296 ^ i * nth xs i := by
 rw [List.take_of_length_le (by omega), List.take_of_length_le h]
 have : nth xs i = 0 := by
  unfold nth
  rw [List.getD_eq_getElem?_getD, List.getElem?_eq_none h]
  rfl
 rw [this]
 rfl
theorem val_take_next (xs : List Nat) (i : Nat) : val (xs.take (i + 1)) = val (xs.take i) + 4294967296 ^ i * nth xs i := by
 rcases Nat.lt_or_ge i xs.length with h | h
 · exact val_take_succ h
 · exact take_over h
theorem nth_over {xs : List Nat} {i : Nat} (h : xs.length ≤ i) : nth xs i = 0 := by
 unfold nth
 rw [List.getD_eq_getElem?_getD, List.getElem?_eq_none h]
 rfl
theorem set_front {zs : List Nat} {n i : Nat} (hz : zs.length = i) (hi : i < n) (d : Nat) : (lvs (zs ++ List.replicate (n - i) 0)).set i (lv d) = lvs ((zs ++ [d]) ++ List.replicate (n - (i + 1)) 0) := by
 obtain ⟨m, hm⟩ : ∃ m, n - i = m + 1 := ⟨n - i - 1, by omega⟩
 rw [hm, show n - (i + 1) = m by omega, List.replicate_succ]
 unfold lvs
 rw [List.map_append, List.set_append_right _ _ (by simp [hz])]
 simp [hz]
structure Ad (xs ys : List Nat) (i : Nat) (zs : List Nat) (c : Nat) : Prop where
 ok : Ok zs
 len : zs.length = i
 one : c ≤ 1
 eq : val zs + 4294967296 ^ i * c = val (xs.take i) + val (ys.take i)
theorem ad_zero (xs ys : List Nat) : Ad xs ys 0 [] 0 := ⟨ok_nil, rfl, by decide, by simp [val]⟩
theorem Ad.next {xs ys zs : List Nat} {i c : Nat} (h : Ad xs ys i zs c) (hx : Ok xs) (hy : Ok ys) :
 Ad xs ys (i + 1) (zs ++ [(nth xs i + nth ys i + c) % 4294967296]) ((nth xs i + nth ys i + c) / 4294967296) := by
 have h1 := nth_lt hx i
 have h2 := nth_lt hy i
 have h3 := h.one
 refine ⟨ok_append h.ok (ok_cons (by omega) ok_nil), by simp [h.len], by omega, ?_⟩
 rw [val_snoc, h.len, val_take_next xs, val_take_next ys, Nat.pow_succ]
 have e := h.eq
 have hm : 4294967296 ^ i * 4294967296 * ((nth xs i + nth ys i + c) / 4294967296) + 4294967296 ^ i * ((nth xs i + nth ys i + c) % 4294967296) = 4294967296 ^ i * nth xs i + 4294967296 ^ i * nth ys i + 4294967296 ^ i * c := by
  rw [Nat.mul_assoc, ← Nat.mul_add, Nat.div_add_mod, Nat.mul_add, Nat.mul_add]
 omega
theorem Ad.sum {xs ys zs : List Nat} {i c : Nat} (h : Ad xs ys i zs c) (hx : xs.length ≤ i) (hy : ys.length ≤ i) : val (zs ++ [c]) = val xs + val ys ∧ Ok (zs ++ [c]) := by
 have e := h.eq
 rw [List.take_of_length_le hx, List.take_of_length_le hy] at e
 exact ⟨by rw [val_snoc, h.len]; exact e, ok_append h.ok (ok_cons (by have := h.one; omega) ok_nil)⟩
structure Sb (xs ys : List Nat) (i : Nat) (zs : List Nat) (c : Nat) : Prop where
 ok : Ok zs
 len : zs.length = i
 one : c ≤ 1
 eq : val zs + val (ys.take i) = val (xs.take i) + 4294967296 ^ i * c
theorem sb_zero (xs ys : List Nat) : Sb xs ys 0 [] 0 := ⟨ok_nil, rfl, by decide, by simp [val]⟩
def sbD (x y c : Nat) : Nat := (x + 4294967296 - y - c) % 4294967296
def sbC (x y c : Nat) : Nat := if x < y + c then 1 else 0
theorem sb_digit {x y c : Nat} (hx : x < 4294967296) (hy : y < 4294967296) (hc : c ≤ 1) : sbD x y c + y + c = x + 4294967296 * sbC x y c := by
 unfold sbD sbC
 split <;> omega
theorem Sb.next {xs ys zs : List Nat} {i c : Nat} (h : Sb xs ys i zs c) (hx : Ok xs) (hy : Ok ys) :
 Sb xs ys (i + 1) (zs ++ [sbD (nth xs i) (nth ys i) c]) (sbC (nth xs i) (nth ys i) c) := by
 have h1 := nth_lt hx i
 have h2 := nth_lt hy i
 have h3 := h.one
 refine ⟨ok_append h.ok (ok_cons (by unfold sbD; omega) ok_nil), by simp [h.len], by unfold sbC; split <;> omega, ?_⟩
 rw [val_snoc, h.len, val_take_next xs, val_take_next ys, Nat.pow_succ]
 have e := h.eq
 have hm : 4294967296 ^ i * sbD (nth xs i) (nth ys i) c + 4294967296 ^ i * nth ys i + 4294967296 ^ i * c = 4294967296 ^ i * nth xs i + 4294967296 ^ i * 4294967296 * sbC (nth xs i) (nth ys i) c := by
  rw [Nat.mul_assoc, ← Nat.mul_add, ← Nat.mul_add, ← Nat.mul_add, sb_digit h1 h2 h3]
 omega
theorem Sb.diff {xs ys zs : List Nat} {i c : Nat} (h : Sb xs ys i zs c) (hx : xs.length ≤ i) (hy : ys.length ≤ i) (hle : val ys ≤ val xs) : val zs = val xs - val ys := by
 have e := h.eq
 rw [List.take_of_length_le hx, List.take_of_length_le hy] at e
 have hl := val_lt h.ok
 rw [h.len] at hl
 have h1 := h.one
 obtain rfl | rfl : c = 0 ∨ c = 1 := by omega
 · omega
 · omega
structure Mu (xs ys : List Nat) (i k : Nat) (zs : List Nat) (c : Nat) : Prop where
 ok : Ok zs
 len : zs.length = xs.length + ys.length
 lt : c < 4294967296
 zero : ∀ j, i + ys.length ≤ j → nth zs j = 0
 eq : val zs + 4294967296 ^ (i + k) * c = val (xs.take i) * val ys + 4294967296 ^ i * (nth xs i * val (ys.take k))
theorem mu_zero (xs ys : List Nat) : Mu xs ys 0 0 (List.replicate (xs.length + ys.length) 0) 0 := by
 refine ⟨ok_replicate _, by simp, by decide, fun j _ => ?_, by simp [val, val_replicate]⟩
 unfold nth
 rw [List.getD_eq_getElem?_getD, List.getElem?_replicate]
 split <;> rfl
def muT (xs ys zs : List Nat) (i k c : Nat) : Nat := c + (nth xs i * nth ys k + nth zs (i + k))
theorem muT_lt {xs ys zs : List Nat} {i k c : Nat} (hx : Ok xs) (hy : Ok ys) (hz : Ok zs) (hc : c < 4294967296) : muT xs ys zs i k c < 18446744073709551616 := by
 have h1 := nth_lt hx i
 have h2 := nth_lt hy k
 have h3 := nth_lt hz (i + k)
 unfold muT
 have : nth xs i * nth ys k ≤ 4294967295 * 4294967295 := Nat.mul_le_mul (by omega) (by omega)
 omega
theorem nth_set_ne {zs : List Nat} {p j : Nat} (d : Nat) (h : j ≠ p) : nth (zs.set p d) j = nth zs j := by
 unfold nth
 rw [List.getD_eq_getElem?_getD, List.getD_eq_getElem?_getD, List.getElem?_set_ne (by omega)]
theorem Mu.next {xs ys zs : List Nat} {i k c : Nat} (h : Mu xs ys i k zs c) (hx : Ok xs) (hy : Ok ys) (hi : i < xs.length) (hk : k < ys.length) :
 Mu xs ys i (k + 1) (zs.set (i + k) (muT xs ys zs i k c % 4294967296)) (muT xs ys zs i k c / 4294967296) := by
 have ht := muT_lt (i := i) (k := k) hx hy h.ok h.lt
 refine ⟨ok_set h.ok (by omega) _, by rw [List.length_set]; exact h.len, by omega, fun j hj => ?_, ?_⟩
 · rw [nth_set_ne _ (by omega)]
   exact h.zero j hj
 · have e := h.eq
   have hs := val_set (zs := zs) (p := i + k) (by rw [h.len]; omega) (muT xs ys zs i k c % 4294967296)
   have hm : 4294967296 ^ (i + k) * 4294967296 * (muT xs ys zs i k c / 4294967296) + 4294967296 ^ (i + k) * (muT xs ys zs i k c % 4294967296) = 4294967296 ^ (i + k) * c + (4294967296 ^ (i + k) * (nth xs i * nth ys k) + 4294967296 ^ (i + k) * nth zs (i + k)) := by
    rw [Nat.mul_assoc, ← Nat.mul_add, Nat.div_add_mod]
    unfold muT
    rw [Nat.mul_add, Nat.mul_add]
   have hv : 4294967296 ^ i * (nth xs i * val (ys.take (k + 1))) = 4294967296 ^ i * (nth xs i * val (ys.take k)) + 4294967296 ^ (i + k) * (nth xs i * nth ys k) := by
    rw [val_take_succ hk, Nat.mul_add, Nat.mul_add, Nat.pow_add]
    congr 1
    rw [Nat.mul_left_comm (nth xs i), ← Nat.mul_assoc]
    rfl
   rw [hv, show i + (k + 1) = i + k + 1 by omega, Nat.pow_succ]
   omega
theorem Mu.row {xs ys zs : List Nat} {i c : Nat} (h : Mu xs ys i ys.length zs c) (hi : i < xs.length) :
 Mu xs ys (i + 1) 0 (zs.set (i + ys.length) c) 0 := by
 refine ⟨ok_set h.ok h.lt _, by rw [List.length_set]; exact h.len, by decide, fun j hj => ?_, ?_⟩
 · rw [nth_set_ne _ (by omega)]
   exact h.zero j (by omega)
 · have e := h.eq
   have hs := val_set (zs := zs) (p := i + ys.length) (by rw [h.len]; omega) c
   rw [h.zero _ (Nat.le_refl _)] at hs
   rw [List.take_of_length_le (Nat.le_refl _)] at e
   have hv := val_take_next xs i
   have h0 : val (ys.take 0) = 0 := by rw [List.take_zero]; rfl
   rw [hv, h0, Nat.mul_zero, Nat.mul_zero, Nat.mul_zero, Nat.add_mul, Nat.mul_assoc]
   rw [Nat.mul_zero] at hs
   generalize 4294967296 ^ i * (nth xs i * val ys) = P at *
   generalize 4294967296 ^ (i + ys.length) * c = Q at *
   omega
theorem Mu.prod {xs ys zs : List Nat} {c : Nat} (h : Mu xs ys xs.length 0 zs c) (hc : c = 0) : val zs = val xs * val ys := by
 subst hc
 have e := h.eq
 rw [List.take_of_length_le (Nat.le_refl _)] at e
 simpa [val] using e
def bigE (N : Nat) : Int := if (limbs N).length ≤ 16384 then 0 else 4
def bigN (N : Nat) : Nat := if (limbs N).length ≤ 16384 then N else 0
theorem bigE_ok {N : Nat} (h : (limbs N).length ≤ 16384) : bigE N = 0 ∧ bigN N = N := ⟨if_pos h, if_pos h⟩
theorem bigE_many {N : Nat} (h : ¬ (limbs N).length ≤ 16384) : bigE N = 4 ∧ bigN N = 0 := ⟨if_neg h, if_neg h⟩
theorem len_big {N k : Nat} : (limbs N).length ≤ k ↔ N < 2 ^ (32 * k) := by rw [limbs_length_le_iff, pow32]
end Go.Lb
namespace Go.Proofs.YtpmncmglmobjoaaGreatDoor
open Go.RowKit Go.Lb
theorem u32_or_nat (a b : Nat) (ha : a < 4294967296) (hb : b < 4294967296) : bits .or .u32 (a : Int) (b : Int) = ((a ||| b : Nat) : Int) := by
 have hx : a ||| b < 2 ^ 32 := Nat.or_lt_two_pow (by omega) (by omega)
 have h1 : (BitVec.ofInt 32 (a : Int)).toNat = a := by
  rw [BitVec.ofInt_natCast, BitVec.toNat_ofNat]; exact Nat.mod_eq_of_lt (by omega)
 have h2 : (BitVec.ofInt 32 (b : Int)).toNat = b := by
  rw [BitVec.ofInt_natCast, BitVec.toNat_ofNat]; exact Nat.mod_eq_of_lt (by omega)
 show IntKind.u32.wrap ((BitVec.ofInt 32 (a : Int) ||| BitVec.ofInt 32 (b : Int)).toNat : Int) = _
 rw [BitVec.toNat_or, h1, h2, show ∀ n : Int, IntKind.u32.wrap n = n % 4294967296 from fun n => by simp [IntKind.wrap, IntKind.signed, IntKind.bits]]
 omega
def Shifted (w : World) (n s : Nat) (ys : List Nat) (e : Ending) (w' : World) : Prop :=
 ∃ g, e = .returned (.slice (some ⟨g, 0, none⟩) (n + 1) (n + 1)) ∧ w'.ownsRow w.heap.size 40 1 (.slice (some ⟨g, 0, none⟩) (n + 1) (n + 1)) (n + 1) (lvs (upL s ys)) ∧ Below w.heap.size w w'
theorem natShifted_any (ao : Option Addr) (n c s : Nat) (ys : List Nat) (w : World) (h : Sl w ao n c ys) (hs : s < 32) (hn : n ≤ 16384) :
 Calls Tryz.prog 80 #[.slice ao n c, .int .i64 s] w (Shifted w n s ys) := by
 obtain ⟨i0, hi0, hz0, hz1, hz2⟩ := info_parts u32_infoL
 have hle := h.le
 have hcap := h.cap
 have hlen := h.len
 go_enter Tryz.func80, Tryz.ntmps80
 go_wp2_with (at_make; refine wpList_make_full _ rfl _ _ 25 rfl w.heap.size 40 i0 _ 1 Tryz.underlying25 hi0 hz0 hz1 _ _ _ _ (n + 1) rfl rfl rfl rfl (by rw [hz2]; omega) (by unfold maxLen; omega) (Nat.le_refl _) ?_; intro w1 hown hg1; rw [made_lvs] at hown; have hb1 := (Below.refl w.heap.size w).grown hg1 (Nat.le_refl _) (by simp))
 go_loopw [15] (fun i wr => ∃ k : Nat, k ≤ n ∧ i = .int .i64 k ∧ wr.ownsRow w.heap.size 40 1 (.slice (some ⟨w.heap.size, 0, none⟩) (n + 1) (n + 1)) (n + 1) (lvs (upAt s n k ys)) ∧ Below w.heap.size w wr) (fun i _ => n - (intOf i).toNat)
 case atStart => exact ⟨0, by omega, rfl, by rw [upAt_zero]; exact hown, hb1⟩
 case round =>
  obtain ⟨k, hk, rfl, hownk, hbk⟩ := hrel
  by_cases hkn : k < n
  · obtain ⟨b, o, rfl, hb, hc⟩ := (h.below hbk).at_ (by omega)
    have hcell := hc k hkn
    clear hc
    have hx := nth_lt h.ok k
    have hC : upC s 0 (ys.take k) < 2 ^ s := upC_lt (ok_take h.ok k) (Nat.two_pow_pos s)
    have hp32 : (2 : Nat) ^ s ≤ 2 ^ 31 := Nat.pow_le_pow_right (by decide) (by omega)
    have hprod : nth ys k * 2 ^ s < 18446744073709551616 := Nat.lt_of_le_of_lt (Nat.mul_le_mul_left _ hp32) (by omega)
    obtain ⟨g1, g2⟩ := or_carry (x := nth ys k) hs hC
    have hst := own_cell hownk (j := k) (by omega)
    rw [nth_upAt (by omega)] at hst
    have hfz := hownk.frozenAt k
    have hfz2 := hownk.frozenAt (k + 1)
    have hst2 : ∀ v, (wr.setCell ⟨w.heap.size, k, none⟩ v).cell? ⟨w.heap.size, k + 1, none⟩ = some (.int .u32 (nth (upAt s n k ys) (k + 1) : Int)) := fun v => by
     rw [World.cell?_setCell_other _ _ _ _ (by simp)]
     exact own_cell hownk (by omega)
    have hW : IntKind.u64.wrap ((nth ys k : Int) * 2 ^ s) = ((nth ys k * 2 ^ s : Nat) : Int) := by
     rw [show (nth ys k : Int) * 2 ^ s = ((nth ys k * 2 ^ s : Nat) : Int) by rw [Int.natCast_mul, Int.natCast_pow]; rfl]
     exact IntWalk.u64_in _ (by omega)
    have eW1 : Value.int IntKind.u32 (bits BinOp.or IntKind.u32 (upC s 0 (ys.take k) : Int) (IntKind.u64.wrap ((nth ys k : Int) * 2 ^ s) % 4294967296)) = lv ((nth ys k * 2 ^ s + upC s 0 (ys.take k)) % 4294967296) := by
     unfold lv
     rw [hW, show ((nth ys k * 2 ^ s : Nat) : Int) % 4294967296 = ((nth ys k * 2 ^ s % 4294967296 : Nat) : Int) from by omega, u32_or_nat _ _ (by omega) (by omega), g1]
    have eW2 : Value.int IntKind.u32 (IntKind.u64.wrap ((nth ys k : Int) * 2 ^ s) / 4294967296 % 4294967296) = lv ((nth ys k * 2 ^ s + upC s 0 (ys.take k)) / 4294967296) := by
     unfold lv
     rw [hW, ← g2]
     have : nth ys k * 2 ^ s / 4294967296 < 4294967296 := by omega
     congr 1
     omega
    obtain ⟨o1, r1⟩ := hownk.stored k (lv ((nth ys k * 2 ^ s + upC s 0 (ys.take k)) % 4294967296))
    obtain ⟨o2, r2⟩ := o1.stored (k + 1) (lv ((nth ys k * 2 ^ s + upC s 0 (ys.take k)) / 4294967296))
    rw [upAt_step hkn hlen] at o2
    have hb2 := (hbk.grown r1 hbk.size (by simp)).grown r2 (by simp; exact hbk.size) (by simp)
    have E1 := Lib.hid eW1
    have E2 := Lib.hid eW2
    clear eW1 eW2 hW g1 g2 hprod hp32 hC o1 r1 r2
    go_wp2
    rw [E1.out, E2.out]
    exact ⟨⟨k + 1, by omega, by go_num, o2, hb2⟩, by simp [intOf]; omega⟩
  · obtain rfl : k = n := by omega
    rw [upAt_full hlen] at hownk
    go_wp2
    go_ret
    exact ⟨_, rfl, hownk, hbk⟩
theorem natTrimmed_row {base g n cap : Nat} {ys : List Nat} (w : World) (h : w.ownsRow base 40 1 (.slice (some ⟨g, 0, none⟩) n cap) n (lvs ys)) (hok : Ok ys) :
 Calls Tryz.prog 72 #[.slice (some ⟨g, 0, none⟩) n cap] w fun e w' => ∃ ao k, e = .returned (.agg #[.slice ao k k]) ∧ Fr 40 w' base ao k k (limbs (val ys)) ∧ Below w.heap.size w w' := by
 refine (natTrimmed_any _ n cap ys w (own_sl h hok)).mono ?_
 rintro e w' ⟨k, hk, rfl, hv, hb⟩
 refine ⟨_, k, rfl, ?_, hb⟩
 have hcap := (own_cap h).1
 by_cases h0 : k = 0
 · subst h0
   rw [if_pos rfl, ← hv]
   exact fr_nil _ _ _
 · rw [if_neg h0, ← hv]
   exact (fr_own h hok hk (Nat.le_refl _) (by omega)).below hb
theorem natShifted_i (ao : Option Addr) (n c s : Nat) (x : Int) (hx : x = (s : Int)) (ys : List Nat) (w : World) (h : Sl w ao n c ys) (hs : s < 32) (hn : n ≤ 16384) :
 Calls Tryz.prog 80 #[.slice ao n c, .int .i64 x] w (Shifted w n s ys) := by
 subst hx
 exact natShifted_any ao n c s ys w h hs hn
theorem val_up (ys : List Nat) (k : Nat) : val (List.replicate (k / 32) 0 ++ upL (k % 32) ys) = val ys * 2 ^ k := by
 rw [val_zeros_app, val_upL, Nat.mul_comm, Nat.mul_assoc, ← Nat.pow_add]
 congr 2
 omega
theorem lvs_len (xs : List Nat) : (lvs xs).length = xs.length := by simp [lvs]
theorem lvs_append (xs ys : List Nat) : lvs (xs ++ ys) = lvs xs ++ lvs ys := List.map_append ..
theorem own_zero (w : World) (q : Nat) (hq : q ≤ 1000000) : (w.alloc (.cells (madeCells #[.int .u32 0] q) 40)).ownsRow w.heap.size 40 1 (.slice (some ⟨w.heap.size, 0, none⟩) q q) q (lvs (List.replicate q 0)) := by
 have h := World.ownsRow_lit (base := w.heap.size) (e := 40) (size := 1) w (madeCells #[.int .u32 0] q) q (Nat.le_refl _) (by unfold maxLen; omega) (by rw [size_madeCells]; simp)
 have e : (madeCells #[Value.int .u32 0] q).toList = lvs (List.replicate q 0) := by
  rw [toList_madeCells_one]
  unfold lvs
  rw [List.map_replicate]
  rfl
 rw [e] at h
 exact h
theorem natUp_ok (ao : Option Addr) (n c k : Nat) (ys : List Nat) (w : World) (h : Sl w ao n c ys) (hc : chk ys = 0) (h0 : val ys ≠ 0) (hk : k + szN ys ≤ 524288) :
 Calls Tryz.prog 41 #[.agg #[.slice ao n c], .int .i64 k] w (Numb w (val ys * 2 ^ k) 0) := by
 obtain ⟨i0, hi0, hy0, hy1, hy2⟩ := info_parts u32_infoL
 have hn : n ≤ 16384 := by rw [← h.len]; exact chk_zero_len hc
 have hb0 : bitsN ys = (szN ys : Int) := by unfold bitsN; rw [if_pos hc]
 have hn0 : n ≠ 0 := fun hh => h0 ((val_zero_iff h.ok hc).2 (h.len.trans hh))
 have hsz : szN ys ≠ 0 := by
  have hl := h.len
  rw [szN_pos (by omega)]
  intro hz
  have h1 : Lib.bitLen (nth ys (ys.length - 1)) = 0 := by omega
  have h2 : nth ys (ys.length - 1) ≠ 0 := fun hh => by
   unfold chk at hc
   rw [if_neg (by omega), if_pos ⟨by omega, hh⟩] at hc
   cases hc
  have h3 := (Lib.bitLenAux_bounds 64 (nth ys (ys.length - 1)) (by have := nth_lt h.ok (ys.length - 1); omega) h2).1
  have h4 : Lib.bitLen (nth ys (ys.length - 1)) = Lib.bitLenAux 64 (nth ys (ys.length - 1)) := rfl
  omega
 obtain ⟨z, hz⟩ : ∃ z, z = szN ys := ⟨_, rfl⟩
 rw [← hz] at hb0 hk hsz
 have hmk : ∀ W : World, (Instr.makeSlice 25 (.int .i64 ((k : Int) / 32)) (.int .i64 ((k : Int) / 32))).run Tryz.prog W = .ok (.slice (some ⟨W.heap.size, 0, none⟩) (k / 32) (k / 32)) (W.alloc (.cells (madeCells #[.int .u32 0] (k / 32)) 40)) := fun W => by
  have := run_make_row' (P := Tryz.prog) 25 40 (.int .u32 0) 4 Tryz.underlying25 u32_infoL rfl .i64 .i64 (k / 32) (by omega) (by omega) W
  rw [show ((k / 32 : Nat) : Int) = (k : Int) / 32 by omega] at this
  exact this
 have hmod : (k : Int).tmod 32 = ((k % 32 : Nat) : Int) := by rw [Int.tmod_eq_emod_of_nonneg (by omega)]; omega
 have hwq : IntKind.i64.wrap ((k : Int) / 32) = (k : Int) / 32 := IntWalk.i64_in _ (by omega)
 have Hm := Lib.hid hmod
 have hm : k % 32 < 32 := by omega
 have hcB : (chk ys != 0) = false := by simp [hc]
 have hzB : ((z : Int) == 0) = false := by simp; omega
 have hgt : ¬ ((524288 : Int) - (z : Int) < (k : Int)) := by omega
 clear hmod hz
 go_enter Tryz.func41, Tryz.ntmps41
 go_wp2_with (go_at_call 79; refine (natBits_any ao n c ys _ ((h.alloc _).alloc _)).mono ?_; rintro e w1 ⟨rfl, hb1⟩; rw [hb0]; have A := ((box1_new w _ _).alloc _).stay hb1; have B := (box1_new _ _ _).stay hb1; rw [World.size_alloc] at B; have ⟨a0, az⟩ := A; have ⟨b0, bz⟩ := B; have hW := next (more (more (Below.refl _ _) _) _) hb1)
 rename_i K hK
 have hS1 := ((h.alloc (.cells #[.slice ao n c] 27)).alloc (.cells #[.slice none 0 0] 27)).below hb1
 have hl1 := A.lt
 have hl2 := B.lt
 have hok : Ok (List.replicate (k / 32) 0 ++ upL (k % 32) ys) := ok_append (ok_replicate _) (ok_upL hm h.ok)
 have hvu := Lib.hid (val_up ys k)
 go_region_law? (first
  | (refine step_append_lies _ rfl (.tmp 34) (.tmp 39) 25 rfl w1.heap.size 40 i0 (.int .u32 0) 1 4 Tryz.underlying25 hi0 hy0 hy1 hy2 rfl Nat.zero_lt_one (.slice (some ⟨w1.heap.size, 0, none⟩) (k / 32) (k / 32)) (k / 32) (lvs (List.replicate (k / 32) 0)) ?_ ?_ ⟨gS, 0, none⟩ (n + 1) (n + 1) (lvs (upL (k % 32) ys)) ?_ ?_ ?_ (lvs_oneCell _) (Nat.succ_pos n) ?_ ?_ ?_ _ rfl ?_; (focus (first | rfl | simp [Act.eval])); (focus (exact hmS)); (focus (first | rfl | simp [Act.eval, Act.put])); (focus (rw [lvs_len, upL_length, h.len]; omega)); (focus (exact (own_sl hoS (ok_upL hm h.ok)).news)); (focus (unfold maxLen; omega)); (focus omega); (focus (omega)); rintro gA cA wA hownA hgA hatA hltA; rw [← lvs_append] at hownA; have hWA := Below.grown hWS hgA (by omega) (by intro q hq; (obtain rfl : w1.heap.size = q := Option.some.inj hq); omega); (have ⟨b0, bz⟩ := B.stay hWA))
  | (refine step_append_lies _ rfl (.tmp 34) (.tmp 39) 25 rfl w1.heap.size 40 i0 (.int .u32 0) 1 4 Tryz.underlying25 hi0 hy0 hy1 hy2 rfl Nat.zero_lt_one (.slice (some ⟨wS.heap.size, 0, none⟩) (k / 32) (k / 32)) (k / 32) (lvs (List.replicate (k / 32) 0)) ?_ ?_ ⟨gS, 0, none⟩ (n + 1) (n + 1) (lvs (upL (k % 32) ys)) ?_ ?_ ?_ (lvs_oneCell _) (Nat.succ_pos n) ?_ ?_ ?_ _ rfl ?_; (focus (first | rfl | simp [Act.eval, Act.put])); (focus (exact own_mono (own_zero wS (k / 32) (by omega)) hWSz)); (focus (first | rfl | simp [Act.eval, Act.put])); (focus (rw [lvs_len, upL_length, h.len]; omega)); (focus (exact ((own_sl hoS (ok_upL hm h.ok)).alloc _).news)); (focus (unfold maxLen; omega)); (focus omega); (focus (simp; omega)); rintro gA cA wA hownA hgA hatA hltA; rw [← lvs_append] at hownA; have hWA := Below.grown (more hWS _) hgA (by simp; omega) (by intro q hq; (obtain rfl : wS.heap.size = q := Option.some.inj hq); omega); (have ⟨b0, bz⟩ := B.stay hWA))
  | (go_simp; (go_at_call 80); (with_reducible refine (natShifted_i ao n c (k % 32) _ Hm.out ys _ ((hS1.alloc _).drew) hm hn).mono ?_); rintro en wS ⟨gS, rfl, hoS, hbS⟩; have hWS := next (more (Below.refl _ w1) _).drew hbS; have hmS := own_keep (own_zero w1 (k / 32) (by omega)).drew hbS; (have ⟨a0, az⟩ := A.stay hWS); (have ⟨b0, bz⟩ := B.stay hWS); have hWSz := hWS.size)
  | (go_simp; (go_at_call 80); (with_reducible refine (natShifted_i ao n c (k % 32) _ Hm.out ys _ hS1.drew hm hn).mono ?_); rintro en wS ⟨gS, rfl, hoS, hbS⟩; have hWS := undrew hbS; (have ⟨a0, az⟩ := A.stay hWS); (have ⟨b0, bz⟩ := B.stay hWS); have hWSz := hWS.size)
  | (go_simp; (go_at_call 72); refine (natTrimmed_row _ hownA hok).mono ?_; rintro en wT ⟨aT, kT, rfl, hFT, hbT⟩; rw [hvu.out] at hFT; have hWT := next hWA hbT; (have ⟨b0, bz⟩ := B.stay hWT)))
 all_goals
  have hF := (hFT.setCell (p := ⟨w.heap.size + 1, 0, none⟩) hl2 (.slice aT kT kT)).mono (base' := w.heap.size) (by omega)
  have hWW := (next hW hWT).setCell (p := ⟨w.heap.size + 1, 0, none⟩) (by simp) (.slice aT kT kT)
  refine hK _ _ ?_
  go_wp2
  refine bodyPost_ret (v := .tuple #[.agg #[.slice aT kT kT], .int .i64 0]) (by simp [results, Tryz.results41, go_sem, World.cell?_setCell_same _ _ _ b0]) rfl ⟨aT, kT, kT, rfl, hF, hWW⟩
theorem natCmpL_any (a1 a2 : Option Addr) (n1 n2 c1 c2 : Nat) (xs ys : List Nat) (w : World) (h1 : Sl w a1 n1 c1 xs) (h2 : Sl w a2 n2 c2 ys) (hx : chk xs = 0) (hy : chk ys = 0) :
 Calls Tryz.prog 118 #[.slice a1 n1 c1, .slice a2 n2 c2] w fun e w' => e = .returned (.int .i64 (cmpN (val xs) (val ys))) ∧ Below w.heap.size w w' := by
 have fx := fine_of_chk h1.ok hx
 have fy := fine_of_chk h2.ok hy
 have lx := h1.len
 have ly := h2.len
 have hle := h1.le
 have hcap := h1.cap
 rcases Nat.lt_trichotomy n1 n2 with hl | hl | hl
 · have H := Lib.hid (cmpN_lt (cmp_len h1.ok fy (by omega)))
   have hli : (n1 : Int) < (n2 : Int) := by omega
   clear h1 h2 hx hy fx fy lx ly
   go_enter Tryz.func118, Tryz.ntmps118
   go_wp2
   go_ret
   exact ⟨by rw [H.out]; rfl, Below.refl _ _⟩
 · subst hl
   go_enter Tryz.func118, Tryz.ntmps118
   go_wp2
   go_loopw [5] (fun i wr => ∃ k m : Nat, k ≤ n1 ∧ i = .int .i64 ((k : Int) - 1) ∧ wr = w.drewN m ∧ Hid (∀ j, k ≤ j → j < n1 → nth xs j = nth ys j)) (fun i _ => (intOf i + 1).toNat)
   case atStart => exact ⟨n1, 0, by omega, rfl, rfl, Lib.hid (fun j h1 h2 => absurd h2 (by omega))⟩
   case round =>
    obtain ⟨k, m, hk, rfl, rfl, HA⟩ := hrel
    by_cases h0 : k = 0
    · subst h0
      have he : xs = ys := ext_nth (by omega) fun j hj => HA.out j (by omega) (by omega)
      have H := Lib.hid (cmpN_eq (congrArg val he))
      clear he
      go_wp2
      go_ret
      exact ⟨by rw [H.out]; rfl, drewn (Below.refl _ _) _⟩
    · obtain ⟨j, rfl⟩ : ∃ j, k = j + 1 := ⟨k - 1, by omega⟩
      obtain ⟨b1, o1, rfl, hb1, hc1⟩ := h1.at_ (by omega)
      obtain ⟨b2, o2, rfl, hb2, hc2⟩ := h2.at_ (by omega)
      have k1 := hc1 j (by omega)
      have k2 := hc2 j (by omega)
      have hj0 : (0 : Int) ≤ (j : Int) := by omega
      have hjn : (j : Int) < (n1 : Int) := by omega
      rcases Nat.lt_trichotomy (nth xs j) (nth ys j) with hq | hq | hq
      · have H := Lib.hid (cmpN_lt (cmp_at h1.ok (by omega) (by omega) (fun i hi hi2 => HA.out i (by omega) (by omega)) hq))
        have d1 : nth xs j < nth ys j := hq
        clear hc1 hc2 h1 h2 fx fy lx ly hq
        go_wp2
        go_quiet (fail)
        go_wp2
        go_ret
        exact ⟨by rw [H.out]; rfl, drewn (drewn (Below.refl _ _) _) _⟩
      · have d1 : ¬ nth xs j < nth ys j := by omega
        have d2 : ¬ nth ys j < nth xs j := by omega
        have HQ := Lib.hid hq
        clear hc1 hc2 hq
        go_wp2
        go_quiet (fail)
        go_wp2
        go_quiet (fail)
        go_wp2
        go_roundw
        case rel => exact ⟨j, _, by omega, by go_num, rfl, Lib.hid (fun i hi hi2 => by
         by_cases e : i = j
         · rw [e]; exact HQ.out
         · exact HA.out i (by omega) hi2)⟩
        case measure => simp [intOf]
      · have H := Lib.hid (cmpN_gt (cmp_at h2.ok (by omega) (by omega) (fun i hi hi2 => (HA.out i (by omega) (by omega)).symm) hq))
        have d1 : ¬ nth xs j < nth ys j := by omega
        have d2 : nth ys j < nth xs j := hq
        clear hc1 hc2 h1 h2 fx fy lx ly hq
        go_wp2
        go_quiet (fail)
        go_wp2
        go_quiet (fail)
        go_wp2
        go_ret
        exact ⟨by rw [H.out]; rfl, drewn (drewn (drewn (Below.refl _ _) _) _) _⟩
 · have H := Lib.hid (cmpN_gt (cmp_len h2.ok fx (by omega)))
   have hli : (n2 : Int) < (n1 : Int) := by omega
   clear h1 h2 hx hy fx fy lx ly
   go_enter Tryz.func118, Tryz.ntmps118
   go_wp2
   go_ret
   exact ⟨by rw [H.out]; rfl, Below.refl _ _⟩
theorem add32_any (x y c : Nat) (w : World) (hx : x < 4294967296) (hy : y < 4294967296) (hc : c ≤ 1) :
 Calls Tryz.prog 116 #[.int .u32 x, .int .u32 y, .int .u32 c] w fun e w' => e = .returned (.tuple #[.int .u32 (((x + y + c) % 4294967296 : Nat) : Int), .int .u32 (((x + y + c) / 4294967296 : Nat) : Int)]) ∧ w = w' := by
 go_enter Tryz.func116, Tryz.ntmps116
 go_wp2
 refine bodyPost_ret (v := .tuple #[.int .u32 (((x : Int) + y + c) % 4294967296), .int .u32 (((x : Int) + y + c) / 4294967296)]) (by simp [results, Tryz.results116, go_sem]) rfl ⟨by simp, rfl⟩
theorem u32_xor_nat (a b : Nat) (ha : a < 4294967296) (hb : b < 4294967296) : bits .xor .u32 (a : Int) (b : Int) = ((a ^^^ b : Nat) : Int) := by
 have hx : a ^^^ b < 2 ^ 32 := Nat.xor_lt_two_pow (by omega) (by omega)
 have h1 : (BitVec.ofInt 32 (a : Int)).toNat = a := by
  rw [BitVec.ofInt_natCast, BitVec.toNat_ofNat]; exact Nat.mod_eq_of_lt (by omega)
 have h2 : (BitVec.ofInt 32 (b : Int)).toNat = b := by
  rw [BitVec.ofInt_natCast, BitVec.toNat_ofNat]; exact Nat.mod_eq_of_lt (by omega)
 show IntKind.u32.wrap ((BitVec.ofInt 32 (a : Int) ^^^ BitVec.ofInt 32 (b : Int)).toNat : Int) = _
 rw [BitVec.toNat_xor, h1, h2, show ∀ n : Int, IntKind.u32.wrap n = n % 4294967296 from fun n => by simp [IntKind.wrap, IntKind.signed, IntKind.bits]]
 omega
theorem top_bit {v : Nat} (h : v < 4294967296) : v / 2147483648 = (v.testBit 31).toNat := by
 rw [Nat.testBit_eq_decide_div_mod_eq]
 have : v / 2 ^ 31 % 2 = v / 2147483648 := by omega
 rw [this]
 by_cases hv : v / 2147483648 = 1
 · simp [hv]
 · have : v / 2147483648 = 0 := by omega
   simp [this]
theorem bit_top {v : Nat} (h : v < 4294967296) : v.testBit 31 = decide (2147483648 ≤ v) := by
 rw [Nat.testBit_eq_decide_div_mod_eq]
 exact decide_eq_decide.2 (by omega)
theorem lent_bits {x y c : Nat} (hx : x < 4294967296) (hy : y < 4294967296) (hc : c ≤ 1) :
 (((4294967295 ^^^ x) &&& y) ||| ((4294967295 ^^^ (x ^^^ y)) &&& sbD x y c)) / 2147483648 = sbC x y c := by
 have hd : sbD x y c < 4294967296 := by unfold sbD; omega
 have b1 : (4294967295 ^^^ x) &&& y < 2 ^ 32 := Nat.and_lt_two_pow _ (by omega)
 have b2 : (4294967295 ^^^ (x ^^^ y)) &&& sbD x y c < 2 ^ 32 := Nat.and_lt_two_pow _ (by omega)
 have b3 := Nat.or_lt_two_pow b1 b2
 rw [top_bit (by omega), Nat.testBit_or, Nat.testBit_and, Nat.testBit_and, Nat.testBit_xor, Nat.testBit_xor, Nat.testBit_xor, bit_top hx, bit_top hy, bit_top hd, show Nat.testBit 4294967295 31 = true by decide]
 unfold sbC sbD at *
 by_cases h1 : 2147483648 ≤ x <;> by_cases h2 : 2147483648 ≤ y <;> simp only [h1, h2, decide_true, decide_false, Bool.not_false, Bool.false_and, Bool.true_and, Bool.and_true, Bool.and_false, Bool.xor_false, Bool.xor_true, Bool.xor_self, Bool.false_or, Bool.or_false, Bool.toNat_true, Bool.toNat_false]
 · by_cases h3 : 2147483648 ≤ (x + 4294967296 - y - c) % 4294967296
   · rw [decide_eq_true h3, if_pos (by omega)]; rfl
   · rw [decide_eq_false h3, if_neg (by omega)]; rfl
 · rw [if_neg (by omega)]
 · rw [if_pos (by omega)]
 · by_cases h3 : 2147483648 ≤ (x + 4294967296 - y - c) % 4294967296
   · rw [decide_eq_true h3, if_pos (by omega)]; rfl
   · rw [decide_eq_false h3, if_neg (by omega)]; rfl
theorem sub32_any (x y c : Nat) (w : World) (hx : x < 4294967296) (hy : y < 4294967296) (hc : c ≤ 1) :
 Calls Tryz.prog 119 #[.int .u32 x, .int .u32 y, .int .u32 c] w fun e w' => e = .returned (.tuple #[.int .u32 (sbD x y c : Int), .int .u32 (sbC x y c : Int)]) ∧ w = w' := by
 have hd : sbD x y c < 4294967296 := by unfold sbD; omega
 have hD : ((x : Int) - y - c) % 4294967296 = (sbD x y c : Int) := by unfold sbD; omega
 have b0 : 4294967295 ^^^ x < 2 ^ 32 := Nat.xor_lt_two_pow (by omega) (by omega)
 have b00 : x ^^^ y < 2 ^ 32 := Nat.xor_lt_two_pow (by omega) (by omega)
 have b01 : 4294967295 ^^^ (x ^^^ y) < 2 ^ 32 := Nat.xor_lt_two_pow (by omega) (by omega)
 have b1 : (4294967295 ^^^ x) &&& y < 2 ^ 32 := Nat.and_lt_two_pow _ (by omega)
 have b2 : (4294967295 ^^^ (x ^^^ y)) &&& sbD x y c < 2 ^ 32 := Nat.and_lt_two_pow _ (by omega)
 have hm : IntKind.u32.max = ((4294967295 : Nat) : Int) := by decide
 have hE : (bits BinOp.or IntKind.u32 (bits BinOp.and IntKind.u32 (bits BinOp.xor IntKind.u32 IntKind.u32.max (x : Int)) (y : Int)) (bits BinOp.and IntKind.u32 (bits BinOp.xor IntKind.u32 IntKind.u32.max (bits BinOp.xor IntKind.u32 (x : Int) (y : Int))) (((x : Int) - y - c) % 4294967296))) / 2147483648 = (sbC x y c : Int) := by
  rw [hD, hm, u32_xor_nat _ _ (by omega) hx, u32_xor_nat _ _ hx hy, u32_xor_nat _ _ (by omega) (by omega), u32_and_nat _ _ (by omega) hy, u32_and_nat _ _ (by omega) hd, u32_or_nat _ _ (by omega) (by omega)]
  exact congrArg Int.ofNat (lent_bits hx hy hc)
 have H1 := Lib.hid hD
 have H2 := Lib.hid hE
 clear hE hD hm b0 b00 b01 b1 b2
 go_enter Tryz.func119, Tryz.ntmps119
 go_wp2
 rw [H2.out, H1.out]
 refine bodyPost_ret (v := .tuple #[.int .u32 (sbD x y c : Int), .int .u32 (sbC x y c : Int)]) (by simp [results, Tryz.results119, go_sem]) rfl ⟨rfl, rfl⟩
theorem natChecks_two (a1 a2 : Option Addr) (n1 n2 c1 c2 b : Nat) (xs ys : List Nat) (w : World) (h1 : Sl w a1 n1 c1 xs) (h2 : Sl w a2 n2 c2 ys) (hx : chk xs = 0) (hy : chk ys = 0)
 (d0 : w.cell? ⟨b, 0, none⟩ = some (.slice a1 n1 c1)) (d1 : w.cell? ⟨b, 1, none⟩ = some (.slice a2 n2 c2)) :
 Calls Tryz.prog 115 #[.slice (some ⟨b, 0, none⟩) 2 2] w fun e w' => e = .returned (.int .i64 0) ∧ Below w.heap.size w w' := by
 go_enter Tryz.func115, Tryz.ntmps115
 go_wp2
 go_loopw [8] (fun i wr => ∃ k : Nat, k ≤ 2 ∧ i = .int .i64 k ∧ Below w.heap.size w wr) (fun i _ => 2 - (intOf i).toNat)
 case atStart => exact ⟨0, by omega, rfl, Below.refl _ _⟩
 case round =>
  obtain ⟨k, hk, rfl, hW⟩ := hrel
  have e0 := cellStay d0 hW
  have e1 := cellStay d1 hW
  have s1 := h1.below hW
  have s2 := h2.below hW
  have hxB : (chk xs != 0) = false := by simp [hx]
  have hyB : (chk ys != 0) = false := by simp [hy]
  obtain rfl | rfl | rfl : k = 0 ∨ k = 1 ∨ k = 2 := by omega
  · clear hk
    go_wp2_with (go_at_call 67; refine (natCheck_any a1 n1 c1 xs _ (s1.alloc _)).mono ?_; rintro e w1 ⟨rfl, hb1⟩; replace hW := next (more hW _) hb1)
    exact ⟨⟨1, by omega, rfl, hW⟩, by simp [intOf]⟩
  · clear hk
    go_wp2_with (go_at_call 67; refine (natCheck_any a2 n2 c2 ys _ (s2.alloc _)).mono ?_; rintro e w1 ⟨rfl, hb1⟩; replace hW := next (more hW _) hb1)
    exact ⟨⟨2, by omega, rfl, hW⟩, by simp [intOf]⟩
  · go_wp2
    go_ret
    exact ⟨rfl, hW⟩
theorem natTrimmed_was {base g n cap : Nat} {ys : List Nat} (w wp : World) (h : w.ownsRow base 40 1 (.slice (some ⟨g, 0, none⟩) n cap) n (lvs ys)) (hok : Ok ys) (hp : Below w.heap.size w wp) :
 Calls Tryz.prog 72 #[.slice (some ⟨g, 0, none⟩) n cap] wp fun e w' => ∃ ao k, e = .returned (.agg #[.slice ao k k]) ∧ Fr 40 w base ao k k (limbs (val ys)) ∧ Below wp.heap.size wp w' := by
 refine (natTrimmed_any _ n cap ys wp ((own_sl h hok).below hp)).mono ?_
 rintro e w' ⟨k, hk, rfl, hv, hb⟩
 refine ⟨_, k, rfl, ?_, hb⟩
 have hcap := (own_cap h).1
 by_cases h0 : k = 0
 · subst h0
   rw [if_pos rfl, ← hv]
   exact fr_nil _ _ _
 · rw [if_neg h0, ← hv]
   exact fr_own h hok hk (Nat.le_refl _) (by omega)
theorem natFits_any {g n : Nat} {ys : List Nat} {base : Nat} (w : World) (h : w.ownsRow base 40 1 (.slice (some ⟨g, 0, none⟩) n n) n (lvs ys)) (hok : Ok ys) :
 Calls Tryz.prog 117 #[.slice (some ⟨g, 0, none⟩) n n] w fun e w' => ∃ ao k c, e = .returned (.tuple #[.agg #[.slice ao k c], .int .i64 (bigE (val ys))]) ∧ Fr 40 w' base ao k c (limbs (bigN (val ys))) ∧ Below w.heap.size w w' := by
 go_enter Tryz.func117, Tryz.ntmps117
 go_wp2_with (go_at_call 72; refine (natTrimmed_was w _ h hok ((Below.refl _ _).alloc (Nat.le_refl _) _)).mono ?_; rintro e w1 ⟨ao, k, rfl, hF, hb1⟩; have hl := hF.sl.len; have B := (box1_new w _ _).stay hb1; have hlt := B.lt; have ⟨b0, bz⟩ := B; have hW := next (more (Below.refl _ _) _) hb1; by_cases hk : k ≤ 16384)
 · have hB := bigE_ok (N := val ys) (by omega)
   have hWW := more (hW.setCell (p := ⟨w.heap.size, 0, none⟩) (Nat.le_refl _) (.slice ao k k)) (.cells #[.slice ao k k] 27)
   refine bodyPost_ret (v := .tuple #[.agg #[.slice ao k k], .int .i64 0]) (by simp [results, Tryz.results117, go_sem, hlt, B.set (.slice ao k k)]) rfl ⟨ao, k, k, by rw [hB.1], ?_, hWW⟩
   rw [hB.2]
   exact hF.below hWW
 · have hB := bigE_many (N := val ys) (by omega)
   have hWW := more (hW.setCell (p := ⟨w.heap.size, 0, none⟩) (Nat.le_refl _) (.slice none 0 0)) (.cells #[.slice ao k k] 27)
   refine bodyPost_ret (v := .tuple #[.agg #[.slice none 0 0], .int .i64 4]) (by simp [results, Tryz.results117, go_sem, hlt, B.set (.slice none 0 0)]) rfl ⟨none, 0, 0, by rw [hB.1], ?_, hWW⟩
   rw [hB.2]
   exact fr_nil _ _ _
end Go.Proofs.YtpmncmglmobjoaaGreatDoor
