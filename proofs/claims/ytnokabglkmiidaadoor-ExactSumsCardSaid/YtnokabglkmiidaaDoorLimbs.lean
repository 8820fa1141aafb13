/-
  Plain lemmas on lists of limbs of 32 bits, the lowest first: what a list is worth (val), the one list without a limb 0 at its end that is worth a number (limbs). No program in sight.
-/
namespace Go.Lb

/-- What a list of limbs is worth. -/
def val : List Nat → Nat
  | [] => 0
  | x :: xs => x + 4294967296 * val xs

/-- All limbs have 32 bits. -/
def Ok (xs : List Nat) : Prop := ∀ x ∈ xs, x < 4294967296

/-- The list of a number, with fuel. -/
def limbsAux : Nat → Nat → List Nat
  | 0, _ => []
  | f + 1, n => if n = 0 then [] else n % 4294967296 :: limbsAux f (n / 4294967296)

/-- The one list of a number that has no limb 0 at its end. -/
def limbs (n : Nat) : List Nat := limbsAux n n

theorem limbsAux_fuel : ∀ (f g n : Nat), n ≤ f → n ≤ g → limbsAux f n = limbsAux g n := by
  intro f
  induction f with
  | zero => intro g n h1 _; have : n = 0 := by omega
            subst this; cases g <;> simp [limbsAux]
  | succ f ih =>
    intro g n h1 h2
    cases g with
    | zero => have : n = 0 := by omega
              subst this; simp [limbsAux]
    | succ g =>
      simp only [limbsAux]
      by_cases h : n = 0
      · simp [h]
      · rw [if_neg h, if_neg h, ih g (n / 4294967296) (by omega) (by omega)]

theorem limbs_zero : limbs 0 = [] := rfl

theorem limbs_pos {n : Nat} (h : n ≠ 0) : limbs n = n % 4294967296 :: limbs (n / 4294967296) := by
  unfold limbs
  obtain ⟨m, rfl⟩ : ∃ m, n = m + 1 := ⟨n - 1, by omega⟩
  rw [limbsAux, if_neg h, limbsAux_fuel m ((m + 1) / 4294967296) _ (by omega) (Nat.le_refl _)]

theorem val_limbs : ∀ (f n : Nat), n ≤ f → val (limbs n) = n := by
  intro f
  induction f with
  | zero => intro n h; have : n = 0 := by omega
            subst this; rfl
  | succ f ih =>
    intro n h
    by_cases h0 : n = 0
    · subst h0; rfl
    · rw [limbs_pos h0, val, ih (n / 4294967296) (by omega)]; omega

theorem val_limbs' (n : Nat) : val (limbs n) = n := val_limbs n n (Nat.le_refl _)

theorem ok_limbs_aux : ∀ (f n : Nat), n ≤ f → Ok (limbs n) := by
  intro f
  induction f with
  | zero => intro n h; have : n = 0 := by omega
            subst this; intro x hx; cases hx
  | succ f ih =>
    intro n h
    by_cases h0 : n = 0
    · subst h0; intro x hx; cases hx
    · rw [limbs_pos h0]
      intro x hx
      rcases List.mem_cons.1 hx with rfl | hx
      · omega
      · exact ih _ (by omega) x hx

theorem ok_limbs (n : Nat) : Ok (limbs n) := ok_limbs_aux n n (Nat.le_refl _)

theorem limbs_eq_nil {n : Nat} : limbs n = [] ↔ n = 0 := by
  constructor
  · intro h
    by_cases h0 : n = 0
    · exact h0
    · rw [limbs_pos h0] at h; cases h
  · rintro rfl; rfl

/-- No limb 0 at the end. -/
def Fine (xs : List Nat) : Prop := Ok xs ∧ xs.getLast? ≠ some 0

theorem fine_tail {x : Nat} {xs : List Nat} (h : Fine (x :: xs)) : Fine xs := by
  refine ⟨fun y hy => h.1 y (List.mem_cons_of_mem _ hy), ?_⟩
  cases xs with
  | nil => simp
  | cons y ys => have := h.2; rw [List.getLast?_cons_cons] at this; exact this

theorem val_pos_of_fine : ∀ {xs : List Nat}, Fine xs → xs ≠ [] → 0 < val xs := by
  intro xs
  induction xs with
  | nil => intro _ h; exact absurd rfl h
  | cons x xs ih =>
    intro h _
    by_cases hx : xs = []
    · subst hx
      have := h.2
      simp at this
      simp [val]; omega
    · have := ih (fine_tail h) hx
      simp only [val]; omega

theorem limbs_val : ∀ {xs : List Nat}, Fine xs → limbs (val xs) = xs := by
  intro xs
  induction xs with
  | nil => intro _; rfl
  | cons x xs ih =>
    intro h
    have hp := val_pos_of_fine h (by simp)
    have hx : x < 4294967296 := h.1 x (by simp)
    rw [limbs_pos (by omega)]
    have e1 : val (x :: xs) % 4294967296 = x := by simp only [val]; omega
    have e2 : val (x :: xs) / 4294967296 = val xs := by simp only [val]; omega
    rw [e1, e2, ih (fine_tail h)]

theorem getLast?_limbs_aux : ∀ (f n : Nat), n ≤ f → (limbs n).getLast? ≠ some 0 := by
  intro f
  induction f with
  | zero => intro n h; have : n = 0 := by omega
            subst this; simp [limbs_zero]
  | succ f ih =>
    intro n h
    by_cases h0 : n = 0
    · subst h0; simp [limbs_zero]
    · rw [limbs_pos h0]
      by_cases hq : n / 4294967296 = 0
      · rw [hq, limbs_zero]; simp; omega
      · have := ih (n / 4294967296) (by omega)
        rw [limbs_pos hq] at this ⊢
        rw [List.getLast?_cons_cons]
        exact this

theorem fine_limbs (n : Nat) : Fine (limbs n) := ⟨ok_limbs n, getLast?_limbs_aux n n (Nat.le_refl _)⟩

theorem limbs_inj {m n : Nat} (h : limbs m = limbs n) : m = n := by
  rw [← val_limbs' m, h, val_limbs']

theorem val_inj {xs ys : List Nat} (hx : Fine xs) (hy : Fine ys) (h : val xs = val ys) : xs = ys := by
  rw [← limbs_val hx, ← limbs_val hy, h]

theorem val_append (xs ys : List Nat) : val (xs ++ ys) = val xs + 4294967296 ^ xs.length * val ys := by
  induction xs with
  | nil => simp [val]
  | cons x xs ih =>
    simp only [List.cons_append, val, ih, List.length_cons, Nat.pow_succ]
    rw [Nat.mul_add, Nat.mul_comm (4294967296 ^ xs.length) 4294967296, Nat.mul_assoc]
    omega

theorem val_lt {xs : List Nat} (h : Ok xs) : val xs < 4294967296 ^ xs.length := by
  induction xs with
  | nil => simp [val]
  | cons x xs ih =>
    have hx : x < 4294967296 := h x (by simp)
    have := ih (fun y hy => h y (List.mem_cons_of_mem _ hy))
    simp only [val, List.length_cons, Nat.pow_succ]
    generalize 4294967296 ^ xs.length = P at *
    omega

theorem ok_take {xs : List Nat} (h : Ok xs) (n : Nat) : Ok (xs.take n) := fun x hx => h x (List.mem_of_mem_take hx)
theorem ok_drop {xs : List Nat} (h : Ok xs) (n : Nat) : Ok (xs.drop n) := fun x hx => h x (List.mem_of_mem_drop hx)
theorem ok_nil : Ok [] := fun _ h => by cases h
theorem ok_append {xs ys : List Nat} (h : Ok xs) (h' : Ok ys) : Ok (xs ++ ys) := fun x hx => (List.mem_append.1 hx).elim (h x) (h' x)
theorem ok_cons {x : Nat} {xs : List Nat} (h : x < 4294967296) (h' : Ok xs) : Ok (x :: xs) := fun y hy => by
  rcases List.mem_cons.1 hy with rfl | hy
  · exact h
  · exact h' y hy
theorem ok_replicate (n : Nat) : Ok (List.replicate n 0) := fun x hx => by
  rw [List.eq_of_mem_replicate hx]; decide
theorem ok_set {xs : List Nat} (h : Ok xs) {v : Nat} (hv : v < 4294967296) (i : Nat) : Ok (xs.set i v) := fun x hx => by
  rcases List.mem_or_eq_of_mem_set hx with hx | rfl
  · exact h x hx
  · exact hv
theorem ok_getD {xs : List Nat} (h : Ok xs) (i : Nat) : xs.getD i 0 < 4294967296 := by
  rw [List.getD_eq_getElem?_getD]
  by_cases hi : i < xs.length
  · rw [List.getElem?_eq_getElem hi]; exact h _ (List.getElem_mem hi)
  · rw [List.getElem?_eq_none (by omega)]; decide

theorem val_replicate (n : Nat) : val (List.replicate n 0) = 0 := by
  induction n with
  | zero => rfl
  | succ n ih => rw [List.replicate_succ, val, ih]

theorem val_zeros {xs : List Nat} (h : ∀ x ∈ xs, x = 0) : val xs = 0 := by
  induction xs with
  | nil => rfl
  | cons x xs ih => rw [val, ih (fun y hy => h y (List.mem_cons_of_mem _ hy)), h x (by simp)]

theorem take_succ_getD {xs : List Nat} {k : Nat} (h : k < xs.length) : xs.take (k + 1) = xs.take k ++ [xs.getD k 0] := by
  rw [List.take_succ_eq_append_getElem h, List.getD_eq_getElem?_getD, List.getElem?_eq_getElem h]; rfl

theorem val_take_succ {xs : List Nat} {k : Nat} (h : k < xs.length) : val (xs.take (k + 1)) = val (xs.take k) + 4294967296 ^ k * xs.getD k 0 := by
  rw [take_succ_getD h, val_append, List.length_take, Nat.min_eq_left (by omega)]; simp [val]

theorem val_split (xs : List Nat) (k : Nat) (h : k ≤ xs.length) : val xs = val (xs.take k) + 4294967296 ^ k * val (xs.drop k) := by
  conv => lhs; rw [← List.take_append_drop k xs]
  rw [val_append, List.length_take, Nat.min_eq_left h]

/-- A list cut behind its last limb that is not 0: the list of what it is worth. -/
theorem take_eq_limbs {xs : List Nat} {n : Nat} (hok : Ok xs) (hn : n ≤ xs.length) (hz : ∀ j, n ≤ j → j < xs.length → xs.getD j 0 = 0) (hl : n = 0 ∨ xs.getD (n - 1) 0 ≠ 0) :
    xs.take n = limbs (val xs) := by
  have hd : val (xs.drop n) = 0 := by
    apply val_zeros
    intro x hx
    obtain ⟨i, hi, rfl⟩ := List.getElem_of_mem hx
    have := hz (n + i) (by omega) (by simp at hi; omega)
    rw [List.getD_eq_getElem?_getD, List.getElem?_eq_getElem (by simp at hi; omega)] at this
    simpa using this
  have hv : val xs = val (xs.take n) := by rw [val_split xs n hn, hd]; omega
  rw [hv]
  refine (limbs_val ⟨ok_take hok n, ?_⟩).symm
  rcases hl with rfl | hl
  · simp
  · by_cases h0 : n = 0
    · subst h0; simp
    · rw [List.getLast?_eq_getElem?, List.length_take, Nat.min_eq_left hn, List.getElem?_take, if_pos (by omega)]
      rw [List.getD_eq_getElem?_getD, List.getElem?_eq_getElem (by omega)] at hl
      rw [List.getElem?_eq_getElem (by omega)]
      intro h
      exact hl (by simpa using h)

/-- The number of limbs, by powers. -/
theorem limbs_length_le {n k : Nat} (h : n < 4294967296 ^ k) : (limbs n).length ≤ k := by
  induction k generalizing n with
  | zero => have : n = 0 := by simpa using h
            subst this; simp [limbs_zero]
  | succ k ih =>
    by_cases h0 : n = 0
    · subst h0; simp [limbs_zero]
    · rw [limbs_pos h0, List.length_cons]
      have := ih (n := n / 4294967296) (by rw [Nat.pow_succ] at h; omega)
      omega

theorem lt_of_limbs_length {n k : Nat} (h : (limbs n).length ≤ k) : n < 4294967296 ^ k := by
  have h1 := val_lt (ok_limbs n)
  rw [val_limbs'] at h1
  exact Nat.lt_of_lt_of_le h1 (Nat.pow_le_pow_right (by decide) h)

theorem limbs_length_le_iff {n k : Nat} : (limbs n).length ≤ k ↔ n < 4294967296 ^ k := ⟨lt_of_limbs_length, limbs_length_le⟩

end Go.Lb
