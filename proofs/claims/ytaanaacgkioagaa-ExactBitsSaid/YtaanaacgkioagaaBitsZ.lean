/-
  Both texts of Bits, all ways together: what they answer is one and the same.
-/
import Derived.Test.YtaanaacgkioagaaBitsX
import Derived.Test.YtaanaacgkioagaaRefBitsB
namespace Go.Proofs.Ytaanaacgkioagaa
open Go.RowKit Go.Lb

theorem bitsP_all (e f : Nat) (neg : Bool) (s m : Nat) (x : Int) (G : Nat → Bool → Prop)
    (g1 : f + 1 < s → x + s - 1 + biasN e < 1 → G 0 false) (g2 : f + 1 < s → 1 ≤ x + s - 1 + biasN e → G 0 false)
    (g3 : s ≤ f + 1 → 1 ≤ x + s - 1 + biasN e → 2 * (biasN e : Int) < x + s - 1 + biasN e → G 0 false)
    (g4 : s ≤ f + 1 → x + s - 1 + biasN e < 1 → x < 1 - (biasN e : Int) - f → G 0 false)
    (g5 : s ≤ f + 1 → 1 ≤ x + s - 1 + biasN e → ¬ 2 * (biasN e : Int) < x + s - 1 + biasN e → G (joinN e f neg (x + s - 1 + biasN e).toNat (m * pw (f + 1 - s) - pw f)) true)
    (g6 : s ≤ f + 1 → x + s - 1 + biasN e < 1 → ¬ x < 1 - (biasN e : Int) - f → G (joinN e f neg 0 (m * pw (x - (1 - (biasN e : Int) - f)).toNat)) true) :
    G (bitsP e f neg s m x).1 (bitsP e f neg s m x).2 := by
  unfold bitsP
  by_cases hA : f + 1 < s
  · rw [if_pos hA]
    by_cases hB : 1 ≤ x + s - 1 + biasN e
    · exact g2 hA hB
    · exact g1 hA (by omega)
  · rw [if_neg hA]
    by_cases hB : 1 ≤ x + s - 1 + biasN e
    · rw [if_pos hB]
      by_cases hC : 2 * (biasN e : Int) < x + s - 1 + biasN e
      · rw [if_pos hC]; exact g3 (by omega) hB hC
      · rw [if_neg hC]; exact g5 (by omega) hB hC
    · rw [if_neg hB]
      by_cases hC : x < 1 - (biasN e : Int) - f
      · rw [if_pos hC]; exact g4 (by omega) (by omega) hC
      · rw [if_neg hC]; exact g6 (by omega) (by omega) hC

theorem dchk_facts {neg : Bool} {xs : List Nat} {x : Int} (h : dchk neg xs x = 0) (hn : xs.length ≠ 0) : chk xs = 0 ∧ -1073741824 ≤ x ∧ x ≤ 1073741824 := by
  unfold dchk at h
  by_cases h0 : chk xs = 0
  · rw [if_neg (by simp [h0]), if_neg hn] at h
    split at h
    · cases h
    · rename_i hh
      have hf : farB x = false := by cases hb : farB x <;> simp_all
      unfold farB at hf
      simp only [decide_eq_false_iff_not] at hf
      exact ⟨h0, by omega, by omega⟩
  · rw [if_pos h0] at h; exact absurd h h0

theorem szN_le {xs : List Nat} (hok : Ok xs) (h : chk xs = 0) : szN xs ≤ 524288 := by
  have := chk_zero_len h
  by_cases hn : xs.length = 0
  · rw [szN_zero hn]; omega
  · rw [szN_pos hn]
    have := bitLen_le32 _ (nth_lt hok (xs.length - 1))
    omega

theorem bits_all (e f : Int) (neg : Bool) (n : Nat) (x : Int) (xs : List Nat) (hlen : xs.length = n) (hok : Ok xs) (G : Nat → Bool → Int → Prop)
    (g1 : formE e f ≠ 0 → G 0 false (formE e f))
    (g2 : ∀ e' f' : Nat, e = e' → f = f' → 2 ≤ e' → e' ≤ 11 → 1 ≤ f' → f' ≤ 52 → dchk neg xs x ≠ 0 → G 0 false (dchk neg xs x))
    (g3 : ∀ e' f' : Nat, e = e' → f = f' → 2 ≤ e' → e' ≤ 11 → 1 ≤ f' → f' ≤ 52 → dchk neg xs x = 0 → noneB n = true → G 0 true 0)
    (g4 : ∀ e' f' : Nat, e = e' → f = f' → 2 ≤ e' → e' ≤ 11 → 1 ≤ f' → f' ≤ 52 → dchk neg xs x = 0 → noneB n = false → bitsN xs = (szN xs : Int) → szN xs ≤ 524288 → -1073741824 ≤ x → x ≤ 1073741824 →
      (szN xs ≤ f' + 1 → 1 ≤ szN xs ∧ pw (szN xs - 1) ≤ lowN xs ∧ lowN xs < pw (szN xs)) → G (bitsP e' f' neg (szN xs) (lowN xs) x).1 (bitsP e' f' neg (szN xs) (lowN xs) x).2 0) :
    G (bitsV e f neg xs x) (bitsIs e f neg xs x) (bitsE e f neg xs x) := by
  by_cases h0 : formE e f = 0
  · obtain ⟨a1, a2, a3, a4⟩ := formE_ok h0
    obtain ⟨e, rfl⟩ := Int.eq_ofNat_of_zero_le (show 0 ≤ e by omega)
    obtain ⟨f, rfl⟩ := Int.eq_ofNat_of_zero_le (show 0 ≤ f by omega)
    have hE : bitsE (e : Int) (f : Int) neg xs x = dchk neg xs x := by unfold bitsE; rw [if_neg (by simp [h0])]
    by_cases h1 : dchk neg xs x = 0
    · by_cases hn : n = 0
      · have hb : noneB n = true := by unfold noneB; simp [hn]
        have hV : bitsV (e : Int) (f : Int) neg xs x = 0 := by unfold bitsV; rw [if_pos (by right; right; omega)]
        have hI : bitsIs (e : Int) (f : Int) neg xs x = true := by unfold bitsIs; rw [if_neg (by simp [h0, h1]), if_pos (by omega)]
        rw [hV, hI, hE, h1]
        exact g3 e f rfl rfl (by omega) (by omega) (by omega) (by omega) h1 hb
      · have hb : noneB n = false := by unfold noneB; simp [hn]
        obtain ⟨hc, x1, x2⟩ := dchk_facts h1 (by omega)
        have hV : bitsV (e : Int) (f : Int) neg xs x = (bitsP e f neg (szN xs) (lowN xs) x).1 := by unfold bitsV; rw [if_neg (by simp [h0, h1]; intro h; exact hn (by rw [← hlen, h]; rfl))]; rfl
        have hI : bitsIs (e : Int) (f : Int) neg xs x = (bitsP e f neg (szN xs) (lowN xs) x).2 := by unfold bitsIs; rw [if_neg (by simp [h0, h1]), if_neg (by omega)]; rfl
        rw [hV, hI, hE, h1]
        exact g4 e f rfl rfl (by omega) (by omega) (by omega) (by omega) h1 hb (by unfold bitsN; rw [if_pos hc]) (szN_le hok hc) x1 x2 (fun hs => low_size hok hc (by omega) (by omega))
    · have hV : bitsV (e : Int) (f : Int) neg xs x = 0 := by unfold bitsV; rw [if_pos (by right; left; exact h1)]
      have hI : bitsIs (e : Int) (f : Int) neg xs x = false := by unfold bitsIs; rw [if_pos (by right; exact h1)]
      rw [hV, hI, hE]
      exact g2 e f rfl rfl (by omega) (by omega) (by omega) (by omega) h1
  · have hE : bitsE e f neg xs x = formE e f := by unfold bitsE; rw [if_pos h0]
    have hV : bitsV e f neg xs x = 0 := by unfold bitsV; rw [if_pos (by left; exact h0)]
    have hI : bitsIs e f neg xs x = false := by unfold bitsIs; rw [if_pos (by left; exact h0)]
    rw [hV, hI, hE]
    exact g1 h0

theorem exBits_any (e f : Int) (neg : Bool) (ao : Option Addr) (n c : Nat) (x : Int) (xs : List Nat) (w : World) (h : Sl w ao n c xs) :
    Calls Try.prog 6 #[.agg #[.int .i64 e, .int .i64 f], .agg #[.bool neg, .slice ao n c, .int .i64 x]] w fun en w' => en = .returned (.tuple #[.int .u64 (bitsV e f neg xs x : Int), .bool (bitsIs e f neg xs x), .int .i64 (bitsE e f neg xs x)]) ∧ Below w.heap.size w w' := by
  refine bits_all e f neg n x xs h.len h.ok (fun v b r => Calls Try.prog 6 #[.agg #[.int .i64 e, .int .i64 f], .agg #[.bool neg, .slice ao n c, .int .i64 x]] w fun en w' => en = .returned (.tuple #[.int .u64 (v : Int), .bool b, .int .i64 r]) ∧ Below w.heap.size w w') ?_ ?_ ?_ ?_
  · exact fun h0 => exBits_form e f neg ao n c x xs w h h0
  · rintro e f rfl rfl a1 a2 a3 a4 h1; exact exBits_dy e f a1 a2 a3 a4 neg ao n c x xs w h h1
  · rintro e f rfl rfl a1 a2 a3 a4 h1 hn; exact exBits_none e f a1 a2 a3 a4 neg ao n c x xs w h h1 hn
  · rintro e f rfl rfl a1 a2 a3 a4 h1 hn hs hsl x1 x2 hl
    exact bitsP_all e f neg (szN xs) (lowN xs) x (fun v b => Calls Try.prog 6 #[.agg #[.int .i64 e, .int .i64 f], .agg #[.bool neg, .slice ao n c, .int .i64 x]] w fun en w' => en = .returned (.tuple #[.int .u64 (v : Int), .bool b, .int .i64 0]) ∧ Below w.heap.size w w')
      (fun hA hB => exBits_big_sub e f a1 a2 a3 a4 neg ao n c x xs w h h1 hn _ _ hs hsl rfl x1 x2 hA hB)
      (fun hA hB => exBits_big_norm e f a1 a2 a3 a4 neg ao n c x xs w h h1 hn _ _ hs hsl rfl x1 x2 hA hB)
      (fun hA hB hC => exBits_over e f a1 a2 a3 a4 neg ao n c x xs w h h1 hn _ _ hs hsl rfl x1 x2 hA hB hC)
      (fun hA hB hC => exBits_low e f a1 a2 a3 a4 neg ao n c x xs w h h1 hn _ _ hs hsl rfl x1 x2 hA hB hC)
      (fun hA hB hC => exBits_norm e f a1 a2 a3 a4 neg ao n c x xs w h h1 hn _ _ hs hsl rfl x1 x2 hA hB hC (hl hA).1 (hl hA).2.1 (hl hA).2.2)
      (fun hA hB hC => exBits_sub e f a1 a2 a3 a4 neg ao n c x xs w h h1 hn _ _ hs hsl rfl x1 x2 hA hB hC (hl hA).2.2)

theorem rfBits_any (e f : Int) (neg : Bool) (ao : Option Addr) (n c : Nat) (x : Int) (xs : List Nat) (w : World) (h : Sl w ao n c xs) :
    Calls Try.prog 4 #[.agg #[.int .i64 e, .int .i64 f], .agg #[.bool neg, .slice ao n c, .int .i64 x]] w fun en w' => en = .returned (.tuple #[.int .u64 (bitsV e f neg xs x : Int), .bool (bitsIs e f neg xs x), .int .i64 (bitsE e f neg xs x)]) ∧ Below w.heap.size w w' := by
  refine bits_all e f neg n x xs h.len h.ok (fun v b r => Calls Try.prog 4 #[.agg #[.int .i64 e, .int .i64 f], .agg #[.bool neg, .slice ao n c, .int .i64 x]] w fun en w' => en = .returned (.tuple #[.int .u64 (v : Int), .bool b, .int .i64 r]) ∧ Below w.heap.size w w') ?_ ?_ ?_ ?_
  · exact fun h0 => rfBits_form e f neg ao n c x xs w h h0
  · rintro e f rfl rfl a1 a2 a3 a4 h1; exact rfBits_dy e f a1 a2 a3 a4 neg ao n c x xs w h h1
  · rintro e f rfl rfl a1 a2 a3 a4 h1 hn; exact rfBits_none e f a1 a2 a3 a4 neg ao n c x xs w h h1 hn
  · rintro e f rfl rfl a1 a2 a3 a4 h1 hn hs hsl x1 x2 hl
    exact bitsP_all e f neg (szN xs) (lowN xs) x (fun v b => Calls Try.prog 4 #[.agg #[.int .i64 e, .int .i64 f], .agg #[.bool neg, .slice ao n c, .int .i64 x]] w fun en w' => en = .returned (.tuple #[.int .u64 (v : Int), .bool b, .int .i64 0]) ∧ Below w.heap.size w w')
      (fun hA hB => rfBits_big_sub e f a1 a2 a3 a4 neg ao n c x xs w h h1 hn _ _ hs hsl rfl x1 x2 hA hB)
      (fun hA hB => rfBits_big_norm e f a1 a2 a3 a4 neg ao n c x xs w h h1 hn _ _ hs hsl rfl x1 x2 hA hB)
      (fun hA hB hC => rfBits_over e f a1 a2 a3 a4 neg ao n c x xs w h h1 hn _ _ hs hsl rfl x1 x2 hA hB hC)
      (fun hA hB hC => rfBits_low e f a1 a2 a3 a4 neg ao n c x xs w h h1 hn _ _ hs hsl rfl x1 x2 hA hB hC)
      (fun hA hB hC => rfBits_norm e f a1 a2 a3 a4 neg ao n c x xs w h h1 hn _ _ hs hsl rfl x1 x2 hA hB hC (hl hA).1 (hl hA).2.1 (hl hA).2.2)
      (fun hA hB hC => rfBits_sub e f a1 a2 a3 a4 neg ao n c x xs w h h1 hn _ _ hs hsl rfl x1 x2 hA hB hC (hl hA).2.2)

end Go.Proofs.Ytaanaacgkioagaa
