/-
  Plain laws: what both texts of Bits compute: the float that is worth a number, if there is one. The walk of exact.Bits, a theorem for each way through it. The walk of exact.Bits, the ways on which there is a float.
-/
import Derived.Test.YtkifhlgmbckekaaGreatDoorNats
import Derived.Test.YtkifhlgmbckekaaGreatDoorSplits
import Derived.Lib.ItoaNum
import Derived.Test.YtkifhlgmbckekaaGreatDoorWorth
import Derived.Test.YtkifhlgmbckekaaGreatDoorVals
namespace Go.Proofs.YtkifhlgmbckekaaGreatDoor

open Go.RowKit Go.Lb

theorem bitLen_bounds {x : Nat} (hx : x < 4294967296) (h0 : x ≠ 0) : 1 ≤ Lib.bitLen x ∧ pw (Lib.bitLen x - 1) ≤ x ∧ x < pw (Lib.bitLen x) := by
  unfold pw
  exact Lib.bitLenAux_bounds 64 x (by omega) h0

/-- A number of few bits: its two lowest limbs are all of it, and its highest bit is the one that its size tells. -/
theorem low_size {xs : List Nat} (hok : Ok xs) (hc : chk xs = 0) (hn : xs.length ≠ 0) (hs : szN xs ≤ 64) : 1 ≤ szN xs ∧ pw (szN xs - 1) ≤ lowN xs ∧ lowN xs < pw (szN xs) := by
  have htop : nth xs (xs.length - 1) ≠ 0 := by
    intro h
    unfold chk at hc
    split at hc
    · cases hc
    · rw [if_pos ⟨by omega, h⟩] at hc; cases hc
  obtain ⟨b1, b2, b3⟩ := bitLen_bounds (nth_lt hok _) htop
  have hsz := szN_pos hn
  have hl : xs.length ≤ 2 := by omega
  have hB : lowB xs = true := by unfold lowB; simp [hc, hl]
  have hm : lowN xs = nth xs 0 + 4294967296 * nth xs 1 := by unfold lowN; rw [if_pos hB]
  rcases (by omega : xs.length = 1 ∨ xs.length = 2) with h1 | h2
  · rw [h1] at hsz b1 b2 b3
    have h0 : nth xs 1 = 0 := nth_out (by omega)
    simp only [Nat.sub_self, Nat.mul_zero, Nat.zero_add] at hsz b1 b2 b3
    rw [hm, h0, hsz]
    exact ⟨b1, by omega, by omega⟩
  · rw [h2] at hsz b1 b2 b3
    simp only [show 2 - 1 = 1 from rfl, Nat.mul_one] at hsz b1 b2 b3
    have l0 := nth_lt hok 0
    rw [hm, hsz, show 32 + Lib.bitLen (nth xs 1) - 1 = 32 + (Lib.bitLen (nth xs 1) - 1) by omega, pw_add, pw_add, pw32]
    refine ⟨by omega, ?_, ?_⟩
    · have := Nat.mul_le_mul_left 4294967296 b2; omega
    · have : 4294967296 * (nth xs 1 + 1) ≤ 4294967296 * pw (Lib.bitLen (nth xs 1)) := Nat.mul_le_mul_left _ b3
      omega

/-- The bits of a number that is not nought, of s bits, the two lowest limbs m, the exponent x; whether there are any. -/
def bitsP (e f : Nat) (neg : Bool) (s m : Nat) (x : Int) : Nat × Bool :=
  if f + 1 < s then (0, false)
  else if 1 ≤ x + s - 1 + biasN e then
    (if 2 * (biasN e : Int) < x + s - 1 + biasN e then (0, false) else (joinN e f neg (x + s - 1 + biasN e).toNat (m * pw (f + 1 - s) - pw f), true))
  else if x < 1 - (biasN e : Int) - f then (0, false) else (joinN e f neg 0 (m * pw (x - (1 - (biasN e : Int) - f)).toNat), true)

/-- The whole answer. -/
def bitsV (e f : Int) (neg : Bool) (xs : List Nat) (x : Int) : Nat :=
  if formE e f ≠ 0 ∨ dchk neg xs x ≠ 0 ∨ xs.length = 0 then 0 else (bitsP e.toNat f.toNat neg (szN xs) (lowN xs) x).1

def bitsIs (e f : Int) (neg : Bool) (xs : List Nat) (x : Int) : Bool :=
  if formE e f ≠ 0 ∨ dchk neg xs x ≠ 0 then false else if xs.length = 0 then true else (bitsP e.toNat f.toNat neg (szN xs) (lowN xs) x).2

def bitsE (e f : Int) (neg : Bool) (xs : List Nat) (x : Int) : Int := if formE e f ≠ 0 then formE e f else dchk neg xs x

theorem shift_top {s m k f : Nat} (h1 : 1 ≤ s) (hlo : pw (s - 1) ≤ m) (hhi : m < pw s) (hk : k + s = f + 1) : pw f ≤ m * pw k ∧ m * pw k < pw (f + 1) := by
  have e1 : pw f = pw (s - 1) * pw k := by rw [← pw_add]; congr 1; omega
  have e2 : pw (f + 1) = pw s * pw k := by rw [← pw_add]; congr 1; omega
  rw [e1, e2]
  exact ⟨Nat.mul_le_mul_right _ hlo, Nat.mul_lt_mul_of_pos_right hhi (pw_pos k)⟩

theorem shift_low {s m k f : Nat} (hhi : m < pw s) (hk : k + s ≤ f) : m * pw k < pw f := by
  have : m * pw k < pw s * pw k := Nat.mul_lt_mul_of_pos_right hhi (pw_pos k)
  rw [← pw_add] at this
  exact Nat.lt_of_lt_of_le this (pw_le (by omega))

end Go.Proofs.YtkifhlgmbckekaaGreatDoor

namespace Go.Proofs.YtkifhlgmbckekaaGreatDoor

open Go.RowKit Go.Lb

theorem pw_wrapI_fin : ∀ e : Fin 12, IntKind.i64.wrap (2 ^ e.val) = ((2 ^ e.val : Nat) : Int) := by decide +kernel

theorem pw_wrapI {e : Nat} (h : e ≤ 11) : IntKind.i64.wrap (2 ^ e) = (pw e : Int) := by unfold pw; exact pw_wrapI_fin ⟨e, by omega⟩

theorem boxA (w : World) (c : Array Value) (t : TypeId) (o2 : Obj) (i : Nat) : ((w.alloc (.cells c t)).alloc o2).cell? ⟨w.heap.size, i, none⟩ = c[i]? :=
  (World.cell?_alloc_lt (w.alloc (.cells c t)) o2 ⟨w.heap.size, i, none⟩ (by simp)).trans (World.cell?_alloc_new w c t i)

theorem boxB (w : World) (c : Array Value) (t : TypeId) (o : Obj) (i : Nat) : ((w.alloc o).alloc (.cells c t)).cell? ⟨w.heap.size + 1, i, none⟩ = c[i]? := by
  have h := World.cell?_alloc_new (w.alloc o) c t i
  rwa [World.size_alloc] at h

theorem pw_wrap_fin : ∀ e : Fin 12, wrap64 (2 ^ e.val) = ((2 ^ e.val : Nat) : Int) := by decide +kernel

theorem pw_wrap {e : Nat} (h : e ≤ 11) : wrap64 (2 ^ e) = (pw e : Int) := by unfold pw; exact pw_wrap_fin ⟨e, by omega⟩

end Go.Proofs.YtkifhlgmbckekaaGreatDoor

namespace Go.Proofs.YtkifhlgmbckekaaGreatDoor

open Go.RowKit Go.Lb

theorem bitsP_all (e f : Nat) (neg : Bool) (s m : Nat) (x : Int) (G : Nat → Bool → Prop)
    (g1 : f + 1 < s → x + s - 1 + biasN e < 1 → G 0 false) (g2 : f + 1 < s → 1 ≤ x + s - 1 + biasN e → G 0 false)
    (g3 : s ≤ f + 1 → 1 ≤ x + s - 1 + biasN e → 2 * (biasN e : Int) < x + s - 1 + biasN e → G 0 false)
    (g4 : s ≤ f + 1 → x + s - 1 + biasN e < 1 → x < 1 - (biasN e : Int) - f → G 0 false)
    (g5 : s ≤ f + 1 → 1 ≤ x + s - 1 + biasN e → ¬ 2 * (biasN e : Int) < x + s - 1 + biasN e → G (joinN e f neg (x + s - 1 + biasN e).toNat (m * pw (f + 1 - s) - pw f)) true)
    (g6 : s ≤ f + 1 → x + s - 1 + biasN e < 1 → ¬ x < 1 - (biasN e : Int) - f → G (joinN e f neg 0 (m * pw (x - (1 - (biasN e : Int) - f)).toNat)) true) :
    G (bitsP e f neg s m x).1 (bitsP e f neg s m x).2 := by
  unfold bitsP
  by_cases hA : f + 1 < s
  · rw [if_pos hA]
    by_cases hB : 1 ≤ x + s - 1 + biasN e
    · exact g2 hA hB
    · exact g1 hA (by omega)
  · rw [if_neg hA]
    by_cases hB : 1 ≤ x + s - 1 + biasN e
    · rw [if_pos hB]
      by_cases hC : 2 * (biasN e : Int) < x + s - 1 + biasN e
      · rw [if_pos hC]; exact g3 (by omega) hB hC
      · rw [if_neg hC]; exact g5 (by omega) hB hC
    · rw [if_neg hB]
      by_cases hC : x < 1 - (biasN e : Int) - f
      · rw [if_pos hC]; exact g4 (by omega) (by omega) hC
      · rw [if_neg hC]; exact g6 (by omega) (by omega) hC

theorem dchk_facts {neg : Bool} {xs : List Nat} {x : Int} (h : dchk neg xs x = 0) (hn : xs.length ≠ 0) : chk xs = 0 ∧ -1073741824 ≤ x ∧ x ≤ 1073741824 := by
  unfold dchk at h
  by_cases h0 : chk xs = 0
  · rw [if_neg (by simp [h0]), if_neg hn] at h
    split at h
    · cases h
    · rename_i hh
      have hf : farB x = false := by cases hb : farB x <;> simp_all
      unfold farB at hf
      simp only [decide_eq_false_iff_not] at hf
      exact ⟨h0, by omega, by omega⟩
  · rw [if_pos h0] at h; exact absurd h h0

theorem szN_le {xs : List Nat} (hok : Ok xs) (h : chk xs = 0) : szN xs ≤ 524288 := by
  have := chk_zero_len h
  by_cases hn : xs.length = 0
  · rw [szN_zero hn]; omega
  · rw [szN_pos hn]
    have := bitLen_le32 _ (nth_lt hok (xs.length - 1))
    omega

theorem bits_all (e f : Int) (neg : Bool) (n : Nat) (x : Int) (xs : List Nat) (hlen : xs.length = n) (hok : Ok xs) (G : Nat → Bool → Int → Prop)
    (g1 : formE e f ≠ 0 → G 0 false (formE e f))
    (g2 : ∀ e' f' : Nat, e = e' → f = f' → 2 ≤ e' → e' ≤ 11 → 1 ≤ f' → f' ≤ 52 → dchk neg xs x ≠ 0 → G 0 false (dchk neg xs x))
    (g3 : ∀ e' f' : Nat, e = e' → f = f' → 2 ≤ e' → e' ≤ 11 → 1 ≤ f' → f' ≤ 52 → dchk neg xs x = 0 → noneB n = true → G 0 true 0)
    (g4 : ∀ e' f' : Nat, e = e' → f = f' → 2 ≤ e' → e' ≤ 11 → 1 ≤ f' → f' ≤ 52 → dchk neg xs x = 0 → noneB n = false → bitsN xs = (szN xs : Int) → szN xs ≤ 524288 → -1073741824 ≤ x → x ≤ 1073741824 →
      (szN xs ≤ f' + 1 → 1 ≤ szN xs ∧ pw (szN xs - 1) ≤ lowN xs ∧ lowN xs < pw (szN xs)) → G (bitsP e' f' neg (szN xs) (lowN xs) x).1 (bitsP e' f' neg (szN xs) (lowN xs) x).2 0) :
    G (bitsV e f neg xs x) (bitsIs e f neg xs x) (bitsE e f neg xs x) := by
  by_cases h0 : formE e f = 0
  · obtain ⟨a1, a2, a3, a4⟩ := formE_ok h0
    obtain ⟨e, rfl⟩ := Int.eq_ofNat_of_zero_le (show 0 ≤ e by omega)
    obtain ⟨f, rfl⟩ := Int.eq_ofNat_of_zero_le (show 0 ≤ f by omega)
    have hE : bitsE (e : Int) (f : Int) neg xs x = dchk neg xs x := by unfold bitsE; rw [if_neg (by simp [h0])]
    by_cases h1 : dchk neg xs x = 0
    · by_cases hn : n = 0
      · have hb : noneB n = true := by unfold noneB; simp [hn]
        have hV : bitsV (e : Int) (f : Int) neg xs x = 0 := by unfold bitsV; rw [if_pos (by right; right; omega)]
        have hI : bitsIs (e : Int) (f : Int) neg xs x = true := by unfold bitsIs; rw [if_neg (by simp [h0, h1]), if_pos (by omega)]
        rw [hV, hI, hE, h1]
        exact g3 e f rfl rfl (by omega) (by omega) (by omega) (by omega) h1 hb
      · have hb : noneB n = false := by unfold noneB; simp [hn]
        obtain ⟨hc, x1, x2⟩ := dchk_facts h1 (by omega)
        have hV : bitsV (e : Int) (f : Int) neg xs x = (bitsP e f neg (szN xs) (lowN xs) x).1 := by unfold bitsV; rw [if_neg (by simp [h0, h1]; intro h; exact hn (by rw [← hlen, h]; rfl))]; rfl
        have hI : bitsIs (e : Int) (f : Int) neg xs x = (bitsP e f neg (szN xs) (lowN xs) x).2 := by unfold bitsIs; rw [if_neg (by simp [h0, h1]), if_neg (by omega)]; rfl
        rw [hV, hI, hE, h1]
        exact g4 e f rfl rfl (by omega) (by omega) (by omega) (by omega) h1 hb (by unfold bitsN; rw [if_pos hc]) (szN_le hok hc) x1 x2 (fun hs => low_size hok hc (by omega) (by omega))
    · have hV : bitsV (e : Int) (f : Int) neg xs x = 0 := by unfold bitsV; rw [if_pos (by right; left; exact h1)]
      have hI : bitsIs (e : Int) (f : Int) neg xs x = false := by unfold bitsIs; rw [if_pos (by right; exact h1)]
      rw [hV, hI, hE]
      exact g2 e f rfl rfl (by omega) (by omega) (by omega) (by omega) h1
  · have hE : bitsE e f neg xs x = formE e f := by unfold bitsE; rw [if_pos h0]
    have hV : bitsV e f neg xs x = 0 := by unfold bitsV; rw [if_pos (by left; exact h0)]
    have hI : bitsIs e f neg xs x = false := by unfold bitsIs; rw [if_pos (by left; exact h0)]
    rw [hV, hI, hE]
    exact g1 h0

end Go.Proofs.YtkifhlgmbckekaaGreatDoor

/-
  Plain: what a float is worth, and the float of that: one and the same, but for noughts with a sign.
-/
namespace Go.Proofs.YtkifhlgmbckekaaGreatDoor

open Go.RowKit Go.Lb

/-- What Value answers. -/
def valD (e f : Int) (b : Nat) : Ds := ⟨valS e f b, valN e f b, valX e f b, valE e f b⟩

theorem valD_mk {e f b : Nat} (h : fitsE (e : Int) (f : Int) b = 0) (hx : exN e f b ≠ maskN e) : valD (e : Int) (f : Int) b = mkA (sgB e f b) (vN e f b) (vX e f b) := by
  obtain ⟨h1, h2, h3, h4⟩ := val_yes h hx
  unfold valD mkA
  rw [h1, h2, h3, h4]

theorem mask_bias {e : Nat} (h : 2 ≤ e) : maskN e = 2 * biasN e + 1 := by
  unfold maskN biasN
  have h1 : 2 ^ e = 2 * 2 ^ (e - 1) := by
    rw [show 2 * 2 ^ (e - 1) = 2 ^ (e - 1) * 2 by omega, ← Nat.pow_succ]
    congr 1
    omega
  have := Nat.two_pow_pos (e - 1)
  omega

theorem bias_small {e : Nat} (h : e ≤ 11) : biasN e ≤ 1023 := by
  unfold biasN
  have : 2 ^ (e - 1) ≤ 2 ^ 10 := Nat.pow_le_pow_right (by decide) (by omega)
  omega

/-- The least exponent. -/
def baseI (e f : Nat) : Int := 1 - (biasN e : Int) - f

theorem frN_eq (f b : Nat) : frN f b = b % pw f := by
  unfold frN takeN
  rw [pw_zero, Nat.div_one]

theorem frN_lt' (f b : Nat) : frN f b < pw f := by
  rw [frN_eq]
  exact Nat.mod_lt _ (pw_pos f)

theorem vN_top (e f b : Nat) : vN e f b < pw (f + 1) := by
  have := frN_lt' f b
  unfold vN
  rw [pw_succ]
  split <;> omega

theorem vX_low (e f b : Nat) : baseI e f ≤ vX e f b := by
  unfold vX baseI
  split <;> omega

theorem vX_high {e f b : Nat} (he : e ≤ 11) : vX e f b ≤ baseI e f + 2048 := by
  have h1 := exN_lt e f b
  have h2 := pw_le he
  have h3 : pw 11 = 2048 := by unfold pw; rfl
  unfold vX baseI
  split <;> omega

/-- The worth of a float in units of its least one. -/
def gN (e f b : Nat) : Nat := upW (vN e f b) (vX e f b) (baseI e f)

theorem gN_lt {e f b d : Nat} (he : e ≤ 11) (hd : d = 2048) : gN e f b < 2 ^ (f + 1 + d) := by
  have h1 := vN_top e f b
  have h2 := vX_high (f := f) (b := b) he
  unfold gN upW
  unfold pw at h1
  rw [Nat.pow_add]
  exact Nat.mul_lt_mul_of_lt_of_le h1 (Nat.pow_le_pow_right (by decide) (by omega)) (Nat.two_pow_pos _)

theorem valD_ok {e f b : Nat} (h : fitsE (e : Int) (f : Int) b = 0) (hx : exN e f b ≠ maskN e) (he : e ≤ 11) (hf : f ≤ 52) :
    (valD (e : Int) (f : Int) b).e = 0 ∧ Wo (valD (e : Int) (f : Int) b) (baseI e f) (sgI (sgB e f b) (gN e f b)) := by
  rw [valD_mk h hx]
  have hb := bias_small he
  have h1 : -1073741824 ≤ baseI e f := by unfold baseI; omega
  have h2 : baseI e f ≤ 1 := by unfold baseI; omega
  obtain ⟨d, hd⟩ : ∃ d, d = 2048 := ⟨_, rfl⟩
  have hg := gN_lt (f := f) (b := b) he hd
  obtain ⟨K, hK⟩ : ∃ K, K = f + 1 + d := ⟨_, rfl⟩
  rw [← hK] at hg
  obtain ⟨g1, g2⟩ := mkA_ok (s := sgB e f b) (vX_low e f b) hg (by omega) h1 (by omega)
  exact ⟨g2, mkA_worth g1 (fun _ => vX_low e f b) g2⟩

theorem lowN_limbs {m : Nat} (h : m < 18446744073709551616) : lowN (limbs m) = m := by
  have hl : (limbs m).length ≤ 2 := limbs_length_le (by omega)
  have hc : chk (limbs m) = 0 := chk_limbs (by omega)
  have hv := val_limbs' m
  unfold lowN
  have hB : lowB (limbs m) = true := decide_eq_true ⟨hc, hl⟩
  rw [if_pos hB]
  generalize limbs m = l at hl hv
  match l, hl with
  | [], _ => simpa [nth, val] using hv
  | [x], _ => simpa [nth, val] using hv
  | [x, y], _ => simpa [nth, val] using hv

theorem fields_join {e f b : Nat} (hp : b < pw (1 + e + f)) : joinN e f (sgB e f b) (exN e f b) (frN f b) = b := by
  have hf := frN_eq f b
  have hx : exN e f b = b / pw f % pw e := rfl
  have hs : takeN b (f + e) 1 = b / pw f / pw e % 2 := by
    unfold takeN
    rw [pw_add, Nat.div_div_eq_div_mul, show pw 1 = 2 by unfold pw; rfl]
  have d1 := Nat.div_add_mod b (pw f)
  have d2 := Nat.div_add_mod (b / pw f) (pw e)
  have hq : b / pw f / pw e < 2 := by
    rw [Nat.div_div_eq_div_mul, ← pw_add]
    refine Nat.div_lt_of_lt_mul ?_
    rw [show 1 + e + f = f + e + 1 by omega, pw_succ] at hp
    omega
  have hsg : sgB e f b = decide (b / pw f / pw e % 2 ≠ 0) := by unfold sgB; rw [hs]
  rw [hf, hx, hsg]
  unfold joinN putN
  rw [show e + f = f + e by omega, pw_add]
  rw [← d2, Nat.mul_add, ← Nat.mul_assoc] at d1
  rw [Nat.mul_comm (b / pw f % pw e) (pw f)]
  generalize b / pw f / pw e = q at *
  generalize b / pw f % pw e = x at *
  generalize b % pw f = y at *
  generalize hP : pw f * pw e = P at *
  have hq2 : q = 0 ∨ q = 1 := by omega
  rcases hq2 with rfl | rfl
  · simp
    omega
  · simp
    omega

theorem pow_pw (k : Nat) : 2 ^ k = pw k := by unfold pw; rfl

/-- The float of a float's worth. -/
theorem bits_value {e f b : Nat} (h : formE (e : Int) (f : Int) = 0) (hp : b < pw (1 + e + f)) (hx : exN e f b ≠ maskN e) (D : Ds) (hD : D = valD (e : Int) (f : Int) b) :
    bitsE (e : Int) (f : Int) D.s (limbs D.N) D.x = 0 ∧ bitsIs (e : Int) (f : Int) D.s (limbs D.N) D.x = true ∧ bitsV (e : Int) (f : Int) D.s (limbs D.N) D.x = if vN e f b = 0 then 0 else b := by
  obtain ⟨a1, a2, a3, a4⟩ := formE_ok h
  have ha2 : e ≤ 11 := by omega
  have ha4 : f ≤ 52 := by omega
  have hfit : fitsE (e : Int) (f : Int) b = 0 := by
    unfold fitsE
    rw [if_neg (by simp [h]), if_pos (by simpa using hp)]
  obtain ⟨w1, w2⟩ := valD_ok hfit hx ha2 ha4
  rw [← hD] at w1 w2
  have hc := w2.dy.chk
  have hmk := valD_mk hfit hx
  rw [← hD] at hmk
  refine ⟨by unfold bitsE; rw [if_neg (by simp [h]), hc], ?_⟩
  unfold bitsIs bitsV
  rw [if_neg (by simp [h, hc])]
  by_cases h0 : vN e f b = 0
  · rw [h0, mkA_zero] at hmk
    have hN : D.N = 0 := by rw [hmk]; rfl
    rw [hN, if_pos (len_zero.2 rfl), if_pos h0, if_pos (.inr (.inr (len_zero.2 rfl)))]
    exact ⟨rfl, rfl⟩
  · have hB : mkB (limbs (vN e f b)) (vX e f b) = true := by
      cases hh : mkB (limbs (vN e f b)) (vX e f b)
      · exfalso
        have hl : (limbs (vN e f b)).length ≤ 16384 := by
          have := vN_top e f b
          unfold pw at this
          exact len_pow this (by omega)
        have := mk_many (chk_limbs hl) (by rw [val_limbs']; exact h0) hh
        rw [hmk] at w1
        change mkE (limbs (vN e f b)) (vX e f b) = 0 at w1
        rw [this] at w1
        cases w1
      · rfl
    obtain ⟨m1, m2, m3, m4⟩ := mk_yes (sgB e f b) hB
    rw [val_limbs'] at m1 m2
    have hN : D.N = vN e f b / 2 ^ tz (vN e f b) := by rw [hmk]; exact m1
    have hX : D.x = vX e f b + tz (vN e f b) := by rw [hmk]; exact m2
    have hS : D.s = sgB e f b := by rw [hmk]; exact m3
    have hpt := tz_part h0
    have hod := tz_odd h0
    rw [← hN] at hpt hod
    have hn0 : D.N ≠ 0 := by intro hh; rw [hh] at hod; cases hod
    rw [if_neg (fun hh => hn0 (len_zero.1 hh)), if_neg h0, if_neg (fun hh => hh.elim (fun g => g h) (fun g => g.elim (fun g => g hc) (fun g => hn0 (len_zero.1 g))))]
    have hlt := vN_top e f b
    obtain ⟨s1, s2, s3⟩ := sz_bounds' w2.dy.len hn0
    have hm64 : D.N < 18446744073709551616 := by
      have hle : D.N ≤ vN e f b := by rw [hN]; exact Nat.div_le_self _ _
      have h53 : pw (f + 1) ≤ pw 53 := pw_le (by omega)
      have : pw 53 = 9007199254740992 := by unfold pw; rfl
      omega
    rw [lowN_limbs hm64, hS, hX]
    rw [show (e : Int).toNat = e from rfl, show (f : Int).toNat = f from rfl]
    have hjoin := fields_join hp
    have hfr := frN_lt' f b
    have hmb := mask_bias (e := e) (by omega)
    have hex := exN_lt e f b
    have hpe : pw e = maskN e + 1 := by
      unfold pw maskN
      have := Nat.two_pow_pos e
      omega
    generalize D.N = m at *
    generalize szN (limbs m) = s at *
    generalize hk : tz (vN e f b) = k at *
    have lo : pw (s - 1 + k) ≤ vN e f b := by
      rw [← hpt, pow_pw, pw_add]
      exact Nat.mul_le_mul_right _ (by rw [← pow_pw]; exact s2)
    have up : vN e f b < pw (s + k) := by
      rw [← hpt, pow_pw, pw_add]
      exact Nat.mul_lt_mul_of_pos_right (by rw [← pow_pw]; exact s3) (pw_pos k)
    have pl : ∀ {i j : Nat}, pw i < pw j → i < j := fun {i j} hh => Classical.byContradiction fun hn => by
      have := pw_le (show j ≤ i by omega)
      omega
    unfold bitsP
    by_cases hx0 : exN e f b = 0
    · have hv : vN e f b = frN f b := by unfold vN; rw [if_pos hx0]
      have hX' : vX e f b = 1 - (biasN e : Int) - f := by unfold vX; rw [if_pos hx0]
      have hsk : s - 1 + k < f := pl (by omega)
      rw [hX', if_neg (by omega), if_neg (by omega), if_neg (by omega)]
      refine ⟨rfl, ?_⟩
      simp only
      rw [show (1 - (biasN e : Int) - f + k - (1 - (biasN e : Int) - f)).toNat = k by omega, ← pow_pw, hpt, hv]
      rw [hx0] at hjoin
      exact hjoin
    · have hv : vN e f b = pw f + frN f b := by unfold vN; rw [if_neg hx0]
      have hX' : vX e f b = (exN e f b : Int) - (biasN e : Int) - f := by unfold vX; rw [if_neg hx0]
      have hsk1 : s - 1 + k < f + 1 := pl (by omega)
      have hsk2 : f < s + k := pl (by omega)
      rw [hX', if_neg (by omega), if_pos (by omega), if_neg (by omega)]
      refine ⟨rfl, ?_⟩
      simp only
      rw [show ((exN e f b : Int) - (biasN e : Int) - f + k + s - 1 + biasN e).toNat = exN e f b by omega, show f + 1 - s = k by omega, ← pow_pw k, hpt, hv, Nat.add_sub_cancel_left]
      exact hjoin

end Go.Proofs.YtkifhlgmbckekaaGreatDoor

