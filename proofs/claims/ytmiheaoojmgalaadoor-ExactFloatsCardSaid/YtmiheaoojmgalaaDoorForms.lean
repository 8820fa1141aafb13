/-
  The walks of the small functions of forms. The walks of forms.layout, join, Join and of the reference's May. The walk of math/bits.Len64, over the library's own text. The walks of forms.Fits and of the reference's May: may bits be a float of a form?
-/
import Derived.Test.YtmiheaoojmgalaaDoorNats
import Derived.Test.YtmiheaoojmgalaaDoorBase
import Derived.Deep.RegionHeld3
import Derived.Lib.ItoaNum
namespace Go.Proofs.YtmiheaoojmgalaaDoor
open Go.RowKit Go.Lb

/-- May a form be? -/
def formB (e f : Int) : Bool := decide (2 ≤ e ∧ e ≤ 11 ∧ 1 ≤ f ∧ f ≤ 52)
def formE (e f : Int) : Int := if formB e f = true then 0 else 5

theorem formE_ok {e f : Int} (h : formE e f = 0) : 2 ≤ e ∧ e ≤ 11 ∧ 1 ≤ f ∧ f ≤ 52 := by
  unfold formE at h
  split at h
  · rename_i hb; simpa [formB] using hb
  · cases h

theorem formE_yes {e f : Int} (h : 2 ≤ e ∧ e ≤ 11 ∧ 1 ≤ f ∧ f ≤ 52) : formE e f = 0 := by
  unfold formE formB; rw [if_pos (by simpa using h)]
theorem formE_no {e f : Int} (h : ¬(2 ≤ e ∧ e ≤ 11 ∧ 1 ≤ f ∧ f ≤ 52)) : formE e f = 5 := by
  unfold formE formB; rw [if_neg (by simpa using h)]

set_option maxHeartbeats 400000 in
theorem formCheck_any (e f : Int) (w : World) :
    Calls Tryd.prog 60 #[.agg #[.int .i64 e, .int .i64 f]] w fun en w' => en = .returned (.int .i64 (formE e f)) ∧ Below w.heap.size w w' := by
  by_cases h1 : e < 2
  · have H := Lib.hid (formE_no (e := e) (f := f) (by omega))
    go_enter Tryd.func60, Tryd.ntmps60
    go_wp2
    go_ret
    exact ⟨by rw [H.out]; rfl, more (Below.refl _ _) _⟩
  · by_cases h2 : 11 < e
    · have H := Lib.hid (formE_no (e := e) (f := f) (by omega))
      go_enter Tryd.func60, Tryd.ntmps60
      go_wp2
      go_ret
      exact ⟨by rw [H.out]; rfl, more (Below.refl _ _) _⟩
    · by_cases h3 : f < 1
      · have H := Lib.hid (formE_no (e := e) (f := f) (by omega))
        go_enter Tryd.func60, Tryd.ntmps60
        go_wp2
        go_ret
        exact ⟨by rw [H.out]; rfl, more (Below.refl _ _) _⟩
      · by_cases h4 : 52 < f
        · have H := Lib.hid (formE_no (e := e) (f := f) (by omega))
          go_enter Tryd.func60, Tryd.ntmps60
          go_wp2
          go_ret
          exact ⟨by rw [H.out]; rfl, more (Below.refl _ _) _⟩
        · have H := Lib.hid (formE_yes (e := e) (f := f) (by omega))
          go_enter Tryd.func60, Tryd.ntmps60
          go_wp2
          go_ret
          exact ⟨by rw [H.out]; rfl, more (Below.refl _ _) _⟩

theorem bias_fin : ∀ e : Fin 12, wrap64 (wrap64 (2 ^ (e.val - 1)) - 1) = ((2 ^ (e.val - 1) - 1 : Nat) : Int) := by decide +kernel
theorem bias_wrap {e : Nat} (h : e ≤ 11) : wrap64 (wrap64 (2 ^ (e - 1)) - 1) = (biasN e : Int) := by unfold biasN; exact bias_fin ⟨e, by omega⟩

theorem bias_any (e f : Nat) (w : World) (h1 : 2 ≤ e) (h2 : e ≤ 11) :
    Calls Tryd.prog 108 #[.agg #[.int .i64 e, .int .i64 f]] w fun en w' => en = .returned (.int .i64 (biasN e : Int)) ∧ Below w.heap.size w w' := by
  have H := Lib.hid (bias_wrap h2)
  go_enter Tryd.func108, Tryd.ntmps108
  go_wp2
  go_ret
  exact ⟨by rw [← H.out]; simp, more (Below.refl _ _) _⟩

theorem mask_any (k : Nat) (w : World) (h2 : k ≤ 64) :
    Calls Tryd.prog 87 #[.int .i64 k] w fun en w' => en = .returned (.int .u64 (maskN k : Int)) ∧ w = w' := by
  have H := Lib.hid (mask_bits h2)
  go_enter Tryd.func87, Tryd.ntmps87
  go_wp2
  go_ret
  exact ⟨by rw [← H.out]; simp, rfl⟩

/-- A field put in. (No simp rule looks into it.) -/
def putN (b fld fr : Nat) : Nat := b + fld * pw fr

set_option maxHeartbeats 400000 in
theorem put_any (fr sz b fld : Nat) (w : World) (hb : b < pw fr) (hs : fr + sz ≤ 64) (hf : fld < pw sz) :
    Calls Tryd.prog 101 #[.agg #[.int .i64 fr, .int .i64 sz], .int .u64 b, .int .u64 fld] w fun en w' => en = .returned (.int .u64 (putN b fld fr : Int)) ∧ Below w.heap.size w w' := by
  obtain ⟨e1, e2, _⟩ := put_bits hb hs hf
  have H2 := Lib.hid e2
  clear e2 hb hf
  go_enter Tryd.func101, Tryd.ntmps101
  go_wp2
  go_quiet ((go_at_call 87; exact quiet_l (fun W e => mask_any sz W (by omega)) _))
  go_wp2
  go_ret
  exact ⟨by rw [show (putN b fld fr : Int) = ((b + fld * pw fr : Nat) : Int) from rfl, ← H2.out]; rfl, drewn (more (Below.refl _ _) _) _⟩

end Go.Proofs.YtmiheaoojmgalaaDoor

namespace Go.Proofs.YtmiheaoojmgalaaDoor
open Go.RowKit Go.Lb

theorem layout_any (e f : Nat) (w : World) (he : e ≤ 11) (hf : f ≤ 52) :
    Calls Tryd.prog 85 #[.agg #[.int .i64 e, .int .i64 f]] w fun en w' => en = .returned (.agg #[.int .i64 0, .int .i64 f, .int .i64 f, .int .i64 e, .int .i64 ((f + e : Nat) : Int), .int .i64 1]) ∧ Below w.heap.size w w' := by
  go_enter Tryd.func85, Tryd.ntmps85
  go_wp2
  refine bodyPost_ret (v := .agg #[.int .i64 0, .int .i64 f, .int .i64 f, .int .i64 e, .int .i64 ((f + e : Nat) : Int), .int .i64 1]) (by simp [results, Tryd.results85, go_sem]) rfl ⟨rfl, ?_⟩
  exact more (more (Below.refl _ _) _) _

theorem put0_any (sz fld : Nat) (w : World) (hs : sz ≤ 64) (hf : fld < pw sz) :
    Calls Tryd.prog 101 #[.agg #[.int .i64 0, .int .i64 sz], .int .u64 0, .int .u64 fld] w fun en w' => en = .returned (.int .u64 (fld : Int)) ∧ Below w.heap.size w w' := by
  have h := put_any 0 sz 0 fld w (pw_pos 0) (by omega) hf
  rw [show putN 0 fld 0 = fld from by unfold putN; rw [pw_zero]; omega] at h
  exact h

theorem putTop_any (e f b : Nat) (w : World) (hs : f + e + 1 ≤ 64) (hb : b < pw (f + e)) :
    Calls Tryd.prog 101 #[.agg #[.int .i64 ((f : Int) + (e : Int)), .int .i64 1], .int .u64 b, .int .u64 1] w fun en w' => en = .returned (.int .u64 (putN b 1 (e + f) : Int)) ∧ Below w.heap.size w w' := by
  have h := put_any (f + e) 1 b 1 w hb hs (by unfold pw; decide)
  rw [Nat.add_comm f e, show ((e + f : Nat) : Int) = (f : Int) + (e : Int) from by omega] at h
  exact h

/-- Fields put together. -/
def joinN (e f : Nat) (neg : Bool) (exp frac : Nat) : Nat := if neg = true then putN (putN frac exp f) 1 (e + f) else putN frac exp f

set_option maxHeartbeats 800000 in
theorem join_any (e f : Nat) (neg : Bool) (exp frac : Nat) (w : World) (he1 : 2 ≤ e) (he : e ≤ 11) (hf : f ≤ 52) (hx : exp < pw e) (hy : frac < pw f) :
    Calls Tryd.prog 89 #[.agg #[.int .i64 e, .int .i64 f], .bool neg, .int .u64 exp, .int .u64 frac] w fun en w' => en = .returned (.int .u64 (joinN e f neg exp frac : Int)) ∧ Below w.heap.size w w' := by
  go_enter Tryd.func89, Tryd.ntmps89
  go_wp2_with (go_at_call 85; refine (layout_any e f _ he hf).mono ?_; rintro en w1 ⟨rfl, hb1⟩; obtain ⟨hc1, hf1⟩ := bcell hb1; have hz1 : w.heap.size < w1.heap.size := by have := hb1.size; simp at this; omega)
  have hB0 : Below w.heap.size w (w1.alloc (.cells #[.int .i64 0, .int .i64 f, .int .i64 f, .int .i64 e, .int .i64 (↑f + ↑e), .int .i64 1] 119)) := more (next (more (Below.refl _ _) _) hb1) _
  have hfp : frac < pw f := hy
  go_region_held3 (fun w' => w'.cell? ⟨w1.heap.size, 0, none⟩ = some (.int .i64 0) ∧ w'.cell? ⟨w1.heap.size, 1, none⟩ = some (.int .i64 f) ∧ w'.cell? ⟨w1.heap.size, 2, none⟩ = some (.int .i64 f) ∧ w'.cell? ⟨w1.heap.size, 3, none⟩ = some (.int .i64 e) ∧ w'.cell? ⟨w1.heap.size, 4, none⟩ = some (.int .i64 (↑f + ↑e)) ∧ w'.cell? ⟨w1.heap.size, 5, none⟩ = some (.int .i64 1) ∧ Below w.heap.size w w')
    ((go_split_ands; refine ⟨?_, ?_, ?_, ?_, ?_, ?_, ?_⟩ <;> (first | assumption | exact Below.drew (by assumption) | exact cellStay (by assumption) hb2 | exact next (by assumption) hb2 | (go_keep; done))))
    (first | (go_at_call 101; (with_reducible refine (put0_any f frac _ (by omega) hy).mono ?_); rintro en w2 ⟨rfl, hb2⟩) | (go_at_call 101; (with_reducible refine (put_any f e frac exp _ hfp (by omega) hx).mono ?_); rintro en w2 ⟨rfl, hb2⟩))
  rename_i w2 hS
  obtain ⟨k0, k1, k2, k3, k4, k5, hB2⟩ := hS
  have e3 : putN frac exp f < pw (f + e) := (put_bits (b := frac) (fr := f) (sz := e) (fld := exp) hy (by omega) hx).2.2
  cases neg
  · have H : Hid (joinN e f false exp frac = putN frac exp f) := Lib.hid (by simp [joinN])
    go_wp2
    go_ret
    exact ⟨by rw [H.out]; rfl, hB2⟩
  · have H : Hid (joinN e f true exp frac = putN (putN frac exp f) 1 (e + f)) := Lib.hid (by simp [joinN])
    go_wp2_with (go_at_call 101; (with_reducible refine (putTop_any e f _ _ (by omega) e3).mono ?_); rintro en w3 ⟨rfl, hb3⟩)
    go_ret
    exact ⟨by rw [H.out]; rfl, next hB2 hb3⟩
theorem maskN_le {e : Nat} (h : e ≤ 11) : maskN e ≤ 2047 := by
  have := pw_le h
  have e11 : pw 11 = 2048 := by unfold pw; rfl
  rw [maskN_eq]; omega

set_option maxHeartbeats 800000 in
theorem Join_any (e f : Nat) (neg : Bool) (exp frac : Nat) (w : World) (he1 : 2 ≤ e) (he : e ≤ 11) (hf1 : 1 ≤ f) (hf : f ≤ 52) (hx : exp ≤ maskN e) (hy : frac ≤ maskN f) :
    Calls Tryd.prog 62 #[.agg #[.int .i64 e, .int .i64 f], .agg #[.bool neg, .int .i64 exp, .int .u64 frac]] w fun en w' => en = .returned (.tuple #[.int .u64 (joinN e f neg exp frac : Int), .int .i64 0]) ∧ Below w.heap.size w w' := by
  have hok : formE e f = 0 := formE_yes (by omega)
  have hokb : (formE e f != 0) = false := by simp [hok]
  have hm := maskN_le he
  have hx' : exp < pw e := by have := maskN_eq e; have := pw_pos e; omega
  have hy' : frac < pw f := by have := maskN_eq f; have := pw_pos f; omega
  have Hok := Lib.hid hok
  clear hok
  have hn : decide ((exp : Int) < 0) = false := by simp
  have hw : IntKind.u64.wrap (exp : Int) = (exp : Int) := IntWalk.u64_in _ (by omega)
  have hn2 : decide ((maskN e : Int) < exp) = false := by simp; omega
  have hn3 : decide ((maskN f : Int) < frac) = false := by simp; omega
  go_enter Tryd.func62, Tryd.ntmps62
  go_wp2_with (go_at_call 60; refine (formCheck_any e f _).mono ?_; rintro en w1 ⟨rfl, hb1⟩; obtain ⟨hc1, hf1'⟩ := bcell hb1; obtain ⟨hz1, hz2⟩ := bsz2 hb1)
  go_quiet ((go_at_call 87; exact quiet_l (fun W e' => mask_any _ W (by omega)) _))
  go_wp2_with (go_at_call 89; (with_reducible refine (join_any e f neg exp frac _ he1 he hf hx' hy').mono ?_); rintro en w3 ⟨rfl, hb3⟩)
  go_ret2
  exact ⟨rfl, next (drewn (next (more (more (Below.refl _ _) _) _) hb1) _) hb3⟩

theorem Join_anyI (e f : Nat) (neg : Bool) (exp : Int) (frac : Nat) (w : World) (he1 : 2 ≤ e) (he : e ≤ 11) (hf1 : 1 ≤ f) (hf : f ≤ 52) (h0 : 0 ≤ exp) (hx : exp ≤ maskN e) (hy : frac ≤ maskN f) :
    Calls Tryd.prog 62 #[.agg #[.int .i64 e, .int .i64 f], .agg #[.bool neg, .int .i64 exp, .int .u64 frac]] w fun en w' => en = .returned (.tuple #[.int .u64 (joinN e f neg exp.toNat frac : Int), .int .i64 0]) ∧ Below w.heap.size w w' := by
  obtain ⟨exp, rfl⟩ := Int.eq_ofNat_of_zero_le h0
  exact Join_any e f neg exp frac w he1 he hf1 hf (by omega) hy
end Go.Proofs.YtmiheaoojmgalaaDoor

namespace Go.Proofs.YtmiheaoojmgalaaDoor
open Go.RowKit Go.Lb

set_option maxHeartbeats 4000000 in
set_option maxRecDepth 100000 in
theorem len64_any (x : Int) (w : World) (h0 : 0 ≤ x) (h1 : x ≤ 18446744073709551615) :
    Calls Tryd.prog 93 #[.int .u64 x] w fun e w' => e = .returned (.int .i64 (Lib.bitLen x.toNat)) ∧ w = w' := by
  have hs : Lib.len8tab.size = 256 := by decide +kernel
  go_enter Tryd.func93, Tryd.ntmps93
  go_wp2
  all_goals (go_ret; refine ⟨congrArg Ending.returned (congrArg (Value.int IntKind.i64) ?_), rfl⟩)
  · have e : (x / 4294967296 / 65536 / 256).toNat = x.toNat / 72057594037927936 := by omega
    have l := Lib.bitLen_le8' (x / 4294967296 / 65536 / 256) (by omega) (by omega)
    have s := Lib.bitLen_shift56 x.toNat (by omega) (by omega)
    rw [len8at _ (by omega)]
    rw [e] at l ⊢
    rw [wrap64_nat (Lib.bitLen _) (by omega)]
    first | rw [wrap64_nat (Lib.bitLen _) (by omega)] | (rw [IntWalk.wrap64_in _ ⟨by omega, by omega⟩]; omega)
  · have e : (x / 4294967296 / 65536).toNat = x.toNat / 281474976710656 := by omega
    have l := Lib.bitLen_le8' (x / 4294967296 / 65536) (by omega) (by omega)
    have s := Lib.bitLen_shift48 x.toNat (by omega) (by omega)
    rw [len8at _ (by omega)]
    rw [e] at l ⊢
    rw [wrap64_nat (Lib.bitLen _) (by omega)]
    first | rw [wrap64_nat (Lib.bitLen _) (by omega)] | (rw [IntWalk.wrap64_in _ ⟨by omega, by omega⟩]; omega)
  · have e : (x / 4294967296 / 256).toNat = x.toNat / 1099511627776 := by omega
    have l := Lib.bitLen_le8' (x / 4294967296 / 256) (by omega) (by omega)
    have s := Lib.bitLen_shift40 x.toNat (by omega) (by omega)
    rw [len8at _ (by omega)]
    rw [e] at l ⊢
    rw [wrap64_nat (Lib.bitLen _) (by omega)]
    first | rw [wrap64_nat (Lib.bitLen _) (by omega)] | (rw [IntWalk.wrap64_in _ ⟨by omega, by omega⟩]; omega)
  · have e : (x / 4294967296).toNat = x.toNat / 4294967296 := by omega
    have l := Lib.bitLen_le8' (x / 4294967296) (by omega) (by omega)
    have s := Lib.bitLen_shift32 x.toNat (by omega) (by omega)
    rw [len8at _ (by omega)]
    rw [e] at l ⊢
    rw [wrap64_nat (Lib.bitLen _) (by omega)]
    first | rw [wrap64_nat (Lib.bitLen _) (by omega)] | (rw [IntWalk.wrap64_in _ ⟨by omega, by omega⟩]; omega)
  · have e : (x / 65536 / 256).toNat = x.toNat / 16777216 := by omega
    have l := Lib.bitLen_le8' (x / 65536 / 256) (by omega) (by omega)
    have s := Lib.bitLen_shift24 x.toNat (by omega) (by omega)
    rw [len8at _ (by omega)]
    rw [e] at l ⊢
    rw [wrap64_nat (Lib.bitLen _) (by omega)]
    first | rw [wrap64_nat (Lib.bitLen _) (by omega)] | (rw [IntWalk.wrap64_in _ ⟨by omega, by omega⟩]; omega)
  · have e : (x / 65536).toNat = x.toNat / 65536 := by omega
    have l := Lib.bitLen_le8' (x / 65536) (by omega) (by omega)
    have s := Lib.bitLen_shift16 x.toNat (by omega) (by omega)
    rw [len8at _ (by omega)]
    rw [e] at l ⊢
    rw [wrap64_nat (Lib.bitLen _) (by omega)]
    first | rw [wrap64_nat (Lib.bitLen _) (by omega)] | (rw [IntWalk.wrap64_in _ ⟨by omega, by omega⟩]; omega)
  · have e : (x / 256).toNat = x.toNat / 256 := by omega
    have l := Lib.bitLen_le8' (x / 256) (by omega) (by omega)
    have s := Lib.bitLen_shift8 x.toNat (by omega) (by omega)
    rw [len8at _ (by omega)]
    rw [e] at l ⊢
    rw [wrap64_nat (Lib.bitLen _) (by omega)]
    first | rw [wrap64_nat (Lib.bitLen _) (by omega)] | (rw [IntWalk.wrap64_in _ ⟨by omega, by omega⟩]; omega)
  · have l := Lib.bitLen_le8' x (by omega) (by omega)
    rw [len8at _ (by omega)]
    rw [wrap64_nat (Lib.bitLen _) (by omega)]
    first | rw [wrap64_nat (Lib.bitLen _) (by omega)] | (rw [IntWalk.wrap64_in _ ⟨by omega, by omega⟩]; omega)

/-- A number has more than k bits just if it is not below 2^k. -/
theorem bitLen_gt {b k : Nat} (hb : b < 18446744073709551616) (hk : k ≤ 64) : k < Lib.bitLen b ↔ 2 ^ k ≤ b := by
  constructor
  · intro h
    apply Nat.le_of_not_lt
    intro hlt
    have := Lib.bitLen_le b k hk hlt
    omega
  · intro h
    apply Nat.lt_of_not_le
    intro hle
    have h0 : b ≠ 0 := by have := Nat.two_pow_pos k; omega
    have h1 := Lib.bitLenAux_bounds 64 b hb h0
    have h2 : b < 2 ^ Lib.bitLen b := h1.2.2
    have h3 : 2 ^ Lib.bitLen b ≤ 2 ^ k := Nat.pow_le_pow_right (by decide) hle
    omega
end Go.Proofs.YtmiheaoojmgalaaDoor

namespace Go.Proofs.YtmiheaoojmgalaaDoor
open Go.RowKit Go.Lb

/-- The error of bits in a form. -/
def fitsE (e f : Int) (b : Nat) : Int := if formE e f ≠ 0 then formE e f else if b < pw (1 + e.toNat + f.toNat) then 0 else 6

theorem fitsE_form {e f : Int} {b : Nat} (h : formE e f ≠ 0) : fitsE e f b = formE e f := by unfold fitsE; rw [if_pos h]
theorem fitsE_bits {e f b : Nat} (h : formE e f = 0) (hb : ¬ b < pw (1 + e + f)) : fitsE e f b = 6 := by
  unfold fitsE; rw [if_neg (by simp [h])]; simp only [Int.toNat_natCast]; rw [if_neg hb]
theorem fitsE_ok {e f b : Nat} (h : formE e f = 0) (hb : b < pw (1 + e + f)) : fitsE e f b = 0 := by
  unfold fitsE; rw [if_neg (by simp [h])]; simp only [Int.toNat_natCast]; rw [if_pos hb]

theorem int_div_pow (b k : Nat) : (b : Int) / 2 ^ k = ((b / 2 ^ k : Nat) : Int) := by
  rw [Int.natCast_ediv, Int.natCast_pow]
  rfl

set_option maxRecDepth 100000 in
set_option maxHeartbeats 1600000 in
theorem fits_any (e f : Int) (b : Nat) (w : World) (hb : b < 18446744073709551616) :
    Calls Tryd.prog 67 #[.agg #[.int .i64 e, .int .i64 f], .int .u64 b] w fun en w' => en = .returned (.int .i64 (fitsE e f b)) ∧ Below w.heap.size w w' := by
  by_cases h : formE e f = 0
  · obtain ⟨h1, h2, h3, h4⟩ := formE_ok h
    obtain ⟨e, rfl⟩ := Int.eq_ofNat_of_zero_le (by omega : 0 ≤ e)
    obtain ⟨f, rfl⟩ := Int.eq_ofNat_of_zero_le (by omega : 0 ≤ f)
    have hz : (formE (e : Int) (f : Int) != 0) = false := by simp [h]
    have hgt := bitLen_gt (b := b) (k := 1 + e + f) hb (by omega)
    have hw1 : IntKind.i64.wrap (1 + (e : Int)) = 1 + (e : Int) := IntWalk.i64_in _ (by omega)
    have hw2 : IntKind.i64.wrap (1 + (e : Int) + (f : Int)) = 1 + (e : Int) + (f : Int) := IntWalk.i64_in _ (by omega)
    have hbn : (b : Int).toNat = b := Int.toNat_natCast b
    by_cases hp : 2 ^ (1 + e + f) ≤ b
    · have hd : decide (1 + (e : Int) + (f : Int) < (Lib.bitLen b : Int)) = true := by have := hgt; simp; omega
      have H := Lib.hid (fitsE_bits h (by unfold pw; omega : ¬ b < pw (1 + e + f)))
      clear hgt hp h h1 h2 h3 h4
      go_enter Tryd.func67, Tryd.ntmps67
      go_wp2_with (go_at_call 60; refine (formCheck_any e f _).mono ?_; rintro en w1 ⟨rfl, hb1⟩; have hc1 := (bcell hb1).1; have c0 : w1.cell? ⟨w.heap.size, 0, none⟩ = some (.int .i64 (e : Int)) := (hc1 _ _ (by simp)).trans (World.cell?_alloc_new _ _ _ _); have c1 : w1.cell? ⟨w.heap.size, 1, none⟩ = some (.int .i64 (f : Int)) := (hc1 _ _ (by simp)).trans (World.cell?_alloc_new _ _ _ _); have hW := next (more (Below.refl _ _) _) hb1)
      go_quiet ((go_at_call 93; exact quiet_l (fun W e' => len64_any _ W (by omega) (by omega)) _))
      go_wp2
      go_ret
      exact ⟨by rw [H.out]; rfl, drewn hW _⟩
    · have hd : decide (1 + (e : Int) + (f : Int) < (Lib.bitLen b : Int)) = false := by have := hgt; simp; omega
      have H := Lib.hid (fitsE_ok h (by unfold pw; omega : b < pw (1 + e + f)))
      clear hgt hp h h1 h2 h3 h4
      go_enter Tryd.func67, Tryd.ntmps67
      go_wp2_with (go_at_call 60; refine (formCheck_any e f _).mono ?_; rintro en w1 ⟨rfl, hb1⟩; have hc1 := (bcell hb1).1; have c0 : w1.cell? ⟨w.heap.size, 0, none⟩ = some (.int .i64 (e : Int)) := (hc1 _ _ (by simp)).trans (World.cell?_alloc_new _ _ _ _); have c1 : w1.cell? ⟨w.heap.size, 1, none⟩ = some (.int .i64 (f : Int)) := (hc1 _ _ (by simp)).trans (World.cell?_alloc_new _ _ _ _); have hW := next (more (Below.refl _ _) _) hb1)
      go_quiet ((go_at_call 93; exact quiet_l (fun W e' => len64_any _ W (by omega) (by omega)) _))
      go_wp2
      go_ret
      exact ⟨by rw [H.out]; rfl, drewn hW _⟩
  · have hz : (formE e f != 0) = true := by simp [h]
    have H := Lib.hid (fitsE_form (b := b) h)
    clear h
    go_enter Tryd.func67, Tryd.ntmps67
    go_wp2_with (go_at_call 60; refine (formCheck_any e f _).mono ?_; rintro en w1 ⟨rfl, hb1⟩; have hW := next (more (Below.refl _ _) _) hb1)
    go_ret
    exact ⟨by rw [H.out]; rfl, hW⟩

set_option maxRecDepth 100000 in
set_option maxHeartbeats 1600000 in
theorem may_any (e f : Int) (b : Nat) (w : World) (hb : b < 18446744073709551616) :
    Calls Tryd.prog 38 #[.agg #[.int .i64 e, .int .i64 f], .int .u64 b] w fun en w' => en = .returned (.int .i64 (fitsE e f b)) ∧ Below w.heap.size w w' := by
  by_cases h : formE e f = 0
  · obtain ⟨h1, h2, h3, h4⟩ := formE_ok h
    obtain ⟨e, rfl⟩ := Int.eq_ofNat_of_zero_le (by omega : 0 ≤ e)
    obtain ⟨f, rfl⟩ := Int.eq_ofNat_of_zero_le (by omega : 0 ≤ f)
    have n1 : ¬ ((e : Int) < 2) := by omega
    have n2 : ¬ ((11 : Int) < e) := by omega
    have n3 : ¬ ((f : Int) < 1) := by omega
    have n4 : ¬ ((52 : Int) < f) := by omega
    have ht : (1 + (e : Int) + (f : Int)).toNat = 1 + e + f := by omega
    by_cases h63 : e + f < 63
    · by_cases hp : b < pw (1 + e + f)
      · have hq : (b : Int) / 2 ^ (1 + e + f) = 0 := by
          rw [int_div_pow, Nat.div_eq_of_lt (by unfold pw at hp; exact hp)]
          rfl
        have H := Lib.hid (fitsE_ok h hp)
        have h63' : (e : Int) + (f : Int) < 63 := by omega
        clear h hp h1 h2 h3 h4
        go_enter Tryd.func38, Tryd.ntmps38
        go_wp2
        go_ret
        exact ⟨by rw [H.out]; rfl, more (Below.refl _ _) _⟩
      · have hq : decide ((0 : Int) < (b : Int) / 2 ^ (1 + e + f)) = true := by
          rw [int_div_pow]
          have : 0 < b / 2 ^ (1 + e + f) := Nat.div_pos (by unfold pw at hp; omega) (Nat.two_pow_pos _)
          simp
          exact_mod_cast this
        have H := Lib.hid (fitsE_bits h hp)
        have h63' : (e : Int) + (f : Int) < 63 := by omega
        clear h hp h1 h2 h3 h4
        go_enter Tryd.func38, Tryd.ntmps38
        go_wp2
        go_ret
        exact ⟨by rw [H.out]; rfl, more (Below.refl _ _) _⟩
    · have hp : b < pw (1 + e + f) := Nat.lt_of_lt_of_le hb (by have := pw_le (show 64 ≤ 1 + e + f by omega); rw [show pw 64 = 18446744073709551616 by unfold pw; rfl] at this; exact this)
      have H := Lib.hid (fitsE_ok h hp)
      have h63' : ¬ ((e : Int) + (f : Int) < 63) := by omega
      clear h hp h1 h2 h3 h4
      go_enter Tryd.func38, Tryd.ntmps38
      go_wp2
      go_ret
      exact ⟨by rw [H.out]; rfl, more (Below.refl _ _) _⟩
  · have H := Lib.hid (fitsE_form (b := b) h)
    have h5 : formE e f = 5 := formE_no (fun hh => h (formE_yes hh))
    rw [h5] at H
    have hno : ¬(2 ≤ e ∧ e ≤ 11 ∧ 1 ≤ f ∧ f ≤ 52) := fun hh => h (formE_yes hh)
    clear h h5
    rcases (by omega : e < 2 ∨ (2 ≤ e ∧ 11 < e) ∨ (2 ≤ e ∧ e ≤ 11 ∧ f < 1) ∨ (2 ≤ e ∧ e ≤ 11 ∧ 1 ≤ f ∧ 52 < f)) with h | ⟨h1, h⟩ | ⟨h1, h2, h⟩ | ⟨h1, h2, h3, h⟩
    all_goals
      clear hno
      go_enter Tryd.func38, Tryd.ntmps38
      go_wp2
      go_ret
      exact ⟨by rw [H.out]; rfl, more (Below.refl _ _) _⟩

end Go.Proofs.YtmiheaoojmgalaaDoor
