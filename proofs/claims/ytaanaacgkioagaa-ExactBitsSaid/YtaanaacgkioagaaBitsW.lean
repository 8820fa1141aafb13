/-
  The walk of exact.Bits, a theorem for each way through it.
-/
import Derived.Test.YtaanaacgkioagaaBitsLaw
namespace Go.Proofs.Ytaanaacgkioagaa
open Go.RowKit Go.Lb

theorem bsz {w wp w1 : World} (hb : Below wp.heap.size wp w1) (h1 : w.heap.size < wp.heap.size) (h2 : w.heap.size + 1 < wp.heap.size) : w.heap.size < w1.heap.size ∧ w.heap.size + 1 < w1.heap.size := ⟨Nat.lt_of_lt_of_le h1 hb.size, Nat.lt_of_lt_of_le h2 hb.size⟩

theorem pw_wrapI_fin : ∀ e : Fin 12, IntKind.i64.wrap (2 ^ e.val) = ((2 ^ e.val : Nat) : Int) := by decide +kernel
theorem pw_wrapI {e : Nat} (h : e ≤ 11) : IntKind.i64.wrap (2 ^ e) = (pw e : Int) := by unfold pw; exact pw_wrapI_fin ⟨e, by omega⟩

theorem boxA (w : World) (c : Array Value) (t : TypeId) (o2 : Obj) (i : Nat) : ((w.alloc (.cells c t)).alloc o2).cell? ⟨w.heap.size, i, none⟩ = c[i]? :=
  (World.cell?_alloc_lt (w.alloc (.cells c t)) o2 ⟨w.heap.size, i, none⟩ (by simp)).trans (World.cell?_alloc_new w c t i)
theorem boxB (w : World) (c : Array Value) (t : TypeId) (o : Obj) (i : Nat) : ((w.alloc o).alloc (.cells c t)).cell? ⟨w.heap.size + 1, i, none⟩ = c[i]? := by
  have h := World.cell?_alloc_new (w.alloc o) c t i
  rwa [World.size_alloc] at h

theorem pw_wrap_fin : ∀ e : Fin 12, wrap64 (2 ^ e.val) = ((2 ^ e.val : Nat) : Int) := by decide +kernel
theorem pw_wrap {e : Nat} (h : e ≤ 11) : wrap64 (2 ^ e) = (pw e : Int) := by unfold pw; exact pw_wrap_fin ⟨e, by omega⟩

set_option maxHeartbeats 1000000 in
theorem exBits_form (e f : Int) (neg : Bool) (ao : Option Addr) (n c : Nat) (x : Int) (xs : List Nat) (w : World) (h : Sl w ao n c xs) (h0 : formE e f ≠ 0) :
    Calls Try.prog 6 #[.agg #[.int .i64 e, .int .i64 f], .agg #[.bool neg, .slice ao n c, .int .i64 x]] w fun en w' => en = .returned (.tuple #[.int .u64 0, .bool false, .int .i64 (formE e f)]) ∧ Below w.heap.size w w' := by
  have h0b : (formE e f == 0) = false := by simp [h0]
  have h0c : (formE e f != 0) = true := by simp [h0]
  clear h0
  go_enter Try.func6, Try.ntmps6
  go_wp2_with (first
    | (go_at_call 16; refine (formCheck_any e f _).mono ?_; rintro en w1 ⟨rfl, hb1⟩; obtain ⟨hc1, hz01⟩ := bcell hb1; obtain ⟨hz1, hy1⟩ := bsz2 hb1; have S1 := ((h.alloc _).alloc _).below hb1))
  go_ret3
  exact ⟨rfl, (by repeat (first | exact Below.refl _ _ | assumption | refine drewn ?_ _ | refine next ?_ (by assumption) | refine more ?_ _))⟩

set_option maxHeartbeats 1000000 in
theorem exBits_dy (e f : Nat) (he1 : 2 ≤ e) (he : e ≤ 11) (hf1 : 1 ≤ f) (hf : f ≤ 52) (neg : Bool) (ao : Option Addr) (n c : Nat) (x : Int) (xs : List Nat) (w : World) (h : Sl w ao n c xs) (h1 : dchk neg xs x ≠ 0) :
    Calls Try.prog 6 #[.agg #[.int .i64 e, .int .i64 f], .agg #[.bool neg, .slice ao n c, .int .i64 x]] w fun en w' => en = .returned (.tuple #[.int .u64 0, .bool false, .int .i64 (dchk neg xs x)]) ∧ Below w.heap.size w w' := by
  have hok : formE (e : Int) (f : Int) = 0 := formE_yes (by omega)
  have hokb : (formE (e : Int) (f : Int) == 0) = true := by simp [hok]
  clear hok
  have h1c : (dchk neg xs x != 0) = true := by simp [h1]
  clear h1
  go_enter Try.func6, Try.ntmps6
  go_wp2_with (first
    | (go_at_call 16; refine (formCheck_any (e : Int) (f : Int) _).mono ?_; rintro en w1 ⟨rfl, hb1⟩; obtain ⟨hc1, hz01⟩ := bcell hb1; obtain ⟨hz1, hy1⟩ := bsz2 hb1; have S1 := ((h.alloc _).alloc _).below hb1)
    | (go_at_call 7; refine (dyCheck_any neg ao n c x xs _ S1).mono ?_; rintro en w2 ⟨rfl, hb2⟩; obtain ⟨hc2, hz02⟩ := bcell hb2; obtain ⟨hz2, hy2⟩ := bsz hb2 hz1 hy1; have S2 := S1.below hb2))
  go_ret3
  exact ⟨rfl, (by repeat (first | exact Below.refl _ _ | assumption | refine drewn ?_ _ | refine next ?_ (by assumption) | refine more ?_ _))⟩

set_option maxHeartbeats 1000000 in
theorem exBits_none (e f : Nat) (he1 : 2 ≤ e) (he : e ≤ 11) (hf1 : 1 ≤ f) (hf : f ≤ 52) (neg : Bool) (ao : Option Addr) (n c : Nat) (x : Int) (xs : List Nat) (w : World) (h : Sl w ao n c xs) (h1 : dchk neg xs x = 0) (hn : noneB n = true) :
    Calls Try.prog 6 #[.agg #[.int .i64 e, .int .i64 f], .agg #[.bool neg, .slice ao n c, .int .i64 x]] w fun en w' => en = .returned (.tuple #[.int .u64 0, .bool true, .int .i64 0]) ∧ Below w.heap.size w w' := by
  have hok : formE (e : Int) (f : Int) = 0 := formE_yes (by omega)
  have hokb : (formE (e : Int) (f : Int) == 0) = true := by simp [hok]
  clear hok
  have h1c : (dchk neg xs x != 0) = false := by simp [h1]
  clear h1
  go_enter Try.func6, Try.ntmps6
  go_wp2_with (first
    | (go_at_call 16; refine (formCheck_any (e : Int) (f : Int) _).mono ?_; rintro en w1 ⟨rfl, hb1⟩; obtain ⟨hc1, hz01⟩ := bcell hb1; obtain ⟨hz1, hy1⟩ := bsz2 hb1; have S1 := ((h.alloc _).alloc _).below hb1)
    | (go_at_call 7; refine (dyCheck_any neg ao n c x xs _ S1).mono ?_; rintro en w2 ⟨rfl, hb2⟩; obtain ⟨hc2, hz02⟩ := bcell hb2; obtain ⟨hz2, hy2⟩ := bsz hb2 hz1 hy1; have S2 := S1.below hb2)
    | (go_at_call 17; refine (none_any ao n c _).mono ?_; rintro en w3 ⟨rfl, hb3⟩; obtain ⟨hc3, hz03⟩ := bcell hb3; obtain ⟨hz3, hy3⟩ := bsz hb3 hz2 hy2; have S3 := S2.below hb3))
  go_ret3
  exact ⟨rfl, (by repeat (first | exact Below.refl _ _ | assumption | refine drewn ?_ _ | refine next ?_ (by assumption) | refine more ?_ _))⟩

set_option maxRecDepth 100000 in
set_option maxHeartbeats 2000000 in
theorem exBits_big_sub (e f : Nat) (he1 : 2 ≤ e) (he : e ≤ 11) (hf1 : 1 ≤ f) (hf : f ≤ 52) (neg : Bool) (ao : Option Addr) (n c : Nat) (x : Int) (xs : List Nat) (w : World) (h : Sl w ao n c xs) (h1 : dchk neg xs x = 0) (hn : noneB n = false) (s m : Nat) (hs : bitsN xs = (s : Int)) (hsl : s ≤ 524288) (hm : lowN xs = m) (hx1 : -1073741824 ≤ x) (hx2 : x ≤ 1073741824) (hA : f + 1 < s) (hB : x + s - 1 + biasN e < 1) :
    Calls Try.prog 6 #[.agg #[.int .i64 e, .int .i64 f], .agg #[.bool neg, .slice ao n c, .int .i64 x]] w fun en w' => en = .returned (.tuple #[.int .u64 0, .bool false, .int .i64 0]) ∧ Below w.heap.size w w' := by
  have hok : formE (e : Int) (f : Int) = 0 := formE_yes (by omega)
  have hokb : (formE (e : Int) (f : Int) == 0) = true := by simp [hok]
  clear hok
  have h1c : (dchk neg xs x != 0) = false := by simp [h1]
  have hbias := bias_wrap he
  have hble := biasN_le he
  have hbpos := biasN_pos he1
  have hpwe := pw_wrap he
  have htwo := biasN_two he1
  have hple : pw e ≤ 2048 := by omega
  have h2b : pw e = 2 * biasN e + 2 := by omega
  have H2b := Lib.hid h2b
  clear h1 htwo h2b
  have hAd : decide ((f : Int) + 1 < s) = true := by simp; omega
  go_enter Try.func6, Try.ntmps6
  go_wp2_with (first
    | (go_at_call 16; refine (formCheck_any (e : Int) (f : Int) _).mono ?_; rintro en w1 ⟨rfl, hb1⟩; obtain ⟨hc1, hz01⟩ := bcell hb1; obtain ⟨hz1, hy1⟩ := bsz2 hb1; have S1 := ((h.alloc _).alloc _).below hb1)
    | (go_at_call 7; refine (dyCheck_any neg ao n c x xs _ S1).mono ?_; rintro en w2 ⟨rfl, hb2⟩; obtain ⟨hc2, hz02⟩ := bcell hb2; obtain ⟨hz2, hy2⟩ := bsz hb2 hz1 hy1; have S2 := S1.below hb2)
    | (go_at_call 17; refine (none_any ao n c _).mono ?_; rintro en w3 ⟨rfl, hb3⟩; obtain ⟨hc3, hz03⟩ := bcell hb3; obtain ⟨hz3, hy3⟩ := bsz hb3 hz2 hy2; have S3 := S2.below hb3)
    | (go_at_call 18; refine (natBits_any ao n c xs _ S3).mono ?_; rintro en w4 ⟨rfl, hb4⟩; obtain ⟨hc4, hz04⟩ := bcell hb4; obtain ⟨hz4, hy4⟩ := bsz hb4 hz3 hy3; have S4 := S3.below hb4)
    | (go_at_call 19; refine (natLow_any ao n c xs _ S4).mono ?_; rintro en w5 ⟨rfl, hb5⟩; obtain ⟨hc5, hz05⟩ := bcell hb5; obtain ⟨hz5, hy5⟩ := bsz hb5 hz4 hy4))
  go_region
  all_goals go_wp2
  all_goals go_quiet (fail)
  all_goals go_wp2
  all_goals go_ret3
  all_goals exact ⟨rfl, (by repeat (first | exact Below.refl _ _ | assumption | refine drewn ?_ _ | refine Below.drew ?_ | refine next ?_ (by assumption) | refine more ?_ _ | refine Below.setCell ?_ (by simp; omega) _))⟩

set_option maxRecDepth 100000 in
set_option maxHeartbeats 2000000 in
theorem exBits_big_norm (e f : Nat) (he1 : 2 ≤ e) (he : e ≤ 11) (hf1 : 1 ≤ f) (hf : f ≤ 52) (neg : Bool) (ao : Option Addr) (n c : Nat) (x : Int) (xs : List Nat) (w : World) (h : Sl w ao n c xs) (h1 : dchk neg xs x = 0) (hn : noneB n = false) (s m : Nat) (hs : bitsN xs = (s : Int)) (hsl : s ≤ 524288) (hm : lowN xs = m) (hx1 : -1073741824 ≤ x) (hx2 : x ≤ 1073741824) (hA : f + 1 < s) (hB : 1 ≤ x + s - 1 + biasN e) :
    Calls Try.prog 6 #[.agg #[.int .i64 e, .int .i64 f], .agg #[.bool neg, .slice ao n c, .int .i64 x]] w fun en w' => en = .returned (.tuple #[.int .u64 0, .bool false, .int .i64 0]) ∧ Below w.heap.size w w' := by
  have hok : formE (e : Int) (f : Int) = 0 := formE_yes (by omega)
  have hokb : (formE (e : Int) (f : Int) == 0) = true := by simp [hok]
  clear hok
  have h1c : (dchk neg xs x != 0) = false := by simp [h1]
  have hbias := bias_wrap he
  have hble := biasN_le he
  have hbpos := biasN_pos he1
  have hpwe := pw_wrap he
  have htwo := biasN_two he1
  have hple : pw e ≤ 2048 := by omega
  have h2b : pw e = 2 * biasN e + 2 := by omega
  have H2b := Lib.hid h2b
  clear h1 htwo h2b
  have hAd : decide ((f : Int) + 1 < s) = true := by simp; omega
  go_enter Try.func6, Try.ntmps6
  go_wp2_with (first
    | (go_at_call 16; refine (formCheck_any (e : Int) (f : Int) _).mono ?_; rintro en w1 ⟨rfl, hb1⟩; obtain ⟨hc1, hz01⟩ := bcell hb1; obtain ⟨hz1, hy1⟩ := bsz2 hb1; have S1 := ((h.alloc _).alloc _).below hb1)
    | (go_at_call 7; refine (dyCheck_any neg ao n c x xs _ S1).mono ?_; rintro en w2 ⟨rfl, hb2⟩; obtain ⟨hc2, hz02⟩ := bcell hb2; obtain ⟨hz2, hy2⟩ := bsz hb2 hz1 hy1; have S2 := S1.below hb2)
    | (go_at_call 17; refine (none_any ao n c _).mono ?_; rintro en w3 ⟨rfl, hb3⟩; obtain ⟨hc3, hz03⟩ := bcell hb3; obtain ⟨hz3, hy3⟩ := bsz hb3 hz2 hy2; have S3 := S2.below hb3)
    | (go_at_call 18; refine (natBits_any ao n c xs _ S3).mono ?_; rintro en w4 ⟨rfl, hb4⟩; obtain ⟨hc4, hz04⟩ := bcell hb4; obtain ⟨hz4, hy4⟩ := bsz hb4 hz3 hy3; have S4 := S3.below hb4)
    | (go_at_call 19; refine (natLow_any ao n c xs _ S4).mono ?_; rintro en w5 ⟨rfl, hb5⟩; obtain ⟨hc5, hz05⟩ := bcell hb5; obtain ⟨hz5, hy5⟩ := bsz hb5 hz4 hy4))
  go_quiet (fail)
  go_wp2
  all_goals go_ret3
  all_goals exact ⟨rfl, (by repeat (first | exact Below.refl _ _ | assumption | refine drewn ?_ _ | refine Below.drew ?_ | refine next ?_ (by assumption) | refine more ?_ _ | refine Below.setCell ?_ (by simp; omega) _))⟩

set_option maxRecDepth 100000 in
set_option maxHeartbeats 2000000 in
theorem exBits_over (e f : Nat) (he1 : 2 ≤ e) (he : e ≤ 11) (hf1 : 1 ≤ f) (hf : f ≤ 52) (neg : Bool) (ao : Option Addr) (n c : Nat) (x : Int) (xs : List Nat) (w : World) (h : Sl w ao n c xs) (h1 : dchk neg xs x = 0) (hn : noneB n = false) (s m : Nat) (hs : bitsN xs = (s : Int)) (hsl : s ≤ 524288) (hm : lowN xs = m) (hx1 : -1073741824 ≤ x) (hx2 : x ≤ 1073741824) (hA : s ≤ f + 1) (hB : 1 ≤ x + s - 1 + biasN e) (hC : 2 * (biasN e : Int) < x + s - 1 + biasN e) :
    Calls Try.prog 6 #[.agg #[.int .i64 e, .int .i64 f], .agg #[.bool neg, .slice ao n c, .int .i64 x]] w fun en w' => en = .returned (.tuple #[.int .u64 0, .bool false, .int .i64 0]) ∧ Below w.heap.size w w' := by
  have hok : formE (e : Int) (f : Int) = 0 := formE_yes (by omega)
  have hokb : (formE (e : Int) (f : Int) == 0) = true := by simp [hok]
  clear hok
  have h1c : (dchk neg xs x != 0) = false := by simp [h1]
  have hbias := bias_wrap he
  have hble := biasN_le he
  have hbpos := biasN_pos he1
  have hpwe := pw_wrap he
  have htwo := biasN_two he1
  have hple : pw e ≤ 2048 := by omega
  have h2b : pw e = 2 * biasN e + 2 := by omega
  have H2b := Lib.hid h2b
  clear h1 htwo h2b
  have hAd : decide ((f : Int) + 1 < s) = false := by simp; omega
  have hBd : decide (x < x + s - 1 - f) = false := by simp; omega
  have hCd : decide ((pw e : Int) - 2 < x + s - 1 + biasN e) = true := by have := H2b.out; simp; omega
  go_enter Try.func6, Try.ntmps6
  go_wp2_with (first
    | (go_at_call 16; refine (formCheck_any (e : Int) (f : Int) _).mono ?_; rintro en w1 ⟨rfl, hb1⟩; obtain ⟨hc1, hz01⟩ := bcell hb1; obtain ⟨hz1, hy1⟩ := bsz2 hb1; have S1 := ((h.alloc _).alloc _).below hb1)
    | (go_at_call 7; refine (dyCheck_any neg ao n c x xs _ S1).mono ?_; rintro en w2 ⟨rfl, hb2⟩; obtain ⟨hc2, hz02⟩ := bcell hb2; obtain ⟨hz2, hy2⟩ := bsz hb2 hz1 hy1; have S2 := S1.below hb2)
    | (go_at_call 17; refine (none_any ao n c _).mono ?_; rintro en w3 ⟨rfl, hb3⟩; obtain ⟨hc3, hz03⟩ := bcell hb3; obtain ⟨hz3, hy3⟩ := bsz hb3 hz2 hy2; have S3 := S2.below hb3)
    | (go_at_call 18; refine (natBits_any ao n c xs _ S3).mono ?_; rintro en w4 ⟨rfl, hb4⟩; obtain ⟨hc4, hz04⟩ := bcell hb4; obtain ⟨hz4, hy4⟩ := bsz hb4 hz3 hy3; have S4 := S3.below hb4)
    | (go_at_call 19; refine (natLow_any ao n c xs _ S4).mono ?_; rintro en w5 ⟨rfl, hb5⟩; obtain ⟨hc5, hz05⟩ := bcell hb5; obtain ⟨hz5, hy5⟩ := bsz hb5 hz4 hy4))
  go_quiet (fail)
  go_wp2
  all_goals go_ret3
  all_goals exact ⟨rfl, (by repeat (first | exact Below.refl _ _ | assumption | refine drewn ?_ _ | refine Below.drew ?_ | refine next ?_ (by assumption) | refine more ?_ _ | refine Below.setCell ?_ (by simp; omega) _))⟩

set_option maxRecDepth 100000 in
set_option maxHeartbeats 2000000 in
theorem exBits_low (e f : Nat) (he1 : 2 ≤ e) (he : e ≤ 11) (hf1 : 1 ≤ f) (hf : f ≤ 52) (neg : Bool) (ao : Option Addr) (n c : Nat) (x : Int) (xs : List Nat) (w : World) (h : Sl w ao n c xs) (h1 : dchk neg xs x = 0) (hn : noneB n = false) (s m : Nat) (hs : bitsN xs = (s : Int)) (hsl : s ≤ 524288) (hm : lowN xs = m) (hx1 : -1073741824 ≤ x) (hx2 : x ≤ 1073741824) (hA : s ≤ f + 1) (hB : x + s - 1 + biasN e < 1) (hC : x < 1 - (biasN e : Int) - f) :
    Calls Try.prog 6 #[.agg #[.int .i64 e, .int .i64 f], .agg #[.bool neg, .slice ao n c, .int .i64 x]] w fun en w' => en = .returned (.tuple #[.int .u64 0, .bool false, .int .i64 0]) ∧ Below w.heap.size w w' := by
  have hok : formE (e : Int) (f : Int) = 0 := formE_yes (by omega)
  have hokb : (formE (e : Int) (f : Int) == 0) = true := by simp [hok]
  clear hok
  have h1c : (dchk neg xs x != 0) = false := by simp [h1]
  have hbias := bias_wrap he
  have hble := biasN_le he
  have hbpos := biasN_pos he1
  have hpwe := pw_wrap he
  have htwo := biasN_two he1
  have hple : pw e ≤ 2048 := by omega
  have h2b : pw e = 2 * biasN e + 2 := by omega
  have H2b := Lib.hid h2b
  clear h1 htwo h2b
  have hAd : decide ((f : Int) + 1 < s) = false := by simp; omega
  have hBd : decide (x < 1 - (biasN e : Int) - f) = true := by simp; omega
  go_enter Try.func6, Try.ntmps6
  go_wp2_with (first
    | (go_at_call 16; refine (formCheck_any (e : Int) (f : Int) _).mono ?_; rintro en w1 ⟨rfl, hb1⟩; obtain ⟨hc1, hz01⟩ := bcell hb1; obtain ⟨hz1, hy1⟩ := bsz2 hb1; have S1 := ((h.alloc _).alloc _).below hb1)
    | (go_at_call 7; refine (dyCheck_any neg ao n c x xs _ S1).mono ?_; rintro en w2 ⟨rfl, hb2⟩; obtain ⟨hc2, hz02⟩ := bcell hb2; obtain ⟨hz2, hy2⟩ := bsz hb2 hz1 hy1; have S2 := S1.below hb2)
    | (go_at_call 17; refine (none_any ao n c _).mono ?_; rintro en w3 ⟨rfl, hb3⟩; obtain ⟨hc3, hz03⟩ := bcell hb3; obtain ⟨hz3, hy3⟩ := bsz hb3 hz2 hy2; have S3 := S2.below hb3)
    | (go_at_call 18; refine (natBits_any ao n c xs _ S3).mono ?_; rintro en w4 ⟨rfl, hb4⟩; obtain ⟨hc4, hz04⟩ := bcell hb4; obtain ⟨hz4, hy4⟩ := bsz hb4 hz3 hy3; have S4 := S3.below hb4)
    | (go_at_call 19; refine (natLow_any ao n c xs _ S4).mono ?_; rintro en w5 ⟨rfl, hb5⟩; obtain ⟨hc5, hz05⟩ := bcell hb5; obtain ⟨hz5, hy5⟩ := bsz hb5 hz4 hy4))
  go_region
  all_goals go_wp2
  all_goals go_quiet (fail)
  all_goals go_wp2
  all_goals go_ret3
  all_goals exact ⟨rfl, (by repeat (first | exact Below.refl _ _ | assumption | refine drewn ?_ _ | refine Below.drew ?_ | refine next ?_ (by assumption) | refine more ?_ _ | refine Below.setCell ?_ (by simp; omega) _))⟩

end Go.Proofs.Ytaanaacgkioagaa
